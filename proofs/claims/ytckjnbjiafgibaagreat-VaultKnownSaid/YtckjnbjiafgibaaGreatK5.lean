/- Parts of the proof, in one text. -/
import Derived.Test.YtckjnbjiafgibaaGreatK4
import Derived.BigRegion
import Derived.Test.YtckjnbjiafgibaaGreatK1
import Derived.Laws.EntriesVeiled
namespace Go.Proofs.YtckjnbjiafgibaaGreat
set_option linter.unusedVariables false
set_option linter.unusedSimpArgs false
set_option maxRecDepth 100000
set_option maxHeartbeats 16000000
open _root_.Array renaming getElem?_toList->zW
open _root_.Bool renaming and_eq_true->zY
open _root_.Go renaming World->zA,Value->zB,TypeId->zE,Program->zG,Oper->zI,Calls->zK
open _root_.Go.Proofs.Tryz renaming prog->zM
open _root_.Go.Region renaming wanted->zJ,Mode->zX,waitsFor->zZ
open _root_.Go.RowKit renaming Below->zD
open _root_.Go.RowKit.Below renaming refl->zO
open _root_.Go.World renaming cell?_of_block->zP,block_lt_of_cell?->zU
open _root_.List renaming getElem?_eq_getElem->zC,range->zL,append_assoc->zQ,getElem?_take->zR,replicate->zT,take_of_length_le->zV
open _root_.Nat renaming lt_or_ge->zF,eq_zero_or_pos->zH,le_refl->zN,zero_add->zS
open _root_.Option.some renaming inj->za
section
open Go.RowKit Go.Maps
theorem Q5W {j n:Nat}:j<grps n <-> 4*j<n:=by unfold grps; omega
theorem Q6R {ds:LL} (hd:Digs ds) (p:Nat) (hp:4*p<=ds.length):((Q0e ds).drop (4*p*32)).take ((min (4*p+4) ds.length - 4*p)*32)=Q0e (grp ds p):=by
 rw [Q4R hd,Q4q (fun d h=>hd d (List.mem_of_mem_drop h))];unfold grp;congr 1
 rcases zF (ds.length - 4*p) 4 with h | h
 ·rw [zV (by rw [List.length_drop]; omega),zV (by rw [List.length_drop]; omega)]
 rw [show min (4*p+4) ds.length - 4*p=4 by omega]
def Q2c (ds:LL) (j:Nat):LL:=(zL j).map fun p=>upD (grp ds p)
theorem Q5H (ds:LL) (j:Nat):Q2c ds (j+1)=Q2c ds j++[upD (grp ds j)]:=by simp [Q2c,List.range_succ]
theorem Q6y:(Tryz.prog.info? 51).map (fun i=>(i.zero,i.size,i.bytes))=some (some (.agg inkZ),32,32):=by kernel_rfl
theorem tdiv4 (j:Nat):(4*(j:Int)).tdiv 4=(j:Int):=Int.mul_tdiv_cancel_left _ (by decide)
theorem Q9B (w:zA) (cs:Array zB) (t:zE) (m:Nat) (h:cs.size=m):Q04 (w.alloc (.cells cs t)) (w.heap.size+1) m (some ⟨w.heap.size,0,none⟩) 1 cs.toList:=by
 obtain⟨_,h2⟩:=Q0m w cs t;refine⟨by simp [h],fun _=>?_⟩;rcases zH cs.size with h0 | h0
 ·exact⟨_,rfl,by simp,fun j u hu=>by
   have:cs.toList.length=0:=by simpa using h0
   rw [List.getElem?_eq_none (by omega)] at hu; cases hu⟩
 obtain⟨ad,h3,h4,h5⟩:=h2 h0;exact⟨ad,h3,h4,h5⟩
theorem Q15 {w w':zA} {B n s:Nat} {e:zE} {v:zB} {vs:List zB} (h:w.ownsRow B e s v n vs) (hk:∀ b,v.ownBlock=some b->w'.heap[b]?=w.heap[b]?):w'.ownsRow B e s v n vs:=by
 rcases h.2 with hv | ⟨g,cap,cur,hv,h2,h3,h4⟩
 ·exact⟨h.1,.inl hv⟩
 exact⟨h.1,.inr ⟨g,cap,cur,hv,h2,(hk g (by rw [hv]; rfl)).trans h3,h4⟩⟩
theorem Q10 {w:zA} {B b n s:Nat} {e:zE} {v:zB} {vs:List zB} (h:w.ownsRow B e s v n vs) (hb:v.ownBlock=some b):B<=b/\b<w.heap.size:=h.lt b hb
theorem Q1q {l:LL} {x y:List UInt8} (h:y∈l):y∈Q0Q l x:=by
 unfold Q0Q;split
 ·exact h
 exact List.mem_append_left _ h
theorem Q2f (l:LL) (x:List UInt8):x∈Q0Q l x:=by
 unfold Q0Q;split
 ·rename_i h; simpa using h
 exact List.mem_append_right _ (List.mem_singleton.2 rfl)
theorem Q9y (k:Book) (L:LL) (asked:Nat) (A:Option Addr) (n c:Nat) (ds:LL) (w:zA) (hbk:Q0d w k L asked) (h:Q04 w w.heap.size 32 A n (Q0e ds)) (hap:∀ a,0<n->A=some a->¬ k.has a.block) (hd:Digs ds) (hn:n<=1000) (hc:n<=c) (has:asked<=900000) :
 zK zM 111 #[.pointer (some ⟨k.g,0,none⟩),.slice A n c] w fun e w'=>∃ v L',e=.returned v/\w'.ownsRow w.heap.size 51 32 v (grps n) (Q0e (Q1p ds))/\Q0d w' k L' (asked+grps n)/\(∀ x,x∈L->x∈L')/\(∀ p,p<grps n->upIn (grp ds p)∈L')/\Q0b k w w':=by
 have hxn:ds.length=n:=by have h2:=h.1; rw [Q1j hd] at h2; omega
 have HXN:=sH hxn;have HD:=sH hd;have HR:=sH h;have HAP:=sH hap;have hlt:=hbk.lt;have HLT:=sH hlt;have HBK:=sH hbk;have HZS:=sH (show inkZ.size=32 by simp [inkZ,bRow]);have HZ:=sH Q1O;obtain⟨i0,hi0,hz0,hz1,hz2⟩:=info_parts Q6y;clear h hlt hbk hxn hd hap;have hgn:grps n<=251:=by unfold grps; omega
 go_enter Tryz.func111,Tryz.ntmps111
 go_wp2_with fail
 go_loopw [5,6] (fun ov iv wr=>∃ j:Nat,j<=grps n/\iv=.int .i64 (4*(j:Int))/\wr.ownsRow w.heap.size 51 32 ov j (Q0e (Q2c ds j))/\(∃ Lr,Q0d wr k Lr (asked+j)/\(∀ x,x∈L->x∈Lr)/\(∀ p,p<j->upIn (grp ds p)∈Lr))/\Q0b k w wr) (fun _ iv _=>n+8 - (intOf iv).toNat)
 case atStart=>exact⟨0,by omega,by simp,World.ownsRow_nil _ _ _ _,⟨L,HBK.out,fun _ h=>h,fun p hp=>by omega⟩,Q0b.refl _ _⟩
 obtain⟨j,hj,rfl,hov,⟨Lr,hbr,hLr,hLp⟩,hob⟩:=hrel;have HOV:=sH hov;have HB:=sH hbr;have HOB:=sH hob;have HLR:=sH hLr;have HLP:=sH hLp;have hsz:=hob.size;clear hov hbr hob hLr hLp;by_cases hjn:j<grps n
 ·have h4n:4*j<n:=Q5W.1 hjn;have h4i:4*(j:Int)<(n:Int):=by omega
  have HQ:=sH (tdiv4 j);have hdv:=tdiv4 j;have hgr:=fun W=>Q6K A n c j W (by omega) (by omega) hc
  have hrs:Q04 wr wr.heap.size 32 (if c=4*j then A else A.map (·.add (4*j*32))) (min (4*j+4) n - 4*j) (Q0e (grp ds j)):=by have h1:=(Only.of_book HOB.out).reads HR.out HAP.out;have h2:=h1.sub (l:=4*j) (k:=min (4*j+4) n) (cap:=c) (by omega) (by omega) hc;rw [<- HXN.out,Q6R HD.out j (by have:=HXN.out; omega),HXN.out] at h2;exact h2
  have hup:=up_any k Lr (asked+j) _ _ (c - 4*j) (grp ds j) wr _ HB.out hrs (zN _) (Q7X HD.out j) (by omega) (by omega) (by omega);generalize (if c=4*j then A else A.map (·.add (4*j*32)))=A2 at hgr hup;have HG:=sH hgr;have HU:=sH hup;have hsz5:(bRow (upD (grp ds j))).size=32:=Q0P (Q4l _);have hon:=Q0I (upD (grp ds j));have hdv2:(bRow (upD (grp ds j))).toList=(upD (grp ds j)).map vb:=by simp [bRow]
  obtain⟨D,hD⟩:∃ D,D=bRow (upD (grp ds j)):=⟨_,rfl⟩;rw [<- hD] at HU hsz5 hon hdv2;have HSZ:=sH hsz5;have HON:=sH hon;have HDV:=sH hdv2;clear hgr hrs hup hsz5 hon hD hdv2;go_wp2_with fail
  refine(HG.out wr).mono ?_;rintro _ _ ⟨rfl,rfl⟩;go_wp2_with fail
  refine HU.out.mono ?_;rintro _ w3 ⟨rfl,hbk3,ho3⟩;have HB3:=sH hbk3;have HO3:=sH (HOB.out.trans ho3);have hrow3:=Q15 HOV.out (w':=w3) (fun b hb=>by have:=Q10 HOV.out hb;have hl:=HLT.out;exact ho3.block b this.2 (by rintro (e | e | e) <;> omega))
  have HW3:=sH hrow3;have hs3:=ho3.size;clear hbk3 ho3 hrow3 HG HU HB HOV HOB;go_upto_region 6 with(refine Q00 (o:=⟨none,_,_,_,_,_⟩) rfl 51 (.tmp 7) (.tmp 22) rfl w3.heap.size 0 D rfl rfl 51 inkZ (by rw [HZ.out]; exact Blk.newAt rfl) (by rw [HSZ.out]; rfl) (by rw [HSZ.out,HZS.out]; omega) HON.out ?_; intro w4 hT4 hD4; rw [Q0h _ _ (by rw [HSZ.out,HZS.out])] at hD4)
  have hb4:zD w3.heap.size w3 w4:=hT4.below ((zO _ _).alloc (zN _) _) (zN _);have HB4:=sH (HB3.out.below hb4);have HO4:=sH (HO3.out.trans (Q0b.of_below hb4));have HW4:=sH (Q15 HW3.out (fun b hb=>hb4.block b (Q10 HW3.out hb).2));have hs4:=hb4.size;have HD4:=sH hD4;obtain⟨g4,hg4⟩:∃ g,g=w3.heap.size:=⟨_,rfl⟩;rw [<- hg4] at HD4 ⊢;have hSZ:=HSZ.out;clear hT4 hD4 hb4 HW3 hg4 HB3 HO3;go_wp2_with (first
   | (refine Q0c (o:=⟨some 25,_,_,_,_,_⟩) rfl 51 (.tmp 7) rfl g4 0 32 rfl 51 _ D _ HD4.out Tryz.underlying51 rfl rfl HSZ.out (fun _ _=>by rw [zS]) ?_)
   | (at_builtin; (rw [Q7y _ D 32 rfl HSZ.out]; refine Q06 _ rfl (.tmp 24) (.tmp 26) 139 rfl w.heap.size 51 i0 _ 32 32 Tryz.underlying139 hi0 hz0 hz1 hz2 HZS.out (by omega) _ j (Q0e (Q2c ds j)) rfl ?row (w4.heap.size+1) (some ⟨w4.heap.size,0,none⟩) 1 1 D.toList rfl ?rd ?c1 ?c2 ?c3 ?c4 ?_)))
  case row=>exact Q15 HW4.out (fun b hb=>Below.heap_alloc _ _ b (Q10 HW4.out hb).2)
  case rd=>exact Q9B _ _ _ _ HSZ.out
  case c1=>exact fun u hu=>List.all_eq_true.1 (by have:=HON.out; rw [<- Array.all_toList] at this; exact this) u hu
  case c2=>unfold maxLen; omega
  case c3=>omega
  case c4=>have:=HO4.out.size; simp; omega
  intro v6 w6 hown6 hg6 hor6;have hal:zD w4.heap.size w4 (w4.alloc (.cells D 51)):=(zO _ _).alloc (zN _) _;have hO6:Q0b k w w6:=by have h5:=HO4.out.trans (Q0b.of_below hal);have hsz4:=HO4.out.size;refine⟨hg6.os.trans h5.os,hg6.tape.trans h5.tape,hg6.output.trans h5.output,Nat.le_trans h5.size hg6.size,fun i hi hn=>(hg6.block i (by have:=h5.size; omega) (fun e=>?_)).trans (h5.block i hi hn)⟩;have:=(Q10 HW4.out e.symm).1;omega
  have hB6:Q0d w6 k (Q0Q Lr (upIn (grp ds j))) (asked+j+1):=by have h5:=HB4.out.below hal;have hl:=HLT.out;refine h5.only (N:=fun b=>w.heap.size<=b) ⟨hg6.os,hg6.tape,hg6.output,hg6.size,fun i hi hn=>hg6.block i hi (fun e=>hn (Q10 HW4.out e.symm).1)⟩ ?_ ?_ ?_ <;> omega
  have HB6:=sH hB6;have HO6:=sH hO6;have hown7:w6.ownsRow w.heap.size 51 32 v6 (j+1) (Q0e (Q2c ds (j+1))):=by
   rw [Q5H,Q5r];have e:Q0e [upD (grp ds j)]=D.toList:=by rw [HDV.out]; simp [Q0e]
   rw [e];exact hown6
  have HW6:=sH hown7;clear hB6 hO6 hal hown6 hown7 hg6 hor6 HW4 HB4 HO4;go_wp2_with fail
  go_roundw
  case rel=>exact⟨j+1,by omega,by go_num,HW6.out,⟨_,HB6.out,fun x hx=>Q1q (HLR.out x hx),fun p hp=>by
   rcases zF p j with h | h
   ·exact Q1q (HLP.out p h)
   obtain rfl:p=j:=by omega
   exact Q2f _ _⟩,HO6.out⟩
  case measure=>simp [intOf]; omega
 have h4i:¬ 4*(j:Int)<(n:Int):=by have:=mt Q5W.2 hjn; omega
 obtain rfl:j=grps n:=by omega
 go_wp2_with fail
 go_ret
 refine⟨_,rfl,?_,Lr,HB.out,HLR.out,HLP.out,HOB.out⟩;have:=HOV.out;rw [show Q2c ds (grps n)=Q1p ds by unfold Q2c Q1p; rw [HXN.out]] at this;exact this
structure Q1H (w:zA) (g cap:Nat) (ds:LL):Prop where
 row:∃ cur:Array zB,Blk w g 51 cur/\cur.size=cap*32/\cur.toList.take (ds.length*32)=Q0e ds
 cap:ds.length<=cap/\cap<=maxLen
theorem Q1H.of_own {w:zA} {B:Nat} {v:zB} {n:Nat} {ds:LL} (h:w.ownsRow B 51 32 v n (Q0e ds)) (hd:Digs ds) (h0:0<n):ds.length=n/\∃ g cap,v=.slice (some ⟨g,0,none⟩) n cap/\B<=g/\Q1H w g cap ds:=by
 have hl:ds.length=n:=by have:=h.1; rw [Q1j hd] at this; omega
 rcases h.2 with⟨_,h1⟩ | ⟨g,cap,cur,hv,h2,h3,h4,h5,h6,h7⟩
 ·omega
 exact⟨hl,g,cap,hv,h2,⟨⟨cur,h3,h6,by rw [hl]; exact h7⟩,by omega,h5⟩⟩
theorem Q1H.lt {w:zA} {g cap:Nat} {ds:LL} (h:Q1H w g cap ds):g<w.heap.size:=by obtain⟨cur,h1,_⟩:=h.row;exact h1.lt
theorem Q1H.keep {w w':zA} {g cap:Nat} {ds:LL} (h:Q1H w g cap ds) (hk:w'.heap[g]?=w.heap[g]?):Q1H w' g cap ds:=by obtain⟨cur,h1,h2⟩:=h.row;exact⟨⟨cur,hk.trans h1,h2⟩,h.cap⟩
theorem Q1H.reads {w:zA} {g cap:Nat} {ds:LL} (h:Q1H w g cap ds) (hd:Digs ds):Q04 w w.heap.size 32 (some ⟨g,0,none⟩) ds.length (Q0e ds):=by
 obtain⟨cur,h1,h2,h3⟩:=h.row;refine⟨Q1j hd,fun _=>⟨_,rfl,h1.lt,fun j u hu=>?_⟩⟩;rw [Q1s,zS,h1.cell,<- zW];rw [<- h3,zR] at hu;split at hu
 ·exact hu
 cases hu
theorem Q1H.set {w w':zA} {g cap i:Nat} {ds:LL} {d:List UInt8} (h:Q1H w g cap ds) (hd:Digs ds) (hdl:d.length=32) (hi:i<ds.length) (hk:∀ cur:Array zB,Blk w g 51 cur->cur.size=cap*32->Blk w' g 51 (spl cur (i*32) (d.map vb))):Q1H w' g cap (ds.set i d):=by
 obtain⟨cur,h1,h2,h3⟩:=h.row;have hc:=h.cap;have hm:(i+1)*32<=cap*32:=Nat.mul_le_mul_right _ (by omega);have hle:i*32+(d.map vb).length<=cur.size:=by rw [List.length_map,hdl,h2]; omega
 refine⟨⟨_,hk cur h1 h2,by rw [Q3h hle,h2],?_⟩,by rw [List.length_set]; exact hc⟩;apply List.ext_getElem?
 intro j;have hl:=Q1j (hd.set i hdl);have hl0:=Q1j hd;rw [List.length_set] at hl ⊢;rw [zR];rcases zF j (ds.length*32) with hj | hj
 ·rw [if_pos hj,zW,Q3a hle];have hq:j / 32<ds.length:=by omega
  have hj2:j=j / 32*32+j % 32:=by omega
  by_cases he:j / 32=i
  ·rw [if_pos (by rw [List.length_map,hdl]; omega)];have:=Q2j (hd.set i hdl) i (j % 32) (d:=d) (by rw [List.getElem?_set_self hi]) (by omega);rw [hj2,he,this];congr 1
   omega
  rw [if_neg (by rw [List.length_map,hdl]; omega),<- zW];have e1:(Q0e ds)[j]?=cur.toList[j]?:=by rw [<- h3,zR,if_pos hj]
  have hg1:=Q2j hd (j / 32) (j % 32) (zC hq) (by omega);have hg2:=Q2j (hd.set i hdl) (j / 32) (j % 32) (d:=ds[j / 32]) (by rw [List.getElem?_set_ne (fun e=>he e.symm),zC hq]) (by omega);rw [<- hj2] at hg1 hg2;rw [hg2,<- hg1,e1]
 rw [if_neg (by omega),List.getElem?_eq_none (by omega)]
theorem slc_info:(Tryz.prog.info? 139).map (fun i=>(i.zero,i.size,i.bytes))=some (some (.slice none 0 0),1,24):=by kernel_rfl
structure LvSt (w wr:zA) (k:Book) (L:LL) (asked:Nat) (ls:LL) (g0 c s:Nat) (gs cs:Nat->Nat) (ov:zB):Prop where
 g0:gs 0=g0
 c0:cs 0=c
 row:wr.ownsRow w.heap.size 139 1 ov (s+1) ((zL (s+1)).map fun j=>.slice (some ⟨gs j,0,none⟩) (lv ls j).length (cs j))
 dig:∀ j,j<=s->Q1H wr (gs j) (cs j) (lv ls j)
 new:∀ j,1<=j->j<=s->w.heap.size<=gs j
 ne:∀ i j,i<j->j<=s->gs i≠gs j
 book:∃ L' a',Q0d wr k L' a'/\a'<=asked+4*s/\(∀ x,x∈L->x∈L')/\(1<=s->∀ p,p<grps ls.length->upIn (grp (lv ls 0) p)∈L')/\(2<=s->upIn (lv ls 1)∈L')
 only:Q0b k w wr
theorem Q7F {ls:LL} (h5:5<=ls.length) (h16:ls.length<=16) (s:Nat) (hs:s<=2):(1<(lv ls s).length <-> s<2)/\(lv ls s).length<=16/\1<=(lv ls s).length/\grps (lv ls s).length<=4:=by
 have h0:=Q4X ls;have h1:=Q4n ls;have h2:=lv_len2 ls;obtain rfl | rfl | rfl:s=0\/s=1\/s=2:=by omega
 ·rw [h0]; unfold grps; omega
 ·rw [h1]; unfold grps; omega
 rw [h2]; unfold grps; omega
theorem Q8x (k:Book) (L:LL) (asked:Nat) (g0 n c:Nat) (ls:LL) (w:zA) (hbk:Q0d w k L asked) (h:Q1H w g0 c (lv ls 0)) (hap:¬ k.has g0) (h5:5<=ls.length) (h16:ls.length<=16) (hn:n=ls.length) (has:asked<=800000) :
 zK zM 95 #[.pointer (some ⟨k.g,0,none⟩),.slice (some ⟨g0,0,none⟩) n c] w fun e w'=>∃ v gs cs,e=.returned v/\LvSt w w' k L asked ls g0 c 2 gs cs v:=by
 have hn0:n=(lv ls 0).length:=by rw [Q4X]; exact hn
 have HAP:=sH hap;have HBK:=sH hbk;have H0:=sH h;have h0lt:=h.lt;have hlt:=hbk.lt;have HLT:=sH hlt;have HN:=sH hn0;obtain⟨i0,hi0,hz0,hz1,hz2⟩:=info_parts slc_info;have hw0:=World.ownsRow_lit (base:=w.heap.size) (e:=139) (size:=1) w #[.slice (some ⟨g0,0,none⟩) n c] 1 (zN _) (by unfold maxLen; omega) rfl;have hst:LvSt w (w.alloc (.cells #[.slice (some ⟨g0,0,none⟩) n c] 139)) k L asked ls g0 c 0 (fun _=>g0) (fun _=>c) (.slice (some ⟨w.heap.size,0,none⟩) 1 1):=by
  refine⟨rfl,rfl,?_,fun j hj=>?_,fun j h1 h2=>by omega,fun i j h1 h2=>by omega,⟨L,asked,hbk.below (Q0a _ _),by omega,fun _ h=>h,fun h=>by omega,fun h=>by omega⟩,Q0b.of_below (Q0a _ _)⟩
  ·rw [hn0] at hw0 ⊢;exact hw0
  obtain rfl:j=0:=by omega
  exact h.keep (Below.heap_alloc _ _ _ h0lt)
 have HST:=sH hst;clear h hap hbk hlt hst hw0 hn hn0;go_enter Tryz.func95,Tryz.ntmps95
 go_wp2_with fail
 go_loopw [1,5] (fun lw ov wr=>∃ s gs cs m,s<=2/\m=(lv ls s).length/\lw=.slice (some ⟨gs s,0,none⟩) m (cs s)/\LvSt w wr k L asked ls g0 c s gs cs ov) (fun lw _ _=>(match lw with | .slice _ n _=>n | _=>0))
 case atStart=>exact⟨0,_,_,n,by omega,HN.out,rfl,HST.out⟩
 obtain⟨s,gs,cs,m,hs,hm,rfl,hlv⟩:=hrel;have HLV:=sH hlv;obtain⟨hc1,hc2,hc3,hc4⟩:=Q7F h5 h16 s hs;rw [<- hm] at hc1 hc2 hc3 hc4;have HM:=sH hm;by_cases h1:1<m
 ·have hs2:=hc1.1 h1;have h1i:(1:Int)<(m:Int):=by omega
  obtain⟨Ls,a',hbk,ha',hLs,hp1,hp2⟩:=hlv.book;have hg:=hlv.dig s (zN _);have hgk:¬ k.has (gs s):=by
   rcases zH s with e | e
   ·subst e; rw [hlv.g0]; exact HAP.out
   have:=hlv.new s e (zN _);have hl:=HLT.out;rintro (e | e | e) <;> omega
  have hab:=Q9y k Ls a' (some ⟨gs s,0,none⟩) m (cs s) (lv ls s) wr hbk (by have:=hg.reads (Q3H ls s); rw [<- hm] at this; exact this) (fun a _ e=>by injection e with e; subst e; exact hgk) (Q3H ls s) (by omega) (by have:=hg.cap; rw [<- hm] at this; exact this.1) (by omega);have HAB:=sH hab;have HL1:=sH hLs;have HP1:=sH hp1;have HP2:=sH hp2;have hsw:=hlv.only.size;clear hlv hbk hg hab hLs hp1 hp2 hm;go_wp2_with fail
  refine HAB.out.mono ?_;rintro _ w3 ⟨v3,L3,rfl,hrow3,hbk3,hL3,hp3,ho3⟩;obtain⟨hl3,g3,c3,rfl,hg3,hd3⟩:=Q1H.of_own hrow3 (Q4A _) (by unfold grps; omega);have HR3:=sH (Q15 HLV.out.row (w':=w3) (fun b hb=>by have:=Q10 HLV.out.row hb;have hl:=HLT.out;exact ho3.block b this.2 (by rintro (e | e | e) <;> omega)))
  have HO3:=sH (HLV.out.only.trans ho3);have hs3:=ho3.size;obtain⟨m2,hm2⟩:∃ m2,m2=grps m:=⟨_,rfl⟩;rw [<- hm2];have HM2:=sH hm2;have HW3:=sH (Q0m w3 #[.slice (some ⟨g3,0,none⟩) m2 c3] 139);have HBK3:=sH hbk3;have HL3:=sH hL3;have HP3:=sH hp3;have HD3:=sH hd3;have HO:=sH ho3;have hm2l:m2<=4/\1<=m2:=by rw [hm2]; unfold grps at hc4 ⊢; omega
  clear hrow3 hbk3 hL3 hp3 hd3 ho3 HAB hm2;go_wp2_with (at_builtin; go_must (refine Q06 _ rfl (.tmp 14) (.tmp 16) 151 rfl w.heap.size 139 i0 _ 1 24 Tryz.underlying151 hi0 hz0 hz1 hz2 rfl (by omega) _ (s+1) ((zL (s+1)).map fun j=>Value.slice (some ⟨gs j,0,none⟩) (lv ls j).length (cs j)) rfl ?row (w3.heap.size+1) (some ⟨w3.heap.size,0,none⟩) 1 1 [.slice (some ⟨g3,0,none⟩) m2 c3] rfl ?rd ?c1 ?c2 ?c3 ?c4 ?_))
  case row=>exact Q15 HR3.out (fun b hb=>Below.heap_alloc _ _ b (Q10 HR3.out hb).2)
  case rd=>exact HW3.out
  case c1=>intro u hu; rw [List.mem_singleton] at hu; subst hu; rfl
  case c2=>unfold maxLen; omega
  case c3=>omega
  case c4=>simp; omega
  intro v6 w6 hown6 hg6 hor6;have hal:zD w3.heap.size w3 (w3.alloc (.cells #[.slice (some ⟨g3,0,none⟩) m2 c3] 139)):=Q0a _ _;have hfar:∀ b,b<w.heap.size->w6.heap[b]?=w3.heap[b]?:=fun b hb=>(hg6.block b (by have:=hal.size; omega) (fun e=>by have:=(Q10 HR3.out e.symm).1; omega)).trans (hal.block b (by omega))
  have hkeep:∀ b,b<w3.heap.size->(∃ cur,Blk w3 b 51 cur)->w6.heap[b]?=w3.heap[b]?:=fun b hb ⟨cur,hcur⟩=>(hg6.block b (by have:=hal.size; omega) (fun e=>Q2T HR3.out hcur (by decide) e.symm)).trans (hal.block b hb)
  have hdk:∀ g cap ds,Q1H w3 g cap ds->Q1H w6 g cap ds:=fun g cap ds hd=>hd.keep (by obtain⟨cur,h1,_⟩:=hd.row;exact hkeep g hd.lt ⟨cur,h1⟩)
  have hst6:LvSt w w6 k L asked ls g0 c (s+1) (fun j=>if j=s+1 then g3 else gs j) (fun j=>if j=s+1 then c3 else cs j) v6:=by
   have hold:=HLV.out;have ho:=HO.out;have hl:=HLT.out;refine⟨by simp [hold.g0],by simp [hold.c0],?_,fun j hj=>?_,fun j h1 h2=>?_,fun i j h1 h2=>?_,⟨L3,a'+grps m,?_,?_,fun x hx=>HL3.out x (HL1.out x hx),fun _ p hp=>?_,fun h2=>?_⟩,?_⟩
   ·have e:(zL (s+1+1)).map (fun j=>Value.slice (some ⟨if j=s+1 then g3 else gs j,0,none⟩) (lv ls j).length (if j=s+1 then c3 else cs j))=(zL (s+1)).map (fun j=>Value.slice (some ⟨gs j,0,none⟩) (lv ls j).length (cs j))++[.slice (some ⟨g3,0,none⟩) m2 c3]:=by
     rw [List.range_succ,List.map_append];congr 1
     ·refine List.map_congr_left fun j hj=>?_
      have:=List.mem_range.1 hj;rw [if_neg (by omega),if_neg (by omega)]
     simp only [List.map_cons,List.map_nil,if_true];rw [show (lv ls (s+1)).length=m2 by show (Q1p (lv ls s)).length=_; rw [Q1R,<- HM.out,HM2.out]]
    rw [e,List.range_succ,List.map_append,zQ];exact hown6
   ·by_cases he:j=s+1
    ·subst he;simp only [if_true];exact hdk _ _ _ HD3.out
    simp only [if_neg he];have hd:=hold.dig j (by omega);refine hdk _ _ _ (hd.keep (ho.block _ hd.lt ?_));rcases zH j with e | e
    ·subst e; rw [hold.g0]; exact HAP.out
    have:=hold.new j e (by omega);rintro (e | e | e) <;> omega
   ·by_cases he:j=s+1
    ·simp only [if_pos he]; omega
    simp only [if_neg he]; exact hold.new j h1 (by omega)
   ·have hi:i≠s+1:=by omega
    simp only [if_neg hi];by_cases he:j=s+1
    ·simp only [if_pos he];have:=(hold.dig i (by omega)).lt;omega
    simp only [if_neg he]; exact hold.ne i j h1 (by omega)
   ·exact HBK3.out.only (N:=fun b=>w.heap.size<=b) ⟨hg6.os.trans hal.os,hg6.tape.trans hal.tape,hg6.output.trans hal.output,by have:=hal.size; have:=hg6.size; omega,fun i hi hn=>hfar i (by omega)⟩ (by omega) (by omega) (by omega)
   ·have:=HM2.out; omega
   ·rcases zH s with e | e
    ·subst e;refine HP3.out p ?_;rw [HM.out,Q4X];exact hp
    exact HL3.out _ (HP1.out e p hp)
   ·obtain rfl:s=1:=by omega
    have:=HP3.out 0 (by unfold grps; omega);have e:grp (lv ls 1) 0=lv ls 1:=by unfold grp;rw [Nat.mul_zero,List.drop_zero,zV];rw [Q4n]; unfold grps; omega
    rw [e] at this;exact this
   have h5:=HO3.out;refine⟨hg6.os.trans (hal.os.trans h5.os),hg6.tape.trans (hal.tape.trans h5.tape),hg6.output.trans (hal.output.trans h5.output),by have:=hal.size; have:=hg6.size; have:=h5.size; omega,fun i hi hn=>(hfar i hi).trans (h5.block i hi hn)⟩
  have HST6:=sH hst6;clear hst6 hdk hkeep hfar hal hown6 hg6 hor6 HD3 HO HR3 HW3;go_wp2_with fail
  go_roundw
  case rel=>exact⟨s+1,_,_,m2,by omega,by show m2=(Q1p (lv ls s)).length; rw [Q1R,<- HM.out,HM2.out],by simp,HST6.out⟩
  case measure=>show m2<m; rw [HM2.out]; unfold grps; omega
 have hs2:s=2:=by have:=mt hc1.2 h1; omega
 subst hs2;have h1i:¬ (1:Int)<(m:Int):=by omega
 clear hlv hm;go_wp2_with fail
 go_ret
 exact⟨_,rfl,gs,cs,HLV.out⟩
end
section
open Go.RowKit Go.Maps
attribute [local irreducible] wpList
section
variable {P:zG}
theorem Q3A (w:zA) (dT sT ty elem:zE) (g o dLen dCap s m:Nat) (a:Addr) (sLen sCap:Nat) (cur:Array zB) (t:zE) (cs:List zB)
 (hu:P.underlying dT=some (.slice elem)) (hs:(P.info? elem).map (·.size)=some s)
 (hg:Blk w g t cur) (hm:m=Nat.min sLen dLen) (hn:cs.length=m*s)
 (hsrc:∀ j v,cs[j]?=some v->w.cell? (a.add j)=some v) (hfit:o+cs.length<=cur.size) (h1:∀ v∈cs,v.oneCell'=true) :
 (Builtin.copy_ #[dT,sT] ty #[.slice (some ⟨g,o,none⟩) dLen dCap,.slice (some a) sLen sCap]).run P w=.ok (.int .i64 (m:Int)) (w.setRow g (spl cur o cs)):=by
 have hl:=run_loadCells_list (P:=P) w a cs hsrc;have hst:=run_storeCells_at P g o t cs 0 cur w hg (by simpa using hfit) h1;cases hq:P.info? elem with
 | none=>simp [hq] at hs
 | some i =>
  have hi:i.size=s:=by simpa [hq] using hs
  rw [hn] at hl;simp only [Nat.add_zero] at hst;simp only [zQ] at hst;simp [Builtin.copy_,run_underlying hu,Builtin.lenOf,Builtin.firstCells,sizeOf,typeInfo,hq,hi,<- hm,hl,hst,spl,goInt]
theorem Q3K {ops:Array zI} {rest:List zI} {o:zI} {a:Act} {w:zA} {Q:Exit->Act->zA->Prop} (hgd:o.guard=none) (d s:Operand) (dT sT elem:zE)
 (ho:o.op=.call { callee:=.builtin .copy,args:=#[d,s],argTypes:=#[dT,sT] })
 (g off dLen dCap sLen sCap size m:Nat) (ad:Addr) (t:zE) (cs:Array zB) (vs:List zB)
 (hd:a.eval d=.slice (some ⟨g,off,none⟩) dLen dCap) (hs:a.eval s=.slice (some ad) sLen sCap)
 (hu:P.underlying dT=some (.slice elem)) (hsz:(P.info? elem).map (·.size)=some size)
 (hB:Blk w g t cs) (hm:m=Nat.min sLen dLen) (hn:vs.length=m*size) (hsrc:∀ j v,vs[j]?=some v->w.cell? (ad.add j)=some v) (hfit:off+vs.length<=cs.size) (h1:∀ v∈vs,v.oneCell'=true)
 (h:∀ W',Q05 g w W'->Blk W' g t (spl cs off vs)->wpList P ops Q rest (a.put o.dst (.int .i64 (m:Int))) W'):wpList P ops Q (o :: rest) a w :=
 wpList_plain hgd fun _ hK=>by unfold Oper.wp execOp;simp only [ho,resolve,invoke,builtin,Sem.run_bind,Sem.run_pure,Result.andThen_ok,List.map_toArray,List.map_cons,List.map_nil,hd,hs,Q3A (P:=P) w dT sT o.type elem g off dLen dCap size m ad sLen sCap cs t vs hu hsz hB hm hn hsrc hfit h1];exact hK _ _ (h _ (Q05.setRow w g _) (setRow_heap w g cs _ t _ hB))
theorem Q4u {t e:zE} {m:Nat} (ht:P.underlying t=some (.slice e)) (hs:(P.info? e).map (·.size)=some m) (A:Option Addr) (len cap l:Nat) (li:Int) (el:li=l) (hl:l<=len) (W:zA) :
 (Instr.slice t (.slice A len cap) (some (.int .i64 li)) none none).run P W=.ok (.slice (if cap=l then A else A.map (·.add (l*m))) (len - l) (cap - l)) W:=by
 subst el;obtain⟨i,hi,hsz⟩:∃ i,P.info? e=some i/\i.size=m:=by
  cases hh:P.info? e with
  | none=>rw [hh] at hs; cases hs
  | some i=>rw [hh] at hs; exact⟨i,rfl,by simpa using hs⟩
 have he:P.elem t=e:=by simp [Program.elem,ht]
 rw [run_slice_l W t A len cap (by rw [he]; exact ht) .i64 (l:Int) (by omega) (by omega)];simp [he,sizeOf,typeInfo,hi,hsz,sliced]
theorem Q66 {t e:zE} {m:Nat} (ht:P.underlying t=some (.slice e)) (hs:(P.info? e).map (·.size)=some m) (A:Addr) (len cap h:Nat) (hi:Int) (eh:hi=h) (h0:0<cap) (hh:h<=cap) (W:zA) :
 (Instr.slice t (.slice (some A) len cap) none (some (.int .i64 hi)) none).run P W=.ok (.slice (some (A.add 0)) h cap) W:=by
 subst eh;obtain⟨i,hi,hsz⟩:∃ i,P.info? e=some i/\i.size=m:=by
  cases hh:P.info? e with
  | none=>rw [hh] at hs; cases hs
  | some i=>rw [hh] at hs; exact⟨i,rfl,by simpa using hs⟩
 have he:P.elem t=e:=by simp [Program.elem,ht]
 rw [run_slice_h W t (some A) len cap (by rw [he]; exact ht) .i64 (h:Int) (by omega) (by omega)];simp [he,sizeOf,typeInfo,hi,hsz,sliced,show ¬ cap=0 by omega]
end
theorem mul64_13 (w:zA):zK zM 126 #[.int .u64 1,.int .u64 13] w fun e w'=>e=.returned (.tuple #[.int .u64 0,.int .u64 13])/\w=w':=by
 go_enter Tryz.func126,Tryz.ntmps126
 go_wp2
 go_ret2
 exact⟨rfl,rfl⟩
theorem mul64_6 (w:zA):zK zM 126 #[.int .u64 1,.int .u64 6] w fun e w'=>e=.returned (.tuple #[.int .u64 0,.int .u64 6])/\w=w':=by
 go_enter Tryz.func126,Tryz.ntmps126
 go_wp2
 go_ret2
 exact⟨rfl,rfl⟩
theorem mul_any (n:Nat) (hn:n=13\/n=6) (w:zA):zK zM 112 #[.int .u64 1,.int .u64 (n:Int)] w fun e w'=>e=.returned (.tuple #[.int .u64 0,.int .u64 (n:Int)])/\w=w':=by
 rcases hn with rfl | rfl
 ·go_enter Tryz.func112,Tryz.ntmps112
  go_wp2_with fail
  refine(mul64_13 _).mono ?_;rintro _ _ ⟨rfl,rfl⟩;go_wp2_with fail
  go_ret2
  exact⟨rfl,rfl⟩
 go_enter Tryz.func112,Tryz.ntmps112
 go_wp2_with fail
 refine(mul64_6 _).mono ?_;rintro _ _ ⟨rfl,rfl⟩;go_wp2_with fail
 go_ret2
 exact⟨rfl,rfl⟩
theorem Q5t (d:List UInt8) (a b:Nat):Q0e (zT (a+b) d)=Q0e (zT a d)++Q0e (zT b d):=by rw [<- Q5r,List.replicate_append_replicate]
theorem rep_digs {d:List UInt8} (h:d.length=32) (n:Nat):Digs (zT n d):=fun x hx=>by obtain⟨_,rfl⟩:=List.mem_replicate.1 hx; exact h
theorem Q3R {d:List UInt8} (h:d.length=32) (n:Nat):(Q0e (zT n d)).length=n*32:=by rw [Q1j (rep_digs h n),List.length_replicate]
theorem Q5p (ds:LL):∀ v∈Q0e ds,v.oneCell'=true:=fun v hv=>by obtain⟨d,_,h⟩:=List.mem_flatMap.1 hv;obtain⟨b,_,rfl⟩:=List.mem_map.1 h;rfl
def RepAt (w:zA) (g n m:Nat) (d:List UInt8):Prop:=∃ cur:Array zB,Blk w g 51 cur/\cur.size=n*32/\cur.toList.take (m*32)=Q0e (zT m d)
theorem Q7x {cur:Array zB} {n m k:Nat} {d:List UInt8} (hd:d.length=32) (hs:cur.size=n*32) (hm:cur.toList.take (m*32)=Q0e (zT m d)) (hk:m+k<=n) :
 (spl cur (m*32) (Q0e (zT k d))).size=n*32/\(spl cur (m*32) (Q0e (zT k d))).toList.take ((m+k)*32)=Q0e (zT (m+k) d):=by
 have h1:(m+k)*32<=n*32:=Nat.mul_le_mul_right _ hk;have hl:=Q3R hd k;have hl2:=Q3R hd m;have hfit:m*32+(Q0e (zT k d)).length<=cur.size:=by rw [hl,hs]; omega
 refine⟨by rw [Q3h hfit,hs],?_⟩;unfold spl;rw [hm,Q5t,show (m+k)*32=(Q0e (zT m d)++Q0e (zT k d)).length by rw [List.length_append,hl,hl2]; omega];simp only [zQ];rw [<- zQ,List.take_left]
theorem Q8m (g n:Nat) (d:List UInt8) (w:zA) (hn:n=13\/n=6) (hd:d.length=32) (h:Blk w g 51 (bRow d)) :
 zK zM 96 #[.slice (some ⟨g,0,none⟩) 1 1,.int .i64 (n:Int)] w fun e w'=>∃ g',e=.returned (.slice (some ⟨g',0,none⟩) n n)/\Q1H w' g' n (zT n d)/\w.heap.size<=g'/\zD w.heap.size w w':=by
 have HMUL:=sH (fun W=>mul_any n hn W);have hn2:6<=n/\n<=13:=by omega
 clear hn;have hn0:¬ (n:Int)<0:=by omega
 have H:=sH h;have hgl:=h.lt;have hwr:IntKind.u64.wrap (n:Int)=(n:Int):=by rw [IntKind.wrap_u64]; omega
 have hwr2:IntKind.i64.wrap (n:Int)=(n:Int):=by rw [IntKind.wrap_i64]; omega
 have hnb:¬ (9223372036854775807:Int)<(n:Int):=by omega
 obtain⟨i0,hi0,hz0,hz1,hz2⟩:=info_parts Q6y;have HZS:=sH (show inkZ.size=32 by simp [inkZ,bRow]);clear h;go_enter Tryz.func96,Tryz.ntmps96
 go_wp2_with fail
 refine(HMUL.out _).mono ?_;rintro _ _ ⟨rfl,rfl⟩;have hmk:(Instr.makeSlice 139 (.int .i64 (n:Int)) (.int .i64 (n:Int))).run zM w=.ok (.slice (some ⟨w.heap.size,0,none⟩) n n) (w.alloc (.cells (madeCells inkZ (n*32)) 51)):=by have h:=Q1Q (P:=zM) 139 51 i0 _ Tryz.underlying139 hi0 hz0 .i64 .i64 n n (by omega) (by rw [hz2]; omega) (by omega) w;rw [hz1] at h;exact h
 have HMK:=sH hmk;have hms:(madeCells inkZ (n*32)).size=n*32:=size_madeCells _ _;have hbn:zD w.heap.size w (w.alloc (.cells (madeCells inkZ (n*32)) 51)):=Q0a _ _;have hB0:Blk (w.alloc (.cells (madeCells inkZ (n*32)) 51)) w.heap.size 51 (madeCells inkZ (n*32)):=Blk.newAt rfl;have hr0:=Q4z (H.out.below hbn hgl) (Q0P hd);generalize madeCells inkZ (n*32)=cz at HMK hms hbn hB0 hr0;generalize hw1:w.alloc (.cells cz 51)=w1 at HMK hbn hB0 hr0;obtain⟨gn,hgn⟩:∃ gn,gn=w.heap.size:=⟨_,rfl⟩;rw [<- hgn] at HMK hB0 hbn;have HBN:=sH hbn;have HB0:=sH hB0;have HMS:=sH hms;have HGN:=sH hgn;have hsr:∀ (j:Nat) (v:zB),(Q0e (zT 1 d))[j]?=some v->w1.cell? ((⟨g,0,none⟩:Addr).add j)=some v:=fun j v hv=>by
  obtain⟨ad,he,_,hc⟩:=hr0.2 (by omega);injection he with he
  subst he;refine hc j v ?_;rw [<- hv];simp [Q0e,bRow]
 have HSR:=sH hsr;clear hmk hms hbn hB0 hgn hw1 hsr hr0;have hmk:=HMK.out;go_wp2_with (refine Q3K (o:=⟨some 33,_,_,_,_,_⟩) rfl (.tmp 31) (.tmp 32) 139 139 51 rfl gn 0 n n 1 1 32 1 ⟨g,0,none⟩ 51 cz (Q0e (zT 1 d)) rfl rfl Tryz.underlying139 Q2P HB0.out (show 1=min 1 n by omega) (by rw [Q3R hd]) HSR.out (by rw [Q3R hd,HMS.out]; omega) (Q5p _) ?_)
 intro w2 hT2 hB2;have hrep:RepAt w2 gn n 1 d:=by have:=Q7x (m:=0) (k:=1) hd HMS.out (by simp [Q0e]) (by omega);exact⟨_,by simpa using hB2,by simpa using this.1,by simpa using this.2⟩
 have HREP:=sH hrep;have HB2:=sH (hT2.below HBN.out (by omega));clear hT2 hB2 hrep;go_wp2_with fail
 go_loopw [8] (fun mv wr=>∃ m:Nat,1<=m/\m<=n/\mv=.int .i64 (m:Int)/\RepAt wr gn n m d/\zD gn w wr) (fun mv _=>n - (intOf mv).toNat)
 case atStart=>exact⟨1,by omega,by omega,rfl,HREP.out,HB2.out⟩
 obtain⟨m,hm1,hmn,rfl,hrep,hbel⟩:=hrel;have HR:=sH hrep;have HB:=sH hbel;clear hrep hbel;by_cases hlt:m<n
 ·obtain⟨cur,hbk,hcs,hct⟩:=HR.out;have HBK:=sH hbk;have HCS:=sH hcs;have HCT:=sH hct;have hlti:(m:Int)<(n:Int):=by omega
  have hf:=fun W=>Q4u (P:=zM) (t:=139) Tryz.underlying139 Q2P (some ⟨gn,0,none⟩) n n m (m:Int) rfl (by omega) W
  rw [if_neg (by omega)] at hf;have ht:=fun W=>Q66 (P:=zM) (t:=139) Tryz.underlying139 Q2P ⟨gn,0,none⟩ n n m (m:Int) rfl (by omega) (by omega) W
  have HF:=sH hf;have HT:=sH ht;clear hbk hcs hct hf ht;go_upto_region 9 with fail
  have hsr3:∀ (W:zA),Blk W gn 51 cur->∀ (j:Nat) (v:zB),(Q0e (zT (min m (n - m)) d))[j]?=some v->W.cell? ((⟨gn,0,none⟩:Addr).add j)=some v:=fun W hbk3 j v hv=>by
   have e:=Q5t d (min m (n - m)) (m - min m (n - m));rw [show min m (n - m)+(m - min m (n - m))=m by omega] at e;have hj:j<(Q0e (zT (min m (n - m)) d)).length:=(List.getElem?_eq_some_iff.1 hv).1;have h1:(Q0e (zT m d))[j]?=some v:=by rw [e,List.getElem?_append_left hj]; exact hv
   rw [<- HCT.out,zR] at h1;split at h1
   ·rw [Q1s,zS,hbk3.cell,<- zW]; exact h1
   cases h1
  have HSR3:=sH hsr3;have hle:m+min m (n - m)<=n:=by omega
  have hle32:(m+min m (n - m))*32<=n*32:=Nat.mul_le_mul_right _ hle;have hf:=HF.out;have ht:=HT.out;have hbw:=HBK.out;have hbd:Blk wr.drew gn 51 cur:=HBK.out;have hcp:=Q3A (P:=zM) wr.drew 139 139 3 51 gn (m*32) (n - m) (n - m) 32 (min m (n - m)) ⟨gn,0,none⟩ m n cur 51 (Q0e (zT (min m (n - m)) d)) Tryz.underlying139 Q2P hbd rfl (by rw [Q3R hd]) (HSR3.out _ hbd) (by rw [Q3R hd,HCS.out]; omega) (Q5p _);have hT4:Q05 gn wr.drew (wr.drew.setRow gn (spl cur (m*32) (Q0e (zT (min m (n - m)) d)))):=Q05.setRow _ gn _;have hB4:Blk (wr.drew.setRow gn (spl cur (m*32) (Q0e (zT (min m (n - m)) d)))) gn 51 (spl cur (m*32) (Q0e (zT (min m (n - m)) d))):=setRow_heap _ gn cur _ 51 _ hbd;generalize wr.drew.setRow gn (spl cur (m*32) (Q0e (zT (min m (n - m)) d)))=w4 at hcp hT4 hB4;have hg:=Q7x (k:=min m (n - m)) hd HCS.out HCT.out hle;have HREP4:=sH (show RepAt w4 gn n (m+min m (n - m)) d from⟨_,hB4,hg.1,hg.2⟩);have HB4:=sH (hT4.below HB.out.drew (by have:=HGN.out; omega));obtain⟨q,hq⟩:∃ q,q=min m (n - m):=⟨_,rfl⟩;rw [<- hq] at HREP4 hle hcp;have hq1:1<=q:=by omega
  clear hT4 hB4 hg hq hle32 HSR3 hbd hbw;go_region
  go_wp2_with fail
  go_roundw
  case rel=>exact⟨m+q,by omega,hle,by go_num,HREP4.out,HB4.out⟩
  case measure=>simp [intOf]; omega
 obtain rfl:m=n:=by omega
 have hlti:¬ (m:Int)<(m:Int):=by omega
 obtain⟨cur,hbk,hcs,hct⟩:=HR.out;have HBK:=sH hbk;have HCS:=sH hcs;have HCT:=sH hct;clear hbk hcs hct;go_wp2_with fail
 go_ret
 refine⟨gn,rfl,⟨⟨cur,HBK.out,HCS.out,by rw [List.length_replicate]; exact HCT.out⟩,by rw [List.length_replicate]; unfold maxLen; omega⟩,by have:=HGN.out; omega,by have h:=HB.out; rw [HGN.out] at h; exact h⟩
end
section
open Go.RowKit
def Q5a (md:zX) (ops:Array zI):Nat->Nat->Nat->Bool
 | 0,_,_=>false
 | f+1,i,j=>match ops[i]? with
  | none=>false
  | some o=>o.after.any fun e=>Region.binds md e && (e.on == j || Q5a md ops f e.on j)
theorem Q44 {md:zX} {ops:Array zI} {n:Nat} {listed:Array Bool} (inv:HeadInv md ops n listed) (j:Nat):∀ (f i:Nat) (o:zI),Q5a md ops f i j=true->ops[i]?=some o->(∀ e∈o.after,Region.binds md e=true->listed.getD e.on false=true)->listed.getD j false=true
 | 0,_,_,h,_,_=>by cases h
 | f+1,i,o,h,ho,hall=>by
  unfold Q5a at h;rw [ho] at h;obtain⟨e,he,hb⟩:=Array.any_eq_true'.1 h;simp only [zY,Bool.or_eq_true,beq_iff_eq] at hb;have hl:=hall e he hb.1;rcases hb.2 with h1 | h1
  ·rw [<- h1]; exact hl
  cases hq:ops[e.on]? with
  | none =>
   cases f with
   | zero=>cases h1
   | succ f=>unfold Q5a at h1; rw [hq] at h1; cases h1
  | some o'=>exact Q44 inv j f e.on o' h1 hq (inv.closed e.on o' hq hl)
def Q4O (md:zX) (ops:Array zI) (n:Nat):List Nat->Bool
 | []=>true
 | [x]=>decide (x<n)
 | x :: y :: t=>decide (x<n) && decide (x<y) && Q5a md ops ops.size y x && Q4O md ops n (y :: t)
theorem Q7D {md:zX} {ops:Array zI} {n:Nat}:∀ {l:List Nat},Q4O md ops n l=true->∀ x,x∈l->x<n
 | [],_,x,hx=>by cases hx
 | [y],h,x,hx=>by rw [List.mem_singleton] at hx; subst hx; simpa [Q4O] using h
 | y :: z :: t,h,x,hx=>by
  simp only [Q4O,zY,decide_eq_true_eq] at h;rcases List.mem_cons.1 hx with rfl | hx
  ·exact h.1.1.1
  exact Q7D h.2 x hx
theorem Q2S {md:zX} {ops:Array zI} {n:Nat}:∀ {l:List Nat},Q4O md ops n l=true->∀ k x y,l[k]?=some x->l[k+1]?=some y->x<y/\Q5a md ops ops.size y x=true
 | [],_,k,x,y,hx,_=>by simp at hx
 | [z],_,k,x,y,_,hy=>by simp at hy
 | z :: z' :: t,h,0,x,y,hx,hy=>by simp only [Q4O,zY,decide_eq_true_eq] at h;simp at hx hy;subst hx hy;exact⟨h.1.1.2,h.1.2⟩
 | z :: z' :: t,h,k+1,x,y,hx,hy=>by simp only [Q4O,zY,decide_eq_true_eq] at h;exact Q2S h.2 k x y (by simpa using hx) (by simpa using hy)
theorem Q3P {md:zX} {ops:Array zI} {n:Nat} {l:List Nat} (h:Q4O md ops n l=true):∀ (d k:Nat) (x y:Nat),l[k]?=some x->l[k+(d+1)]?=some y->x<y
 | 0,k,x,y,hx,hy=>(Q2S h k x y hx hy).1
 | d+1,k,x,y,hx,hy=>by
  have hl:k+(d+1)<l.length:=by have:=(List.getElem?_eq_some_iff.1 hy).1;omega
  have h1:=Q3P h d k x _ hx (zC hl);have h2:=Q2S h (k+(d+1)) _ y (zC hl) hy;omega
theorem Q9q {md:zX} {ops:Array zI} {n:Nat} {l:List Nat} (h:Q4O md ops n l=true) {i j x:Nat} (hi:l[i]?=some x) (hj:l[j]?=some x):i=j:=by
 rcases Nat.lt_trichotomy i j with h1 | h1 | h1
 ·have:=Q3P h (j - i - 1) i x x hi (by rw [show i+(j - i - 1+1)=j by omega]; exact hj);omega
 ·exact h1
 have:=Q3P h (i - j - 1) j x x hj (by rw [show j+(i - j - 1+1)=i by omega]; exact hi);omega
def Q5i (P:zG) (ops:Array zI) (o:zI) (a:Act) (w:zA) (R:zA->zA->Prop) (J:zA->Prop) (p:zA->zB->Prop):Prop :=∀ (K:Act->zA->Prop) (Q':Exit->Act->zA->Prop),(∀ v w',R w w'->J w'->p w' v->K (a.put o.dst v) w')->if zJ o (yielded ops a.tmps)=true then o.wp P a w K Q' else K (a.put o.dst undef) w
theorem Q13 {P:zG} {ops:Array zI} {o:zI} {a:Act} {w:zA} {R:zA->zA->Prop} {J:zA->Prop} {p:zA->zB->Prop} (hw:zJ o (yielded ops a.tmps)=true) (f:FuncId) (args:Array zB) (he:(execOp a.eval o).run P w=.ok (.enter f args) w)
 (hc:zK P f args w fun e w'=>∃ v,e=.returned v/\R w w'/\J w'/\p w' v):Q5i P ops o a w R J p:=fun K Q' hK=>by
 rw [if_pos hw];unfold Oper.wp;rw [he];refine hc.mono ?_;rintro e w' ⟨v,rfl,hb,hj,hp⟩;exact hK v w' hb hj hp
theorem Q85 {P:zG} {ops:Array zI} {o:zI} {a:Act} {w:zA} {R:zA->zA->Prop} {J:zA->Prop} {p:zA->zB->Prop} (hgd:o.guard=none) (ty:zE) (x y:Operand) (ho:o.op=.store ty x y)
 (g off:Nat) (vs:Array zB) (hx:a.eval x=.pointer (some ⟨g,off,none⟩)) (hy:a.eval y=.agg vs)
 (t:zE) (cs:Array zB) (hB:Blk w g t cs) (hi:(P.info? ty).map (·.size)=some vs.size)
 (hold:off+vs.size<=cs.size) (h1:vs.all (·.oneCell')=true)
 (h:∀ W',Q05 g w W'->Blk W' g t (spl cs off vs.toList)->R w W'/\J W'/\p W' undef):Q5i P ops o a w R J p:=fun K Q' hK=>by
 have hw:zJ o (yielded ops a.tmps)=true:=by simp [zJ,hgd]
 rw [if_pos hw];exact Q2s ty x y ho g off vs hx hy t cs hB hi hold h1 fun W' h2 h3=>by obtain⟨q1,q2,q3⟩:=h W' h2 h3;exact hK undef W' q1 q2 q3
def relLB (md:zX) (ops:Array zI) (n:Nat):Bool :=decide (n<=ops.size) && (decide (n=ops.size) || Region.sinkB md ops n && Region.chainB md ops n) && Q6Y ops n && backB md ops n && Region.seqB md ops (ops.size - n) n (Q19 ops.size n)
section
variable {P:zG} {md:zX} {ops:Array zI}
theorem Q5u {n:Nat} {ps:Nat->zA->zB->Prop} {J:Nat->zA->Prop} {R:zA->zA->Prop} {lo:List Nat} {a0:Act} {Q':Exit->Act->zA->Prop} (hn:n<=ops.size) (hsc:n=ops.size\/(Region.sinkB md ops n=true/\Region.chainB md ops n=true)) (hd:Q6Y ops n=true) (hbk:backB md ops n=true)
 (hlo:Q4O md ops n lo=true)
 (hl:∀ j,Q1B (ps j)) (hR:∀ s j w w' v,s<lo.length->(∀ s',s<=s'->lo[s']?≠some j)->J s w->ps j w v->R w w'->ps j w' v) (hJ:∀ s w w',J s w->zD w.heap.size w w'->J s w')
 (hop:∀ i o,i<n->ops[i]?=some o->i∉lo->∀ s a w,J s w->Kept ops n a0 a->(∀ j,zZ md ops i j=true->Q2u ops ps j w a)->Q4Z P ops o a w (ps i))
 (hop2:∀ i o,i<n->ops[i]?=some o->∀ s a w,lo[s]?=some i->J s w->Kept ops n a0 a->(∀ j,zZ md ops i j=true->Q2u ops ps j w a)->Q5i P ops o a w R (J (s+1)) (ps i))
 (hL:∀ a w,J lo.length w->Kept ops n a0 a->(∀ j,j<n->Q2u ops ps j w a)->wpAny P md ops Q' (ops.size - n) (Q19 ops.size n) a w)
 (hsz:∀ (i:Nat) (o:zI) (d:Tmp),i<n->ops[i]?=some o->o.dst=some d->d<a0.tmps.size) :
 ∀ (f:Nat) (listed:Array Bool) (s:Nat) (a:Act) (w:zA),((zL n).filter fun i=>!listed.getD i false).length=f->HeadInv md ops n listed->s<=lo.length->(∀ k x,lo[k]?=some x->(listed.getD x false=true <-> k<s))->J s w->Kept ops n a0 a->(∀ j,j<n->listed.getD j false=true->Q2u ops ps j w a)->wpAny P md ops Q' (f+(ops.size - n)) listed a w
 | 0,listed,s,a,w,hf,inv,hsl,hph,hb,hk,hp=>by
  have hall:∀ j,j<n->listed.getD j false=true:=fun j hj=>by
   cases hx:listed.getD j false with
   | true=>rfl
   | false =>
    have:j∈(zL n).filter fun i=>!listed.getD i false:=List.mem_filter.2 ⟨List.mem_range.2 hj,by rw [hx]; rfl⟩
    rw [List.eq_nil_of_length_eq_zero hf] at this;cases this
  have hls:listed=Q19 ops.size n:=by
   apply Array.ext
   ·rw [inv.size]; simp [Q19]
   intro i h1 h2;have hi:i<ops.size:=by rw [<- inv.size]; exact h1
   have e1:listed[i]=listed.getD i false:=by simp [h1]
   have e2:(Q19 ops.size n)[i]=(Q19 ops.size n).getD i false:=by simp [h2]
   rw [e1,e2,Q4N _ _ _ _ hi];by_cases hin:i<n
   ·rw [hall i hin,decide_eq_true hin]
   rw [decide_eq_false hin];exact getD_both (inv.tail i (by omega) hi)
  have hsE:s=lo.length:=by
   rcases zF s lo.length with h1 | h1
   ·have h2:=hph s lo[s] (zC h1);have h3:=h2.1 (hall _ (Q7D hlo _ (List.getElem_mem h1)));omega
   omega
  subst hsE;rw [zS,hls];exact hL a w hb hk fun j hj=>hp j hj (hall j hj)
 | f+1,listed,s,a,w,hf,inv,hsl,hph,hb,hk,hp=>by
  have hex:∃ i,i<n/\listed.getD i false=false:=by
   cases hx:(zL n).filter fun i=>!listed.getD i false with
   | nil=>rw [hx] at hf; cases hf
   | cons i t =>
    have:i∈(zL n).filter fun i=>!listed.getD i false:=by rw [hx]; exact List.mem_cons_self
    obtain⟨h1,h2⟩:=List.mem_filter.1 this;exact⟨i,List.mem_range.1 h1,by simpa using h2⟩
  obtain⟨m,hm,hmf,hmb⟩:=Q4V (fun i=>listed.getD i false) n hex;have hin:∀ k,k<n->listed.getD k false=false->listed.getD k true=false:=fun k hk h=>getD_in (by rw [inv.size]; omega) h
  rw [show f+1+(ops.size - n)=(f+(ops.size - n))+1 by omega];refine⟨fun h0=>?_,fun i hi=>?_⟩
  ·exfalso
   have:m∈Region.ready md ops listed:=by refine mem_ready.2 ⟨hin m hm hmf,ops[m],Array.getElem?_eq_getElem (by omega),fun e he hbd=>?_⟩;have h1:=List.all_eq_true.1 hbk m (List.mem_range.2 hm);rw [Array.getElem?_eq_getElem (show m<ops.size by omega)] at h1;have h2:=Array.all_eq_true_iff_forall_mem.1 h1 e he;rw [hbd] at h2;simp at h2;exact hmb e.on h2
   rw [h0] at this;cases this
  have hin':i<n:=by
   rcases zF i n with h | h
   ·exact h
   rcases zF n ops.size with hn' | hn'
   ·have hsc':=hsc.resolve_left (by omega);exact absurd hi (tail_waits hsc'.1 hsc'.2 hn' inv _ m rfl hm (hin m hm hmf) i h)
   obtain⟨_,o,ho,_⟩:=mem_ready.1 hi;have:=(Array.getElem?_eq_some_iff.1 ho).1;omega
  obtain⟨hun,o,ho,hall⟩:=mem_ready.1 hi;have hdep:∀ j,zZ md ops i j=true->Q2u ops ps j w a:=fun j hj=>by obtain⟨oj,hoj,e,he,hbd,hon⟩:=Region.waitsFor_spec hj;have:oj=o:=za (hoj.symm.trans ho);subst this;have h1:=hall e he hbd;rw [hon] at h1;have h2:=List.all_eq_true.1 hbk i (List.mem_range.2 hin');rw [ho] at h2;have h3:=Array.all_eq_true_iff_forall_mem.1 h2 e he;rw [hbd] at h3;simp at h3;exact hp j (by omega) h1
  have hcnt:((zL n).filter fun k=>!(listed.setIfInBounds i true).getD k false).length=f:=by
   have hmem:i∈(zL n).filter fun i=>!listed.getD i false:=List.mem_filter.2 ⟨List.mem_range.2 hin',by rw [getD_both hun]; rfl⟩
   have hnd:((zL n).filter fun i=>!listed.getD i false).Nodup:=List.Pairwise.filter _ List.nodup_range;have he:((zL n).filter fun k=>!(listed.setIfInBounds i true).getD k false)=((zL n).filter fun i=>!listed.getD i false).erase i:=by
    rw [hnd.erase_eq_filter,List.filter_filter];apply List.filter_congr
    intro k hk;by_cases hki:i=k
    ·subst hki;have hlt:i<listed.size:=by rw [inv.size]; omega
     simp [hlt]
    rw [getD_set_ne false hki];simp [Ne.symm hki]
   rw [he,List.length_erase_of_mem hmem,hf];rfl
  have hon:(listed.setIfInBounds i true).getD i false=true:=by
   have hlt:i<listed.size:=by rw [inv.size]; omega
   simp [hlt]
  have hfin:∀ s' v w',s'<=lo.length->(∀ k x,lo[k]?=some x->((listed.setIfInBounds i true).getD x false=true <-> k<s'))->J s' w'->(∀ j,listed.getD j false=true->∀ u,ps j w u->ps j w' u)->ps i w' v->wpAny P md ops Q' (f+(ops.size - n)) (listed.setIfInBounds i true) (a.put o.dst v) w':=fun s' v w' hs' hph' hj' hlast hpv=>by
   refine Q5u hn hsc hd hbk hlo hl hR hJ hop hop2 hL hsz f _ s' _ w' hcnt (inv.set hi hin') hs' hph' hj' ⟨?_,by rw [Q2x]; exact hk.size,fun d hfree=>?_⟩ fun j hj hlj oj d hoj hdj=>?_
   ·rw [<- hk.defers]; unfold Act.put; split <;> rfl
   ·rw [Q1n (hfree i o hin' ho)]; exact hk.tmps d hfree
   by_cases hji:j=i
   ·subst hji;have:oj=o:=za (hoj.symm.trans ho);subst this;have hds:d<a.tmps.size:=by rw [hk.size]; exact hsz j oj d hin' hoj hdj
    have he:(a.put oj.dst v).eval (.tmp d)=v:=by rw [hdj];simp [Act.put,Act.eval,hds]
    rw [he];exact hpv
   have hl2:listed.getD j false=true:=by rw [getD_set_ne false (Ne.symm hji)] at hlj; exact hlj
   have he:(a.put o.dst v).eval (.tmp d)=a.eval (.tmp d):=by have:=Q1n (a:=a) (v:=v) (Q1U hd hj hin' hji hoj ho hdj);simp [Act.eval,this]
   rw [he];exact hlast j hl2 _ (hp j hj hl2 oj d hoj hdj)
  unfold wpOp;simp only [ho];by_cases hil:i∈lo
  ·obtain⟨k,hki⟩:=List.mem_iff_getElem?.1 hil;have hnl:listed.getD i false=false:=getD_both hun;have h1:=hph k i hki;have hks:¬ k<s:=fun h2=>by rw [h1.2 h2] at hnl; cases hnl
   have hsk:s=k:=by
    rcases zH k with e | e
    ·omega
    have hpl:k - 1<lo.length:=by have:=(List.getElem?_eq_some_iff.1 hki).1; omega
    have h2:=Q2S hlo (k - 1) lo[k - 1] i (zC hpl) (by rw [show k - 1+1=k by omega]; exact hki);have h3:=Q44 inv _ _ i o h2.2 ho hall;have h4:=(hph (k - 1) _ (zC hpl)).1 h3;omega
   subst hsk;have hrel:=hop2 i o hin' ho s a w hki hb hk hdep (wpAny P md ops Q' (f+(ops.size - n)) (listed.setIfInBounds i true)) Q' (fun v w' hr hj hpv=>hfin (s+1) v w' (by have:=(List.getElem?_eq_some_iff.1 hki).1; omega) (fun k' x hx=>by
    by_cases hxi:x=i
    ·subst hxi;have:=Q9q hlo hx hki;rw [hon]
     simp; omega
    rw [getD_set_ne false (Ne.symm hxi),hph k' x hx];have:k'≠s:=fun e=>hxi (by subst e; rw [hx] at hki; exact za hki)
    omega) hj (fun j hlj u hu=>hR s j _ _ _ (by have:=(List.getElem?_eq_some_iff.1 hki).1; omega) (fun s' hs' e=>by have:=(hph s' j e).1 hlj; omega) hb hu hr) hpv)
   split
   ·rename_i hwt;rw [if_pos hwt] at hrel;exact .inl hrel
   rename_i hwt;rw [if_neg hwt] at hrel;exact hrel
  have hrel:=hop i o hin' ho hil s a w hb hk hdep (wpAny P md ops Q' (f+(ops.size - n)) (listed.setIfInBounds i true)) Q' (fun v w' hbw hpv=>hfin s v w' hsl (fun k' x hx=>by
   have hxi:x≠i:=fun e=>hil (e▸List.mem_of_getElem? hx)
   rw [getD_set_ne false (Ne.symm hxi)];exact hph k' x hx) (hJ s w w' hb hbw) (fun j _ u hu=>hl j _ _ _ hu hbw) hpv)
  split
  ·rename_i hwt;rw [if_pos hwt] at hrel;exact .inl hrel
  rename_i hwt;rw [if_neg hwt] at hrel;exact hrel
end
def Q35 (P:zG) (ops:Array zI) (n:Nat) (ps:Nat->zA->zB->Prop) (J:Nat->zA->Prop) (R:zA->zA->Prop) (lo:List Nat) (a0:Act):Nat->List zI->Prop
 | _,[]=>True
 | k,o :: l=>(if k∈lo then ∀ s a w,lo[s]?=some k->J s w->Kept ops n a0 a->(∀ j,zZ .any ops k j=true->Q2u ops ps j w a)->Q5i P ops o a w R (J (s+1)) (ps k)
  else ∀ s a w,J s w->Kept ops n a0 a->(∀ j,zZ .any ops k j=true->Q2u ops ps j w a)->Q4Z P ops o a w (ps k))/\Q35 P ops n ps J R lo a0 (k+1) l
theorem Q35.spec {P:zG} {ops:Array zI} {n:Nat} {ps:Nat->zA->zB->Prop} {J:Nat->zA->Prop} {R:zA->zA->Prop} {lo:List Nat} {a0:Act}:∀ (l:List zI) (k:Nat),Q35 P ops n ps J R lo a0 k l->∀ i o,l[i]?=some o ->
 (if k+i∈lo then ∀ s a w,lo[s]?=some (k+i)->J s w->Kept ops n a0 a->(∀ j,zZ .any ops (k+i) j=true->Q2u ops ps j w a)->Q5i P ops o a w R (J (s+1)) (ps (k+i))
  else ∀ s a w,J s w->Kept ops n a0 a->(∀ j,zZ .any ops (k+i) j=true->Q2u ops ps j w a)->Q4Z P ops o a w (ps (k+i)))
 | [],k,_,i,o,ho=>by simp at ho
 | o' :: l,k,h,0,o,ho=>by simp at ho; subst ho; exact h.1
 | o' :: l,k,h,i+1,o,ho=>by have:=Q35.spec l (k+1) h.2 i o (by simpa using ho);rw [show k+1+i=k+(i+1) by omega] at this;exact this
theorem Q0Y {P:zG} {id:Nat} {Q:Exit->Act->zA->Prop} {a:Act} {w:zA} {l:List zI} (n m:Nat) (ps:Nat->zA->zB->Prop) (J:Nat->zA->Prop) (R:zA->zA->Prop) (lo:List Nat) (ds:List Nat) (hm:P.follows .mixedOrders=true) (hB:relLB .any l.toArray n=true) (hlo:Q4O .any l.toArray n lo=true) (hsz:sizeB l.toArray n m=true) (ha:a.tmps.size=m) (hds:Q56 l.toArray n=ds)
 (hl:∀ j,Q1B (ps j)) (hR:∀ s j w w' v,s<lo.length->(∀ s',s<=s'->lo[s']?≠some j)->J s w->ps j w v->R w w'->ps j w' v) (hJ:∀ s w w',J s w->zD w.heap.size w w'->J s w') (hJ0:J 0 w) (hop:Q35 P l.toArray n ps J R lo a 0 (l.take n))
 (h:∀ (f:Nat->zB) w',J lo.length w'->(∀ j,j<n->∀ o d,l.toArray[j]?=some o->o.dst=some d->ps j w' (f d))->wpList P l.toArray Q (l.drop n) (Q0R a ds f) w'):(Code.region id l.toArray true).wp P Q a w:=by
 simp only [relLB,zY,Bool.or_eq_true,decide_eq_true_eq] at hB;obtain⟨⟨⟨⟨hn,hsc⟩,hd⟩,hbk⟩,hsq⟩:=hB;have inv0:HeadInv .any l.toArray n (Array.replicate l.toArray.size false) :=⟨by simp,fun j oj _ hl=>(by rw [getD_replicate_false] at hl; cases hl),fun t _ ht=>getD_in (by simpa using ht) (getD_replicate_false _ _)⟩
 have hdl:(l.drop n).length=l.toArray.size - n:=by simp
 refine wp_region_any hm ?_;have:=Q5u (Q':=Q) (md:=.any) (P:=P) (ops:=l.toArray) (n:=n) (ps:=ps) (J:=J) (R:=R) (lo:=lo) (a0:=a) hn hsc hd hbk hlo hl hR hJ (fun i o hi ho hni s a' w' h1 h2 h3=>by
  have:=Q35.spec (l.take n) 0 hop i o (by rw [zR,if_pos hi]; simpa using ho);simp only [zS] at this;rw [if_neg hni] at this;exact this s a' w' h1 h2 h3)
  (fun i o hi ho s a' w' hlos h1 h2 h3=>by have:=Q35.spec (l.take n) 0 hop i o (by rw [zR,if_pos hi]; simpa using ho);simp only [zS] at this;rw [if_pos (List.mem_of_getElem? hlos)] at this;exact this s a' w' hlos h1 h2 h3)
  (fun a' w' h1 h2 h3=>by
   have:=wpAny_of_seq (md:=.any) (ops:=l.toArray) (Q':=Q) (l.drop n) n (Q19 l.toArray.size n) a' w' (fun j=>by simp [List.getElem?_drop]) (by rw [hdl]; exact hsq) (by rw [h2.puts (by rw [ha]; exact hsz),hds];exact h _ w' h1 fun j hj o d ho hd=>(h3 j hj).get d ho hd)
   rw [hdl] at this;exact this)
  (fun i o d hi ho hdst=>by have:=List.all_eq_true.1 hsz i (List.mem_range.2 hi);simp only [ho,hdst,decide_eq_true_eq] at this;rw [ha]; exact this)
  n (Array.replicate l.toArray.size false) 0 a w.drew (by
   rw [List.filter_eq_self.2 (fun i _=>by rw [getD_replicate_false]; rfl)]
   simp) inv0 (Nat.zero_le _) (fun k x _=>by rw [getD_replicate_false]; simp) (hJ 0 _ _ hJ0 (zO _ w).drew) ⟨rfl,rfl,fun _ _=>rfl⟩ (fun j _ hj=>by rw [getD_replicate_false] at hj; cases hj)
 rw [show n+(l.toArray.size - n)=l.toArray.size by omega] at this;exact this
end
section
open Go.RowKit Go.Maps
structure Q8c (w wr:zA) (k:Book) (L:LL) (asked:Nat) (ls:LL) (v:zB) (gs cs:Nat->Nat):Prop where
 row:wr.ownsRow w.heap.size 139 1 v 3 ((zL 3).map fun j=>.slice (some ⟨gs j,0,none⟩) (lv ls j).length (cs j))
 dig:∀ j,j<=2->Q1H wr (gs j) (cs j) (lv ls j)
 new:∀ j,j<=2->w.heap.size<=gs j
 ne:∀ i j,i<j->j<=2->gs i≠gs j
 book:∃ L' a',Q0d wr k L' a'/\a'<=asked+8/\(∀ x,x∈L->x∈L')/\(∀ p,p<grps ls.length->upIn (grp (lv ls 0) p)∈L')/\upIn (lv ls 1)∈L'
 only:Q0b k w wr
theorem Q8c.of_st {w w1 wr:zA} {k:Book} {L:LL} {asked:Nat} {ls:LL} {v:zB} {gs cs:Nat->Nat} {g0 c:Nat} (hb:zD w.heap.size w w1) (hg:w.heap.size<=g0) (h:LvSt w1 wr k L asked ls g0 c 2 gs cs v):Q8c w wr k L asked ls v gs cs:=by
 obtain⟨L',a',h1,h2,h3,h4,h5⟩:=h.book;have hs:=hb.size;refine⟨?_,h.dig,fun j hj=>?_,h.ne,⟨L',a',h1,by omega,h3,h4 (by omega),h5 (by omega)⟩,(Q0b.of_below hb).trans h.only⟩
 ·rcases h.row.2 with hv | ⟨g,cap,cur,hv,q2,q3,q4⟩
  ·exact⟨h.row.1,.inl hv⟩
  exact⟨h.row.1,.inr ⟨g,cap,cur,hv,by omega,q3,q4⟩⟩
 rcases zH j with e | e
 ·subst e; rw [h.g0]; exact hg
 have:=h.new j e hj; omega
theorem lv_rep (n:Nat):lv (zT n []) 0=zT n (Q2e []):=by simp [lv]
theorem Q9p (k:Book) (L:LL) (asked b2 g6 b3 n:Nat) (w:zA) (hbk:Q0d w k L asked) (hn:n=13\/n=6) (has:asked<=800000)
 (h2:w.cell? ⟨b2,0,none⟩=some (.pointer (some ⟨k.g,0,none⟩))) (h6:Blk w g6 51 (bRow (Q2e []))) (h3:w.cell? ⟨b3,0,none⟩=some (.int .i64 (n:Int))) :
 zK zM 94 #[.pointer (some ⟨b2,0,none⟩),.pointer (some ⟨g6,0,none⟩),.pointer (some ⟨b3,0,none⟩)] w fun e w'=>∃ v gs cs,e=.returned v/\Q8c w w' k L asked (zT n []) v gs cs:=by
 have l2:=zU _ _ h2;have l3:=zU _ _ h3;have H2:=sH (fun(W:zA) (hb:zD w.heap.size w W)=>(hb.cell l2).trans h2);have H3:=sH (fun(W:zA) (hb:zD w.heap.size w W)=>(hb.cell l3).trans h3);have H6:=sH (fun(W:zA) (hb:zD w.heap.size w W)=>h6.below' hb);have HBK:=sH hbk;have hds:(bRow (Q2e [])).size=32:=Q0P (Q1Y []);have hdl:=Q1Y [];have hn2:5<=n/\n<=16:=by omega
 obtain⟨e,he⟩:∃ e,e=Q2e []:=⟨_,rfl⟩;rw [<- he] at H6 hds hdl;have HE:=sH he;have hdo:=Q0I e;have HDL:=sH hdl;obtain⟨D,hD⟩:∃ D,D=bRow e:=⟨_,rfl⟩;rw [<- hD] at H6 hds hdo;have HD:=sH hD;have HDS:=sH hds;clear h2 h3 h6 hbk he hD hdl;go_enter Tryz.func94,Tryz.ntmps94
 go_upto_region 1 with fail
 refine Q0r 5 10 (fun j W v=>match j with
  | 0=>v=.pointer (some ⟨k.g,0,none⟩)
  | 1=>v=.agg D
  | 2=>∃ g,v=.slice (some ⟨g,0,none⟩) 1 1/\Blk W g 51 D
  | 3=>v=.int .i64 (n:Int)
  | _=>∃ g,v=.slice (some ⟨g,0,none⟩) n n/\Q1H W g n (zT n e)/\w.heap.size<=g) [4,5,6,7,8] (by kernel_rfl) (by kernel_rfl) (by kernel_rfl) (by simp) (by kernel_rfl) (fun j=>?last) ?heads ?_
 case last =>
  match j with
  | 0 | 1 | 3=>exact Q1B.pure _
  | 2=>exact fun W W' v ⟨g,h1,h2⟩ hb=>⟨g,h1,h2.below' hb⟩
  | j+4=>exact fun W W' v ⟨g,h1,h2,h3⟩ hb=>⟨g,h1,h2.keep (hb.block g h2.lt),h3⟩
 case heads =>
  simp only [tT];refine⟨?_,?_,?_,?_,?_,trivial⟩;all_goals intro a W hb hkp hd
  ·have e0:(_:zB)=.pointer (some ⟨b2,0,none⟩):=sK hkp 0;have cc:=H2.out W hb;exact sV
  ·have e0:a.eval (.tmp 1)=.pointer (some ⟨g6,0,none⟩):=hkp.at_ (by kernel_rfl);exact Q1b rfl (.agg D) (Q0s 51 (.tmp 1) rfl g6 0 32 e0 51 D D _ (H6.out W hb) Tryz.underlying51 rfl rfl HDS.out (fun _ _=>by rw [zS])) rfl
  ·have e1:=sJ (hd 1) 5;refine Q2z rfl (.slice (some ⟨W.heap.size,0,none⟩) 1 1) (W.alloc (.cells D 51)) (by go_simp; rw [Q7y _ D 32 rfl HDS.out]) ((zO _ _).alloc (zN _) _) ⟨W.heap.size,rfl,Blk.new W _ _⟩
  ·have e0:(_:zB)=.pointer (some ⟨b3,0,none⟩):=sK hkp 2;have cc:=H3.out W hb;exact sV
  obtain⟨g',e2,hr⟩:∃ g,a.tmps[6]?.getD undef=.slice (some ⟨g,0,none⟩) 1 1/\Blk W g 51 D:=(sG (hd 2) 6:);have e3:=sJ (hd 3) 7;refine Q0z rfl 96 #[.slice (some ⟨g',0,none⟩) 1 1,.int .i64 (n:Int)] (by go_simp) ((Q8m g' n e W hn HDL.out (by rw [<- HD.out]; exact hr)).mono ?_);rintro e' w' ⟨g'',rfl,h1,h2,h3⟩;exact⟨_,rfl,h3,g'',rfl,h1,by have:=hb.size; omega⟩
 intro f W hb hd;have h0:f 4=.pointer (some ⟨k.g,0,none⟩):=hd 0 (by omega) _ 4 rfl rfl;obtain⟨g',h8,hdg,hgw⟩:∃ g,f 8=.slice (some ⟨g,0,none⟩) n n/\Q1H W g n (zT n e)/\w.heap.size<=g:=hd 4 (by omega) _ 8 rfl rfl;have hdg':Q1H W g' n (lv (zT n []) 0):=by rw [lv_rep,<- HE.out]; exact hdg
 have hbw:=HBK.out.below hb;have hlt:=HBK.out.lt;have hlv:=Q8x k L asked g' n n (zT n []) W hbw hdg' (by rintro (e | e | e) <;> omega) (by simp; omega) (by simp; omega) (by simp) has;have HLV:=sH hlv;have HB:=sH hb;simp only [Q0R,tU,h0,h8];clear hd hdg hdg' hbw hlv hb;try simp only [Act.put,sA]
 go_wp2_with fail
 refine HLV.out.mono ?_;rintro _ w3 ⟨v,gs,cs,rfl,hst⟩;go_wp2_with fail
 go_ret
 exact⟨_,gs,cs,rfl,Q8c.of_st HB.out hgw hst⟩
def Q1W (k:Book) (n:Nat) (d m:Int) (fv all:zB):Array zB:=#[.pointer (some ⟨k.g,0,none⟩),.int .i64 (n:Int),.int .u32 d,.int .i32 m,.int .u32 0,fv,all]
def Q1M (b2 g6 b3:Nat):zB:=.func (.func 94) #[] #[.pointer (some ⟨b2,0,none⟩),.pointer (some ⟨g6,0,none⟩),.pointer (some ⟨b3,0,none⟩)]
structure Q1w (w:zA) (k:Book) (b2 g6 b3 n:Nat):Prop where
 h2:w.cell? ⟨b2,0,none⟩=some (.pointer (some ⟨k.g,0,none⟩))
 h6:Blk w g6 51 (bRow (Q2e []))
 h3:w.cell? ⟨b3,0,none⟩=some (.int .i64 (n:Int))
theorem Q1w.keep {w w':zA} {k:Book} {b2 g6 b3 n:Nat} (h:Q1w w k b2 g6 b3 n) (h2:w'.heap[b2]?=w.heap[b2]?) (h6:w'.heap[g6]?=w.heap[g6]?) (h3:w'.heap[b3]?=w.heap[b3]?):Q1w w' k b2 g6 b3 n :=⟨(zP h2).trans h.h2,h6.trans h.h6,(zP h3).trans h.h3⟩
theorem Q1w.lt {w:zA} {k:Book} {b2 g6 b3 n:Nat} (h:Q1w w k b2 g6 b3 n):b2<w.heap.size/\g6<w.heap.size/\b3<w.heap.size:=⟨zU _ _ h.h2,h.h6.lt,zU _ _ h.h3⟩
theorem Q1w.below {w w':zA} {k:Book} {b2 g6 b3 n:Nat} (h:Q1w w k b2 g6 b3 n) (hb:zD w.heap.size w w'):Q1w w' k b2 g6 b3 n :=h.keep (hb.block _ h.lt.1) (hb.block _ h.lt.2.1) (hb.block _ h.lt.2.2)
def Q41 (w w':zA) (k:Book) (L:LL) (asked n:Nat) (v:zB):Prop:=∃ W1 W2 gs cs,zD w.heap.size w W1/\Q8c W1 W2 k L asked (zT n []) v gs cs/\zD W2.heap.size W2 w'
theorem Q7h (k:Book) (L:LL) (asked t b2 g6 b3 n:Nat) (pl:Addr) (w:zA) (d m:Int) (all:zB) (hn:n=13\/n=6) (has:asked<=800000)
 (hbk:Q0d w k L asked) (hB:Blk w t 153 (Q1W k n d m (Q1M b2 g6 b3) all)) (hp:w.cell? pl=some (.pointer (some ⟨t,0,none⟩))) (hf:Q1w w k b2 g6 b3 n) (htk:¬ k.has t) (hpk:¬ k.has pl.block) :
 zK zM 114 #[.pointer (some pl)] w fun e w'=>e=.returned (.tuple #[])/\∃ W v,Q41 w W k L asked n v/\w'=W.setCell ⟨t,6,none⟩ v:=by
 have hpl:=zU _ _ hp;have htl:=hB.lt;have HP:=sH (fun(W:zA) (h:Only k.has w W)=>(h.cell hpl hpk).trans hp);have HT:=sH (fun(W:zA) (h:Only k.has w W)=>(h.blk hB htk));have HBK:=sH hbk;have HF:=sH hf;have HG:=sH (fun(W:zA) (h:Q41 w W k L asked n all)=>h);have hG2:∀ W v,Q41 w W k L asked n v->Only k.has w W:=fun W v ⟨W1,W2,gs,cs,h1,h2,h3⟩=>((Only.of_below h1).trans (Only.of_book h2.only)).trans (Only.of_below h3)
 have HO:=sH hG2;clear hbk hB hp hf hG2;go_enter Tryz.func114,Tryz.ntmps114
 refine Q0Y 8 9 (fun j W v=>match j with
  | 0=>v=.pointer (some ⟨t,0,none⟩)
  | 1=>v=.pointer (some ⟨t,0,none⟩)
  | 2=>v=.pointer (some ⟨t,0,none⟩)
  | 3=>v=.pointer (some ⟨t,5,none⟩)
  | 4=>v=Q1M b2 g6 b3
  | 5=>Q41 w W k L asked n v
  | 6=>v=.pointer (some ⟨t,0,none⟩)
  | _=>v=.pointer (some ⟨t,6,none⟩)) (fun s W=>if s=0 then zD w.heap.size w W else ∃ v,Q41 w W k L asked n v) (fun _ _=>True) [5] [1,2,3,4,5,6,7,8] (by kernel_rfl) (by kernel_rfl) (by kernel_rfl) (by kernel_rfl) (by simp) (by kernel_rfl) (fun j=>?last) ?lastR ?jay (zO _ _) ?heads ?_
 case last =>
  match j with
  | 0 | 1 | 2 | 3 | 4 | 6 | j+7=>exact Q1B.pure _
  | 5=>exact fun W W' v ⟨W1,W2,gs,cs,h1,h2,h3⟩ hb=>⟨W1,W2,gs,cs,h1,h2,h3.trans (hb.mono h3.size)⟩
 case lastR =>
  intro s j W W' v hsl hs hj hp _;match j with
  | 0 | 1 | 2 | 3 | 4 | 6 | j+7=>exact hp
  | 5 =>
   exfalso
   exact hs 0 (by simp at hsl; omega) rfl
 case jay =>
  intro s W W' hj hb;split at hj
  ·rw [if_pos (by assumption)];exact hj.trans (hb.mono hj.size)
  rw [if_neg (by assumption)];obtain⟨v,W1,W2,gs,cs,h1,h2,h3⟩:=hj;exact⟨v,W1,W2,gs,cs,h1,h2,h3.trans (hb.mono h3.size)⟩
 case heads =>
  have HJ:=sH (show ∀ (s:Nat) (W:zA),(if s=0 then zD w.heap.size w W else ∃ v,Q41 w W k L asked n v)->Only k.has w W from fun s W hj=>by
   split at hj
   ·exact Only.of_below hj
   obtain⟨v,hv⟩:=hj; exact HO.out W v hv)
  simp only [tT];refine⟨?_,?_,?_,?_,?_,?_,?_,?_,trivial⟩
  all_goals try(rw [if_neg (by decide)];intro s a W hj hkp hd)
  iterate 2 ·have e0:(_:zB)=.pointer (some pl):=sK hkp 0;have cc:=HP.out W (HJ.out s W hj);exact sV
  ·have e0:=sJ (hd 1) 2;exact sV
  ·have e0:=sJ (hd 2) 3;exact sV
  ·have e0:=sJ (hd 3) 4;have cc:W.cell? ⟨t,5,none⟩=some (Q1M b2 g6 b3):=((HT.out W (HJ.out s W hj)).cell 5).trans rfl;exact sV
  ·rw [if_pos (by decide)];intro s a W hs hj hkp hd;have e0:=sJ (hd 4) 5;obtain rfl:s=0:=by
    have:=(List.getElem?_eq_some_iff.1 hs).1;simp at this; omega
   rw [if_pos rfl] at hj;have hf:=HF.out.below hj;unfold Q1M at e0;refine Q13 rfl 94 #[.pointer (some ⟨b2,0,none⟩),.pointer (some ⟨g6,0,none⟩),.pointer (some ⟨b3,0,none⟩)] (by go_simp) ((Q9p k L asked b2 g6 b3 n W (HBK.out.below hj) hn has hf.h2 hf.h6 hf.h3).mono ?_);rintro e w' ⟨v,gs,cs,rfl,hlv⟩;have hg:Q41 w w' k L asked n v:=⟨W,w',gs,cs,hj,hlv,zO _ _⟩;exact⟨v,rfl,trivial,by simp only [zS,Nat.one_ne_zero,if_false]; exact⟨v,hg⟩,hg⟩
  ·have e0:=sJ (hd 0) 1;exact sV
  have e0:=sJ (hd 6) 7;exact sV
 intro f W hj hd;have h6:Q41 w W k L asked n (f 6):=hd 5 (by omega) _ 6 rfl rfl;have h8:f 8=.pointer (some ⟨t,6,none⟩):=hd 7 (by omega) _ 8 rfl rfl;have hB:=HT.out W (HO.out W _ h6);have cc:W.cell? ⟨t,6,none⟩=some all:=(hB.cell 6).trans rfl;have ff:=hB.frozen 6;obtain⟨v,hv⟩:∃ v,v=f 6:=⟨_,rfl⟩;rw [<- hv] at h6;obtain⟨A,c,hsv⟩:∃ A c,v=.slice A 3 c:=by obtain⟨W1,W2,gs,cs,h1,h2,h3⟩:=h6;exact Q8g h2.row
 have HG6:=sH h6;have HV:=sH hv;simp only [Q0R,tU,h8,<- hv];subst hsv;clear hd hj hB h6 hv;try simp only [Act.put,sA]
 go_wp2_with fail
 go_end0
 exact⟨rfl,W,_,HG6.out,rfl⟩
end
section
open Go.RowKit Go.Maps
attribute [local irreducible] wpList
theorem Q5l (k:Book) (n:Nat) (d m m':Int) (fv all:zB):(Q1W k n d m fv all).setIfInBounds 3 (.int .i32 m')=Q1W k n d m' fv all:=by simp [Q1W]
theorem Q8l (k:Book) (n:Nat) (d d' m:Int) (fv all:zB):(Q1W k n d m fv all).setIfInBounds 2 (.int .u32 d')=Q1W k n d' m fv all:=by simp [Q1W]
theorem Q8D (k:Book) (n:Nat) (d m:Int) (fv all all':zB):(Q1W k n d m fv all).setIfInBounds 6 all'=Q1W k n d m fv all':=by simp [Q1W]
def Q6W (w w':zA) (k:Book) (L:LL) (asked n t:Nat) (fv v:zB):Prop:=∃ W1 W2 W3 gs cs,Only (fun b=>b=t) w W1/\Q8c W1 W2 k L asked (zT n []) v gs cs/\zD W2.heap.size W2 W3/\Q05 t W3 w'/\Blk w' t 153 (Q1W k n 1 0 fv v)
theorem Q9s (k:Book) (L:LL) (asked t b2 g6 b3 n:Nat) (pl:Addr) (w:zA) (all:zB) (hn:n=13\/n=6) (has:asked<=800000)
 (hbk:Q0d w k L asked) (hB:Blk w t 153 (Q1W k n 0 0 (Q1M b2 g6 b3) all)) (hp:w.cell? pl=some (.pointer (some ⟨t,0,none⟩))) (hf:Q1w w k b2 g6 b3 n) (htk:¬ k.has t) (hpk:¬ k.has pl.block) (hpt:pl.block≠t) (ht:b2≠t/\g6≠t/\b3≠t) :
 zK zM 128 #[.pointer (some ⟨t,2,none⟩),.func (.func 114) #[] #[.pointer (some pl)]] w fun e w'=>e=.returned (.tuple #[])/\∃ v,Q6W w w' k L asked n t (Q1M b2 g6 b3) v:=by
 have c1:w.cell? ⟨t,2,none⟩=some (.int .u32 0):=(hB.cell 2).trans rfl;have c2:w.cell? ⟨t,3,none⟩=some (.int .i32 0):=(hB.cell 3).trans rfl;have f2:=hB.frozen 3;have hB1:=hB.set_ 3 (.int .i32 1);rw [Q5l] at hB1;have hT1:=Q05.setCell w ⟨t,3,none⟩ (.int .i32 1);have hp1:(w.setCell ⟨t,3,none⟩ (.int .i32 1)).cell? pl=some (.pointer (some ⟨t,0,none⟩)):=(hT1.cell hpt).trans hp;have c11:(w.setCell ⟨t,3,none⟩ (.int .i32 1)).cell? ⟨t,2,none⟩=some (.int .u32 0):=(hB1.cell 2).trans rfl;have hl:=run_call_load (P:=zM) Tryz.func144 (by kernel_rfl) (by kernel_rfl) (by kernel_rfl) .u32 (by kernel_rfl) c11;have hnot:∀ (x:Bool) (w:zA),(Op.unary .not (.bool x)).run zM w=.ok (.bool (!x)) w:=fun _ _=>rfl
 have ho1:Only (fun b=>b=t) w (w.setCell ⟨t,3,none⟩ (.int .i32 1)):=Only.of_turned hT1 rfl;have hbk1:=hbk.only ho1 (fun e=>htk (.inl e.symm)) (fun e=>htk (.inr (.inl e.symm))) (fun e=>htk (.inr (.inr e.symm)));have hf1:=hf.keep (ho1.block _ hf.lt.1 ht.1) (ho1.block _ hf.lt.2.1 ht.2.1) (ho1.block _ hf.lt.2.2 ht.2.2);have HR:=sH (Q7h k L asked t b2 g6 b3 n pl _ 0 1 all hn has hbk1 hB1 hp1 hf1 htk hpk);have HB1:=sH hB1;have HO1:=sH ho1;clear hB1 hT1 hp1 hB hbk1 hf1 ho1 hbk hf
 go_enter_defers Tryz.func128,Tryz.ntmps128
 go_wp2_with (first | (go_at_call 145; refine(Q6i ⟨t,3,none⟩ _ c2 f2).mono ?_; rintro e w' ⟨rfl,rfl⟩) | (go_at_call 127; go_in))
 refine HR.out.mono ?_;rintro e w1 ⟨rfl,W,v,hg,rfl⟩
 go_wp2
 obtain⟨W1,W2,gs,cs,h1,h2,h3⟩:=hg;have hon:Only k.has (w.setCell ⟨t,3,none⟩ (.int .i32 1)) W:=((Only.of_below h1).trans (Only.of_book h2.only)).trans (Only.of_below h3);have hBW:=hon.blk HB1.out htk;have hB2:=hBW.set_ 6 v;rw [Q8D] at hB2;have hB3:=hB2.drew.set_ 2 (.int .u32 1);rw [Q8l] at hB3;have hB4:=hB3.set_ 3 (.int .i32 0);rw [Q5l] at hB4;have hT:Q05 t W (((W.setCell ⟨t,6,none⟩ v).drew.setCell ⟨t,2,none⟩ (.int .u32 1)).setCell ⟨t,3,none⟩ (.int .i32 0)) :=(((Q05.setCell W ⟨t,6,none⟩ v).drewN 1).trans (Q05.setCell _ ⟨t,2,none⟩ _)).trans (Q05.setCell _ ⟨t,3,none⟩ _)
 refine leaves_cons (f:=147) (args:=#[.pointer (some ⟨t,2,none⟩),.bool true]) (by simp) (by simp [go_sem]) ?_;refine(Q2Z ⟨t,2,none⟩ (.int .u32 0) .returning _ ((hB2.cell 2).trans rfl) (hB2.frozen 2)).mono ?_;rintro e u' w'' ⟨rfl,rfl,rfl⟩;refine leaves_cons (f:=146) (args:=#[.pointer (some ⟨t,3,none⟩)]) (by simp [settle]) (by simp [go_sem]) ?_;refine(Q2N ⟨t,3,none⟩ _ _ ((hB3.cell 3).trans rfl) (hB3.frozen 3)).mono ?_;rintro e u' w'' ⟨rfl,rfl,rfl⟩;simp only [Leaves,settle];exact⟨_,by simp [results,Tryz.results128],rfl,v,W1,W2,W,gs,cs,HO1.out.trans (Only.of_below h1),h2,h3,hT,hB4⟩
theorem tdo_any (k:Book) (L:LL) (asked t b2 g6 b3 n:Nat) (pl:Addr) (w:zA) (all:zB) (hn:n=13\/n=6) (has:asked<=800000)
 (hbk:Q0d w k L asked) (hB:Blk w t 153 (Q1W k n 0 0 (Q1M b2 g6 b3) all)) (hp:w.cell? pl=some (.pointer (some ⟨t,0,none⟩))) (hf:Q1w w k b2 g6 b3 n) (htk:¬ k.has t) (hpk:¬ k.has pl.block) (hpt:pl.block≠t) (ht:b2≠t/\g6≠t/\b3≠t) :
 zK zM 113 #[.pointer (some ⟨t,2,none⟩),.func (.func 114) #[] #[.pointer (some pl)]] w fun e w'=>e=.returned (.tuple #[])/\∃ v,Q6W w w' k L asked n t (Q1M b2 g6 b3) v:=by
 have c1:w.cell? ⟨t,2,none⟩=some (.int .u32 0):=(hB.cell 2).trans rfl;have hl:=run_call_load (P:=zM) Tryz.func144 (by kernel_rfl) (by kernel_rfl) (by kernel_rfl) .u32 (by kernel_rfl) c1;have hnot:∀ (x:Bool) (w:zA),(Op.unary .not (.bool x)).run zM w=.ok (.bool (!x)) w:=fun _ _=>rfl
 have HS:=sH (Q9s k L asked t b2 g6 b3 n pl w all hn has hbk hB hp hf htk hpk hpt ht);clear hB hp hf hbk;go_enter Tryz.func113,Tryz.ntmps113
 go_wp2_with (first | (go_at_call 128; refine HS.out.mono ?_; rintro e w1 ⟨rfl,v,hpl⟩; have HPL:=sH hpl; clear hpl) | (go_at_call 127; go_in))
 go_end0
 exact⟨rfl,v,HPL.out⟩
theorem Q8t (k:Book) (L:LL) (asked t b2 g6 b3 n:Nat) (w:zA) (all:zB) (hn:n=13\/n=6) (has:asked<=800000)
 (hbk:Q0d w k L asked) (hB:Blk w t 153 (Q1W k n 0 0 (Q1M b2 g6 b3) all)) (hf:Q1w w k b2 g6 b3 n) (htk:¬ k.has t) (ht:b2≠t/\g6≠t/\b3≠t) :
 zK zM 97 #[.pointer (some ⟨t,0,none⟩)] w fun e w'=>e=.returned (.tuple #[])/\∃ v,Q6W w w' k L asked n t (Q1M b2 g6 b3) v:=by
 have hmf:∀ (fn:Fn) (first cap:Array zB) (w:zA),(Instr.makeFunc fn first cap).run zM w=.ok (.func fn first cap) w:=fun _ _ _ _=>rfl
 have htl:=hB.lt;have hb0:=Q0a w (.cells #[.pointer (some ⟨t,0,none⟩)] 58);have hp:(w.alloc (.cells #[.pointer (some ⟨t,0,none⟩)] 58)).cell? ⟨w.heap.size,0,none⟩=some (.pointer (some ⟨t,0,none⟩)):=by simp
 have hl:=hbk.lt;have HD:=sH (tdo_any k L asked t b2 g6 b3 n ⟨w.heap.size,0,none⟩ _ all hn has (hbk.below hb0) (hB.below' hb0) hp (hf.below hb0) htk (by rintro (e | e | e) <;> simp at e <;> omega) (by simp; omega) ht);have HB0:=sH hb0;clear hbk hB hf hp hb0;go_enter Tryz.func97,Tryz.ntmps97
 go_wp2_with (go_at_call 113; refine HD.out.mono ?_; rintro e w1 ⟨rfl,v,hpl⟩; have HPL:=sH hpl; clear hpl)
 go_end0
 obtain⟨W1,W2,W3,gs,cs,h1,h2,h3,h4,h5⟩:=HPL.out;exact⟨rfl,v,W1,W2,W3,gs,cs,(Only.of_below HB0.out).trans h1,h2,h3,h4,h5⟩
structure Q0O where
 t:Nat
 r:Nat
 rc:Nat
 gs:Nat->Nat
 cs:Nat->Nat
def Q0O.mut (T:Q0O) (b:Nat):Prop:=∃ j,j<=2/\b=T.gs j
def Q0O.has (T:Q0O) (b:Nat):Prop:=b=T.t\/b=T.r\/T.mut b
structure Q1a (w:zA) (T:Q0O) (k:Book) (ls:LL):Prop where
 tlt:T.t<w.heap.size
 rlt:T.r<w.heap.size
 c0:w.cell? ⟨T.t,0,none⟩=some (.pointer (some ⟨k.g,0,none⟩))
 c1:w.cell? ⟨T.t,1,none⟩=some (.int .i64 (ls.length:Int))
 c6:w.cell? ⟨T.t,6,none⟩=some (.slice (some ⟨T.r,0,none⟩) 3 T.rc)
 rj:∀ j,j<=2->w.cell? ⟨T.r,j,none⟩=some (.slice (some ⟨T.gs j,0,none⟩) (lv ls j).length (T.cs j))
 dig:∀ j,j<=2->Q1H w (T.gs j) (T.cs j) (lv ls j)
 ne:∀ i j,i<j->j<=2->T.gs i≠T.gs j
 far:¬ T.mut T.t/\¬ T.mut T.r
 book:¬ k.has T.t/\¬ k.has T.r/\∀ j,j<=2->¬ k.has (T.gs j)
 len:5<=ls.length/\ls.length<=16
theorem Q1a.keep {w w':zA} {T:Q0O} {k:Book} {ls:LL} (h:Q1a w T k ls) (hs:w.heap.size<=w'.heap.size) (hb:∀ b,T.has b->w'.heap[b]?=w.heap[b]?):Q1a w' T k ls :=
 ⟨by have:=h.tlt; omega,by have:=h.rlt; omega,(zP (hb _ (.inl rfl))).trans h.c0,(zP (hb _ (.inl rfl))).trans h.c1,(zP (hb _ (.inl rfl))).trans h.c6,
  fun j hj=>(zP (hb _ (.inr (.inl rfl)))).trans (h.rj j hj),fun j hj=>(h.dig j hj).keep (hb _ (.inr (.inr ⟨j,hj,rfl⟩))),h.ne,h.far,h.book,h.len⟩
theorem Q1a.lt {w:zA} {T:Q0O} {k:Book} {ls:LL} (h:Q1a w T k ls) {b:Nat} (hb:T.has b):b<w.heap.size:=by
 rcases hb with rfl | rfl | ⟨j,hj,rfl⟩
 ·exact h.tlt
 ·exact h.rlt
 exact(h.dig j hj).lt
theorem Q1a.only {w w':zA} {T:Q0O} {k:Book} {ls:LL} {N:Nat->Prop} (h:Q1a w T k ls) (ho:Only N w w') (hn:∀ b,T.has b->¬ N b):Q1a w' T k ls :=h.keep ho.size fun b hb=>ho.block b (h.lt hb) (hn b hb)
theorem Q1a.below {w w':zA} {T:Q0O} {k:Book} {ls:LL} (h:Q1a w T k ls) (hb:zD w.heap.size w w'):Q1a w' T k ls:=h.keep hb.size fun b hx=>hb.block b (h.lt hx)
theorem Q7f (k:Book) (L:LL) (asked n:Nat) (w:zA) (hbk:Q0d w k L asked) (hn:n=13\/n=6) (has:asked<=700000) :
 zK zM 73 #[.pointer (some ⟨k.g,0,none⟩),.int .i64 (n:Int)] w fun e w'=>∃ T:Q0O,e=.returned (.tuple #[.pointer (some ⟨T.t,0,none⟩),.int .i64 0])/\Q1a w' T k (zT n [])/\(∀ b,T.has b->w.heap.size<=b) /\
  (∃ L' a',Q0d w' k L' a'/\a'<=asked+9/\(∀ x,x∈L->x∈L')/\Q0J L' (zT n []))/\Q0b k w w':=by
 have hmf:∀ (fn:Fn) (first cap:Array zB) (w:zA),(Instr.makeFunc fn first cap).run zM w=.ok (.func fn first cap) w:=fun _ _ _ _=>rfl
 have hn2:6<=n/\n<=13:=by omega
 have hn1:¬ (n:Int)<1:=by omega
 have hn1024:¬ (1024:Int)<(n:Int):=by omega
 have HBK:=sH hbk;have hlt:=hbk.lt;obtain⟨b2,hb2⟩:∃ b2,b2=w.heap.size:=⟨_,rfl⟩;obtain⟨b3,hb3⟩:∃ b3,b3=w.heap.size+1:=⟨_,rfl⟩;clear hbk;go_enter Tryz.func73,Tryz.ntmps73
 go_upto_region 1 with fail
 have hX:zD w.heap.size w ((w.alloc (.cells #[.pointer (some ⟨k.g,0,none⟩)] 22)).alloc (.cells #[.int .i64 (n:Int)] 3)):=((zO _ _).alloc (zN _) _).alloc (by simp) _;have k2:Blk ((w.alloc (.cells #[.pointer (some ⟨k.g,0,none⟩)] 22)).alloc (.cells #[.int .i64 (n:Int)] 3)) w.heap.size 22 #[.pointer (some ⟨k.g,0,none⟩)]:=(Blk.newAt rfl).alloc _;have k3:Blk ((w.alloc (.cells #[.pointer (some ⟨k.g,0,none⟩)] 22)).alloc (.cells #[.int .i64 (n:Int)] 3)) (w.heap.size+1) 3 #[.int .i64 (n:Int)]:=Blk.newAt (by simp);have hz1:((w.alloc (.cells #[.pointer (some ⟨k.g,0,none⟩)] 22)).alloc (.cells #[.int .i64 (n:Int)] 3)).heap.size=w.heap.size+2:=by simp
 generalize (w.alloc (.cells #[.pointer (some ⟨k.g,0,none⟩)] 22)).alloc (.cells #[.int .i64 (n:Int)] 3)=w1 at hX k2 k3 hz1 ⊢;rw [<- hb3] at k3 ⊢;rw [<- hb2] at k2 hz1 ⊢;have hb2w:w.heap.size<=b2:=by omega
 have hb3w:w.heap.size<=b3:=by omega
 have hb23:b2≠b3:=by omega
 have hw1:w.heap.size<=w1.heap.size:=by omega
 have HX:=sH hX;have K2:=sH k2;have K3:=sH k3;have hl2:=k2.lt;have hl3:=k3.lt;clear hb2 hb3 hX k2 k3 hz1;have c3:w1.cell? ⟨b3,0,none⟩=some (.int .i64 (n:Int)):=(K3.out.cell 0).trans rfl;have c2:w1.cell? ⟨b2,0,none⟩=some (.pointer (some ⟨k.g,0,none⟩)):=(K2.out.cell 0).trans rfl;have HLF:=sH (Q7Q k L asked none 0 0 [] w1 w1.heap.size (HBK.out.below HX.out) Q04.none_ (zN _) (by omega) (by omega));have HZS:=sH (show inkZ.size=32 by simp [inkZ,bRow]);have HZ:=sH Q1O;have hds:(bRow (Q2e [])).size=32:=Q0P (Q1Y []);have hdo:=Q0I (Q2e []);obtain⟨D,hD⟩:∃ D,D=bRow (Q2e []):=⟨_,rfl⟩;rw [<- hD] at HLF hds hdo;have HD:=sH hD;have HDS:=sH hds;have HDO:=sH hdo;clear hD hds hdo;go_wp2_with fail
 refine HLF.out.mono ?_;rintro _ w3 ⟨rfl,hbk3,ho3⟩;have HBK3:=sH hbk3;have HO3:=sH ((Q0b.of_below HX.out).trans ho3);have K23:=sH ((Only.of_book ho3).blk K2.out (by rintro (e | e | e) <;> omega));have K33:=sH ((Only.of_book ho3).blk K3.out (by rintro (e | e | e) <;> omega));have hs3:=ho3.size;clear hbk3 ho3 c2 c3 K2 K3 HLF;go_upto_region 4 with(refine Q00 (o:=⟨none,_,_,_,_,_⟩) rfl 51 (.tmp 6) (.tmp 18) rfl w3.heap.size 0 D rfl rfl 51 inkZ (by rw [HZ.out]; exact Blk.newAt rfl) (by rw [HDS.out]; rfl) (by rw [HDS.out,HZS.out]; omega) HDO.out ?_; intro w4 hT4 hD4; rw [Q0h _ _ (by rw [HDS.out,HZS.out])] at hD4)
 have hb4:zD w3.heap.size w3 w4:=hT4.below ((zO _ _).alloc (zN _) _) (zN _);have hs4:=hb4.size;have hg6:=hD4.lt;obtain⟨g6,hg6e⟩:∃ g,g=w3.heap.size:=⟨_,rfl⟩;rw [<- hg6e] at hD4 hg6 ⊢;have hg6w:w3.heap.size<=g6:=by omega
 have HBK4:=sH (HBK3.out.below hb4);have HO4:=sH (HO3.out.trans (Q0b.of_below hb4));have K24:=sH (K23.out.below' hb4);have K34:=sH (K33.out.below' hb4);have HD4:=sH hD4;have hk2:=K24.out.lt;have hk3:=K34.out.lt;clear hT4 hD4 hb4 hg6e HBK3 HO3 K23 K33;have c3:w4.cell? ⟨b3,0,none⟩=some (.int .i64 (n:Int)):=(K34.out.cell 0).trans rfl;have c2:w4.cell? ⟨b2,0,none⟩=some (.pointer (some ⟨k.g,0,none⟩)):=(K24.out.cell 0).trans rfl;go_upto_region 7 with fail
 have hb5:=Q0a w4 (.cells (Q1W k n 0 0 .nilFunc (.slice none 0 0)) 153);have hB5:Blk (w4.alloc (.cells (Q1W k n 0 0 .nilFunc (.slice none 0 0)) 153)) w4.heap.size 153 (Q1W k n 0 0 .nilFunc (.slice none 0 0)):=Blk.newAt rfl;have e5:Q1W k n 0 0 .nilFunc (.slice none 0 0)=#[.pointer (some ⟨k.g,0,none⟩),.int .i64 (n:Int),.int .u32 0,.int .i32 0,.int .u32 0,.nilFunc,.slice none 0 0]:=rfl;rw [<- e5];have hz5:(w4.alloc (.cells (Q1W k n 0 0 .nilFunc (.slice none 0 0)) 153)).heap.size=w4.heap.size+1:=by simp
 generalize w4.alloc (.cells (Q1W k n 0 0 .nilFunc (.slice none 0 0)) 153)=w5 at hb5 hB5 hz5 ⊢;obtain⟨t,ht⟩:∃ t,t=w4.heap.size:=⟨_,rfl⟩;rw [<- ht] at hB5 hz5 ⊢;have ht4:w4.heap.size<=t:=by omega
 have HB5:=sH hb5;have HBT:=sH hB5;have htl:=hB5.lt;clear ht hb5 hB5 e5 c2 c3;have c5:w5.cell? ⟨t,5,none⟩=some .nilFunc:=(HBT.out.cell 5).trans rfl;have f5:=HBT.out.frozen 5;go_upto_region 8 with fail
 have hB6:=HBT.out.set_ 5 (Q1M b2 g6 b3);have hT6:=Q05.setCell w5 ⟨t,5,none⟩ (Q1M b2 g6 b3);have e6:(Q1W k n 0 0 .nilFunc (.slice none 0 0)).setIfInBounds 5 (Q1M b2 g6 b3)=Q1W k n 0 0 (Q1M b2 g6 b3) (.slice none 0 0):=by simp [Q1W]
 rw [e6] at hB6;have e7:Q1M b2 g6 b3=.func (.func 94) #[] #[.pointer (some ⟨b2,0,none⟩),.pointer (some ⟨g6,0,none⟩),.pointer (some ⟨b3,0,none⟩)]:=rfl;rw [<- e7];generalize w5.setCell ⟨t,5,none⟩ (Q1M b2 g6 b3)=w6 at hB6 hT6 ⊢;have ho6:Only (fun b=>b=t) w4 w6:=(Only.of_below HB5.out).trans (Only.of_turned hT6 rfl);have hbk6:=HBK4.out.only ho6 (by omega) (by omega) (by omega);have hf6:Q1w w6 k b2 g6 b3 n:=by refine⟨((ho6.blk K24.out (by omega)).cell 0).trans rfl,?_,((ho6.blk K34.out (by omega)).cell 0).trans rfl⟩;have:=ho6.blk HD4.out (show ¬ g6=t by omega);rw [HD.out] at this;exact this
 have HRY:=sH (Q8t k (Q0Q L (Q1K [])) (asked+1) t b2 g6 b3 n w6 (.slice none 0 0) hn (by omega) hbk6 hB6 hf6 (by rintro (e | e | e) <;> omega) ⟨by omega,by omega,by omega⟩);have hs6:=ho6.size;have htl6:=hB6.lt;have HO6:=sH (show Q0b k w w6 from⟨ho6.os.trans HO4.out.os,ho6.tape.trans HO4.out.tape,ho6.output.trans HO4.out.output,by omega,fun i hi hn=>(ho6.block i (by omega) (by omega)).trans (HO4.out.block i hi hn)⟩);clear hB6 hT6 e6 e7 ho6 hbk6 hf6 c5 f5 HBT HB5 HBK4 HO4 K24 K34 HD4;go_wp2_with fail
 refine HRY.out.mono ?_;rintro _ w7 ⟨rfl,v,W1,W2,W3,gs,cs,h1,h2,h3,h4,h5⟩;go_wp2_with fail
 go_ret2
 obtain⟨L',a',q1,q2,q3,q4,q5⟩:=h2.book;have hs1:=h1.size;have hs2:=h2.only.size;have hs3:=h3.size;have hs7:=h4.size;obtain⟨r,rc,cur,hv,r2,r3,r4,r5,r6,r7⟩:∃ r rc cur,v=.slice (some ⟨r,0,none⟩) 3 rc/\W1.heap.size<=r/\Blk W2 r 139 cur/\3<=rc/\rc<=maxLen/\cur.size=rc*1/\cur.toList.take (3*1)=(zL 3).map fun j=>.slice (some ⟨gs j,0,none⟩) (lv (zT n []) j).length (cs j):=by
  rcases h2.row.2 with⟨_,h⟩ | h
  ·omega
  exact h
 subst hv;have hblk:∀ b,b<W2.heap.size->b≠t->w7.heap[b]?=W2.heap[b]?:=fun b hb hn=>(h4.block b hn).trans (h3.block b hb)
 have hls:(zT n ([]:List UInt8)).length=n:=by simp
 refine⟨⟨t,r,rc,gs,cs⟩,rfl,⟨h5.lt,?_,(h5.cell 0).trans rfl,?_,(h5.cell 6).trans rfl,fun j hj=>?_,fun j hj=>?_,h2.ne,⟨?_,?_⟩,⟨?_,?_,fun j hj=>?_⟩,by rw [hls]; omega⟩,?_,⟨L',a',?_,by omega,fun x hx=>q3 x (Q1q hx),?_⟩,?_⟩
 ·show r<w7.heap.size;have:=r3.lt;omega
 ·rw [hls]; exact(h5.cell 1).trans rfl
 ·have hc:=(r3.cell j);have e1:w7.cell? ⟨r,j,none⟩=W2.cell? ⟨r,j,none⟩:=zP (hblk r r3.lt (by omega));show w7.cell? ⟨r,j,none⟩=_;rw [e1,hc,<- zW];have e2:(cur.toList.take (3*1))[j]?=some (.slice (some ⟨gs j,0,none⟩) (lv (zT n []) j).length (cs j)):=by
   rw [r7,List.getElem?_map,List.getElem?_range (by omega)]; rfl
  rw [zR,if_pos (by omega)] at e2;exact e2
 ·have hd:=h2.dig j hj;have:=h2.new j hj;exact hd.keep (hblk _ hd.lt (by omega))
 ·rintro ⟨j,hj,e⟩;have:=h2.new j hj;simp only at e;omega
 ·rintro ⟨j,hj,e⟩;simp only at e;obtain⟨cur',hc',_⟩:=(h2.dig j hj).row;rw [<- e] at hc';exact absurd rfl (Blk.ne_ r3 hc' (by decide))
 iterate 2 ·rintro (e | e | e) <;> simp only at e <;> omega
 ·have:=h2.new j hj;rintro (e | e | e) <;> simp only at e <;> omega
 ·rintro b (e | e | ⟨j,hj,e⟩) <;> simp only at e
  iterate 2 ·omega
  have:=h2.new j hj;omega
 ·exact(q1.below h3).only (Only.of_turned h4 (rfl:(fun b=>b=t) t)) (by omega) (by omega) (by omega)
 ·refine⟨fun x hx=>?_,?_,q5⟩
  ·obtain⟨_,rfl⟩:=List.mem_replicate.1 hx;exact q3 _ (Q2f _ _)
  exact q4
 have ho:=HO6.out;refine⟨h4.os.trans (h3.os.trans (h2.only.os.trans (h1.os.trans ho.os))),h4.tape.trans (h3.tape.trans (h2.only.tape.trans (h1.tape.trans ho.tape))),h4.output.trans (h3.output.trans (h2.only.output.trans (h1.output.trans ho.output))),by omega,fun i hi hn=>?_⟩;rw [hblk i (by omega) (by omega),h2.only.block i (by omega) hn,h1.block i (by omega) (by omega),ho.block i hi hn]
end
section
open Go.RowKit Go.Maps
theorem Q6d (w:zA) (t:Nat) (p:Nat) (h:w.cell? ⟨t,0,none⟩=some (.pointer (some ⟨p,0,none⟩))) :
 zK zM 85 #[.pointer (some ⟨t,0,none⟩)] w fun e w'=>e=.returned (.bool false)/\w=w':=by
 go_enter Tryz.func85,Tryz.ntmps85
 go_wp2
 go_ret
 exact⟨rfl,rfl⟩
end
end Go.Proofs.YtckjnbjiafgibaaGreat
