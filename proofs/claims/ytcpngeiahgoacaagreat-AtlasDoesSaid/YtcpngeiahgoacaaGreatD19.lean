/- Parts of the proof, in one text: RaK, RvA, RefA, RefB, RefC, RefD. -/
import Derived.Test.YtcpngeiahgoacaaGreatD15
import Derived.Test.YtcpngeiahgoacaaGreatD18
import Derived.Test.YtcpngeiahgoacaaGreatD8
import Derived.Test.YtcpngeiahgoacaaGreatD9
import Derived.Test.YtcpngeiahgoacaaGreatD3
import Derived.Test.YtcpngeiahgoacaaGreatD4
namespace Go.Proofs.YtcpngeiahgoacaaGreat
set_option linter.unusedVariables false
set_option linter.unusedSimpArgs false
set_option maxRecDepth 100000
set_option maxHeartbeats 16000000
section
open Go.RowKit Go.Maps
attribute [local irreducible] wpList Q0i
def newC (v:Value):Array Value:=#[v,.slice none 0 0,.slice none 0 0,.int .i64 0,.int .i64 0,.int .i64 0,.int .i64 0,.int .i64 0,.slice none 0 0,.int .i64 0,.slice none 0 0,.int .i64 0,.slice none 0 0,.int .i64 0,.slice none 0 0,.int .i64 0,.slice none 0 0,.int .i64 0,.slice none 0 0,.int .i64 0,.slice none 0 0,.int .i64 0,.slice none 0 0]
def Q6N (w:World) (o:Option AM) (e:Ending) (w':World):Prop:=Below w.heap.size w w'/\(o=none->e=.returned (.tuple #[.pointer none,.int .i64 2]))/\(∀ m,o=some m->∃ g,e=.returned (.tuple #[.pointer (some ⟨g,0,none⟩),.int .i64 0])/\w.heap.size<=g/\RAWr w' g (fun b=>b<w.heap.size) m)
theorem Q7E:∀ (t:List (Int×List Int)) (acc:List Srv) (f0:Int) (cs:List Srv),Q1M acc f0 t=some cs->cs=acc++t.map (fun c=>(⟨c.1.toNat,c.2,[]⟩:Srv))/\∀ c,c∈t->c.1=f0/\0<=c.1/\c.2.length<=7
 | [],acc,f0,cs,e=>⟨by rw [<- Option.some.inj e]; simp,fun c h=>by cases h⟩
 | c :: t,acc,f0,cs,e=>by
  unfold Q1M at e;split at e
  ·rename_i hc;have:=Q7E t _ f0 cs e;refine⟨by rw [this.1]; simp,fun d hd=>?_⟩;rcases List.mem_cons.1 hd with rfl | hd
   ·exact⟨hc.2.1,hc.1.1,by have:=hc.1.2.2.1; have:=hc.1.2.1; omega⟩
   ·exact this.2 d hd
  ·cases e
theorem Qcf {cs:List (Int×List Int)} {ss:List Srv} (h:Q2w cs=some ss):ss=cs.map (fun c=>(⟨c.1.toNat,c.2,[]⟩:Srv))/\(∃ f:Nat,∀ c,c∈cs->c.1=(f:Int)/\c.2.length<=7)/\1<=cs.length/\cs.length<=2:=by
 cases cs with
 | nil=>cases h
 | cons c t =>
  unfold Q2w at h;simp only at h;split at h
  ·rename_i hl;have:=Q7E _ _ _ _ h;have h0:=this.2 c (List.mem_cons_self ..);exact⟨by rw [this.1]; rfl,⟨c.1.toNat,fun d hd=>⟨by have:=(this.2 d hd).1; omega,(this.2 d hd).2.2⟩⟩,by simp,hl⟩
  ·cases h
theorem raFresh {ss:List Srv} (hb:∀ s,s∈ss->s.moves=[]) (S:RASl) (h1:∀ i,S.mA i=none) (h2:∀ i,S.mC i=0) (h3:∀ i,S.lA i=none) (h4:∀ i,S.lC i=0):Q1G (Q1t ss) S=newC (.slice S.fA ss.length S.fC):=by
 have hm:∀ i,Q1o (Q1t ss) i=[]:=fun i=>by
  unfold Q1o;cases e:(Q1t ss).chunks[i]? with
  | none=>rfl
  | some s=>exact hb s (List.mem_of_getElem? e)
 have hl:∀ i,Q0u (Q1t ss) i=(0,okA):=fun i=>by
  unfold Q0u Q1t;rw [List.getD_eq_getElem?_getD,List.getElem?_replicate];split <;> rfl
 unfold Q1G
 symm
 refine Q40 rfl fun j hj=>?_
 have e:raF (Q1t ss) S j=(newC (.slice S.fA ss.length S.fC))[j]?.getD undef:=by
  unfold raF;simp only [hm,hl,h1,h2,h3,h4];rcases Nat.lt_or_ge j 12 with h | h
  ·rcases Nat.lt_or_ge j 6 with h' | h'
   ·obtain rfl | rfl | rfl | rfl | rfl | rfl:j=0\/j=1\/j=2\/j=3\/j=4\/j=5:=by omega
    all_goals rfl
   ·obtain rfl | rfl | rfl | rfl | rfl | rfl:j=6\/j=7\/j=8\/j=9\/j=10\/j=11:=by omega
    all_goals rfl
  ·rcases Nat.lt_or_ge j 18 with h' | h'
   ·obtain rfl | rfl | rfl | rfl | rfl | rfl:j=12\/j=13\/j=14\/j=15\/j=16\/j=17:=by omega
    all_goals rfl
   ·obtain rfl | rfl | rfl | rfl | rfl:j=18\/j=19\/j=20\/j=21\/j=22:=by omega
    all_goals rfl
 rw [e,Array.getElem?_eq_getElem (show j<(newC (.slice S.fA ss.length S.fC)).size from hj)];rfl
theorem Q1a.fresh {w0 w:World} {g f:Nat} {A:Option Addr} {c:Nat} {cs:List (Int×List Int)} {ss:List Srv} {nA:Nat->Option Addr} {nC:Nat->Nat} (hss:Q2w cs=some ss) (hf:∀ s,s∈ss->s.f=f) (hg:w0.heap.size<=g) (hB:Blk w g 153 (newC (.slice A ss.length c))) (ho:Q1J w w0.heap.size (.slice A ss.length c) f (ss.map (·.first)) nA nC):RAWr w g (fun b=>b<w0.heap.size) (Q1t ss):=by
 have hq:=Q99 hss;have hm:∀ i,Q1o (Q1t ss) i=[]:=fun i=>by
  unfold Q1o;cases e:(Q1t ss).chunks[i]? with
  | none=>rfl
  | some s=>exact hq.2.1 s (List.mem_of_getElem? e)
 have hl:∀ i,Q0u (Q1t ss) i=(0,okA):=fun i=>by
  unfold Q0u Q1t;rw [List.getD_eq_getElem?_getD,List.getElem?_replicate];split <;> rfl
 refine⟨⟨f,A,c,nA,nC,fun _=>none,fun _=>0,fun _=>none,fun _=>0⟩,⟨?_,?_,hf,fun i s hs=>?_,fun i hi=>?_,fun b hb=>?_,fun i hi=>?_,Q9N hq.1,by omega,fun b hb=>?_,fun i hi b hb=>?_⟩,⟨fun i s hs a h0 ha hr=>?_,fun i hi a h0 ha hr=>by cases ha⟩⟩
 ·rw [raFresh hq.2.1 _ (fun _=>rfl) (fun _=>rfl) (fun _=>rfl) (fun _=>rfl)];exact hB
 ·have:=ho.row;rw [List.length_map] at this;exact Q9g this (Nat.zero_le _)
 ·have:=ho.nodes i s.first (by rw [List.getElem?_map]; show Option.map _ (ss[i]?)=_; rw [show ss[i]?=some s from hs]; rfl);obtain⟨A',c',e1,e2⟩:=FarN.of_own (w0:=w0) (N:=fun b=>b<w0.heap.size) this (fun b hb=>hb);injection e1 with e3 e4 e5
  show FarN w (fun b=>b<w0.heap.size) (nA i) (nC i) s.first;rw [e3,e5];exact e2
 ·rw [hm];exact⟨rfl,.inl ⟨rfl,rfl⟩⟩
 ·rw [hm] at hb;cases hb
 ·rw [hl];exact FarN.nil _ _
 ·have:=(Q0a ho.row hb).1;omega
 ·rw [hm] at hb;cases hb
 ·have hn:=ho.nodes i s.first (by rw [List.getElem?_map]; show Option.map _ (ss[i]?)=_; rw [show ss[i]?=some s from hs]; rfl);have ha':nA i=some a:=ha;have hob:(Value.slice (nA i) s.first.length (nC i)).ownBlock=some a.block:=by rw [ha']; rfl
  rcases hr with e | ⟨q,hq',e⟩
  ·exact Q09 hn hB (by decide) (by rw [hob,e])
  ·cases e
theorem QcU (A:Option Addr) (n c:Nat) (cs:List (Int×List Int)) (w:World) (h:Q2V w A n cs) (hn:n<=17592186044416) :
 Calls Tryz.prog 36 #[.slice A n c] w (Q6N w (newQ cs)):=by
 have hlen:=h.len;have HFB:=Lib.hid (Q9s A n c cs w h hn);have hbf:=Q91 cs;obtain⟨P,hP⟩:∃ P,P=Q6N w (newQ cs):=⟨_,rfl⟩;have HP:=Lib.hid hP;rw [<- hP];cases hbv:Q2w cs with
 | none =>
  rw [hbv] at hbf;rw [<- show false=Q1S cs from hbf] at HFB;have HQ:=Lib.hid (show newQ cs=none by unfold newQ; rw [hbv]; rfl);clear hbf hbv h hlen hP;go_enter Tryz.func36,Tryz.ntmps36
  go_wp2_with fail
  refine HFB.out.mono ?_;rintro _ w1 ⟨rfl,hb1⟩;have HB1:=Lib.hid hb1;clear hb1;go_wp2_with fail
  show P (.returned (.tuple #[.pointer none,.int .i64 2])) w1;rw [HP.out,HQ.out];exact⟨HB1.out,fun _=>rfl,fun m e=>by cases e⟩
 | some ss =>
  rw [hbv] at hbf;rw [<- show true=Q1S cs from hbf] at HFB;have HQ:=Lib.hid (show newQ cs=some (Q1t ss) by unfold newQ; rw [hbv]; rfl);obtain⟨hss,⟨f,hf⟩,hl1,hl2⟩:=Qcf hbv;have HBV:=Lib.hid hbv;have HSS:=Lib.hid hss;have HF:=Lib.hid hf;have H:=Lib.hid (fun(W:World) (hb:Below w.heap.size w W)=>h.below hb);have HLEN:=Lib.hid hlen;obtain⟨q,o0,A',c',C',hA,hx0⟩:=Q1s h (i:=0) (by omega);subst hA;have hn2:n<=2:=by omega
  have hn1:1<=n:=by omega
  clear hx0;clear hbf hbv h hlen hP hss hf hl1 hl2;go_enter Tryz.func36,Tryz.ntmps36
  go_wp2_with fail
  refine HFB.out.mono ?_;rintro _ w1 ⟨rfl,hb1⟩;have HB1:=Lib.hid hb1;have hs1:=hb1.size;clear hb1;go_upto_region 5 with fail
  have hb2:=Q07 w1 (.cells (newC (.slice none 0 0)) 153);have HD2:=Lib.hid (Blk.newAt rfl:Blk (w1.alloc (.cells (newC (.slice none 0 0)) 153)) w1.heap.size 153 (newC (.slice none 0 0)));have HB2:=Lib.hid (HB1.out.trans (hb2.mono hs1));obtain⟨w2,hw2⟩:∃ W,W=w1.alloc (.cells (newC (.slice none 0 0)) 153):=⟨_,rfl⟩;rw [show w1.alloc (.cells #[.slice none 0 0,.slice none 0 0,.slice none 0 0,.int .i64 0,.int .i64 0,.int .i64 0,.int .i64 0,.int .i64 0,.slice none 0 0,.int .i64 0,.slice none 0 0,.int .i64 0,.slice none 0 0,.int .i64 0,.slice none 0 0,.int .i64 0,.slice none 0 0,.int .i64 0,.slice none 0 0,.int .i64 0,.slice none 0 0,.int .i64 0,.slice none 0 0] 153)=w2 from hw2.symm];rw [<- hw2] at HD2 HB2;clear hw2;obtain⟨g,hg⟩:∃ g,g=w1.heap.size:=⟨_,rfl⟩;rw [<- hg] at HD2 ⊢;have hgw:w.heap.size<=g:=by omega
  clear hb2 hg hs1 HB1;go_loopw [5] (fun iv wr=>∃ k:Nat,k<=n/\iv=.int .i64 k/\Below w.heap.size w wr/\∃ V,Blk wr g 153 (newC V)/\(∃ A c,V=.slice A k c)/\∃ nA nC,Q1J wr w.heap.size V f ((cs.map (·.2)).take k) nA nC) (fun iv _=>n - (intOf iv).toNat)
  case atStart=>exact⟨0,by omega,rfl,HB2.out,_,HD2.out,⟨none,0,rfl⟩,fun _=>none,fun _=>0,⟨⟨rfl,.inl ⟨rfl,rfl⟩⟩,fun i l hl=>by simp at hl⟩⟩
  clear HD2 HB2;case round =>
   obtain⟨k,hk,rfl,hlow,V,hbl,hV,hown⟩:=hrel;have HB:=Lib.hid hlow;have HLS:=Lib.hid hlow.size;have hls:=hlow.size;by_cases hkn:k<n
   ·have hkl:k<cs.length:=by have:=HLEN.out; omega
    obtain⟨q',o',Ai,ci,C,hq',hC,hql,hcv,hrd,hnl⟩:=Q1s (H.out wr hlow) hkl;obtain⟨rfl,rfl⟩:q=q'/\o0=o':=by injection hq' with e; injection e with e1 e2; exact⟨e1,e2⟩
    have hcf:=HF.out cs[k] (List.getElem_mem hkl);obtain⟨zs,hzs⟩:∃ z,z=cs[k].2:=⟨_,rfl⟩;obtain⟨ls,hls2⟩:∃ l,l=(cs.map (·.2)).take k:=⟨_,rfl⟩;have HTK:=Lib.hid (show (cs.map (·.2)).take (k+1)=ls++[zs] by
     rw [hls2,List.take_add_one,List.getElem?_map,List.getElem?_eq_getElem hkl,hzs]; rfl)
    have HLL:=Lib.hid (show ls.length=k by rw [hls2,List.length_take,List.length_map]; omega);rw [<- hls2] at hown;rw [<- hzs,hcf.1] at hC;rw [<- hzs] at hrd hnl;have HCP:=Lib.hid (fun(W:World) (hb:Below wr.heap.size wr W)=>Q5I (f:Int) Ai zs.length ci zs W wr.heap.size (hrd.below hb) hb.size hnl);rw [<- hC] at HCP;have HCS:=Lib.hid (show C.size=2 by rw [hC]; rfl);have HCV:=Lib.hid (fun(W:World) (hb:Below wr.heap.size wr W)=>(hcv W hb).2.2);have HD:=Lib.hid hbl;have HOW:=Lib.hid hown;have HIN:=Lib.hid (show (k:Int)<(n:Int) by omega);have hinI:(k:Int)<(n:Int):=by omega
    obtain⟨i0,hi0,hz0,hz1,hz2⟩:=info_parts Q8m;clear hq' hC hcv hrd hnl hcf hzs hls2 hbl hown hlow hV;go_upto_region 7 with fail
    refine Q2i 14 32 (fun jx W v=>match jx with | 0=>v=.pointer (some ⟨g,0,none⟩) | 1=>v=.pointer (some ⟨g,0,none⟩) | 2=>v=.pointer (some ⟨g,0,none⟩) | 3=>v=.pointer (some ⟨g,0,none⟩) | 4=>v=V | 5=>v=.slice (some ⟨q,o0,none⟩) n c | 6=>v=.int .i64 (k:Int) | 7=>v=.pointer (some ⟨q,o0+k*2,none⟩) | 8=>v=.agg C | 9=>∃ A' c',v=.agg (crC (f:Int) A' zs.length c')/\OwnN W w.heap.size (.slice A' zs.length c') zs | 10=>∃ g9 A' c',v=.slice (some ⟨g9,0,none⟩) 1 1/\(∀ b,V.ownBlock=some b->b≠g9)/\Blk W g9 77 (crC (f:Int) A' zs.length c')/\OwnN W w.heap.size (.slice A' zs.length c') zs | 11=>∃ A' c' nA nC,v=.slice A' (k+1) c'/\Q1J W w.heap.size (.slice A' (k+1) c') f (ls++[zs]) nA nC | 12=>v=.pointer (some ⟨g,0,none⟩) | 13=>v=.pointer (some ⟨g,0,none⟩) | _=>True) (fun s W=>match s with | 0=>Below wr.heap.size wr W/\Blk W g 153 (newC V)/\∃ nA nC,Q1J W w.heap.size V f ls nA nC | _=>Below w.heap.size w W/\Blk W g 153 (newC V)) (fun W W'=>W.grownBy W' V.ownBlock) [11] (fun _=>[]) (fun _=>[]) [17,18,19,20,21,22,23,24,25,26,27,28,29,30] (by kernel_rfl) (by kernel_rfl) (by kernel_rfl) (by kernel_rfl) (by kernel_rfl) (by kernel_rfl) (by first | rfl | simp) (by kernel_rfl) (fun jx=>?last) ?lastR ?jay ⟨Below.refl _ _,HD.out,HOW.out⟩ ?heads ?_
    case last =>
     match jx with
     | 0 | 1 | 2 | 3 | 4 | 5 | 6 | 7 | 8 | 12 | 13 | jx+14=>exact Q16.pure _
     | 9=>exact fun W W' v ⟨A',c',h1,h2⟩ hb=>⟨A',c',h1,h2.below_ hb⟩
     | 10=>exact fun W W' v ⟨g9,A',c',h1,h0,h2,h3⟩ hb=>⟨g9,A',c',h1,h0,h2.below' hb,h3.below_ hb⟩
     | 11=>exact fun W W' v ⟨A',c',nA,nC,h1,h2⟩ hb=>⟨A',c',nA,nC,h1,h2.below hb⟩
    case lastR =>
     intro s jx W W' v hsl hdd hlt hs hj hp hr;match jx with
     | 0 | 1 | 2 | 3 | 4 | 5 | 6 | 7 | 8 | 12 | 13 | jx+14=>exact hp
     | 9 =>
      obtain rfl:s=0:=by simpa using hsl
      obtain⟨nA,nC,hown⟩:=hj.2.2;obtain⟨A',c',h1,h2⟩:=hp;exact⟨A',c',h1,h2.keep_ fun b hb=>hr.block b (Q0a h2 hb).2 (fun e=>by
       rcases hown.row.2 with⟨e1,_⟩ | ⟨gc,cap,cur2,e1,_,e3,_⟩
       ·rw [e1] at e; cases e
       ·have hB:Blk W gc 77 cur2:=e3;rw [e1] at e;have e':b=gc:=by simpa [Value.ownBlock] using e
        exact Q09 h2 hB (by decide) (e'▸hb))⟩
     | 10 =>
      obtain rfl:s=0:=by simpa using hsl
      obtain⟨nA,nC,hown⟩:=hj.2.2;obtain⟨g9,A',c',h1,h0,h3,h2⟩:=hp;exact⟨g9,A',c',h1,h0,(hr.block g9 h3.lt (fun e=>h0 _ e.symm rfl)).trans h3,h2.keep_ fun b hb=>hr.block b (Q0a h2 hb).2 (fun e=>by
       rcases hown.row.2 with⟨e1,_⟩ | ⟨gc,cap,cur2,e1,_,e3,_⟩
       ·rw [e1] at e; cases e
       ·have hB:Blk W gc 77 cur2:=e3;rw [e1] at e;have e':b=gc:=by simpa [Value.ownBlock] using e
        exact Q09 h2 hB (by decide) (e'▸hb))⟩
     | 11=>exact absurd (by simp at hsl; subst hsl; rfl) (hs 0 (by simp at hsl; omega))
    case jay =>
     intro s W W' hj hb;match s,hj with
     | 0,hj=>exact⟨hj.1.trans (hb.mono hj.1.size),hj.2.1.below' hb,by obtain⟨nA,nC,h⟩:=hj.2.2; exact⟨nA,nC,h.below hb⟩⟩
     | s+1,hj=>exact⟨hj.1.trans (hb.mono hj.1.size),hj.2.below' hb⟩
    case heads =>
     simp only [List.take_succ_cons,List.take_zero];refine⟨?_,?_,?_,?_,?_,?_,?_,?_,?_,?_,?_,?_,?_,?_,trivial⟩
     ·rw [if_neg (by decide)];intro s a W hst hj hkp hd;have e0:a.tmps[4]?.getD undef=.pointer (some ⟨g,0,none⟩):=hkp.get (by kernel_rfl) rfl;exact Q00 rfl _ (by go_simp) rfl
     ·rw [if_neg (by decide)];intro s a W hst hj hkp hd;obtain rfl:=Q11 hst rfl (by kernel_rfl);have hb:Below wr.heap.size wr W:=hj.1;have e0:a.tmps[4]?.getD undef=.pointer (some ⟨g,0,none⟩):=hkp.get (by kernel_rfl) rfl;exact Q00 rfl _ (by go_simp) rfl
     ·rw [if_neg (by decide)];intro s a W hst hj hkp hd;obtain rfl:=Q11 hst rfl (by kernel_rfl);have hb:Below wr.heap.size wr W:=hj.1;have e0:(_:Value)=.pointer (some ⟨g,0,none⟩):=(hd 1 (by kernel_rfl)).get 18 rfl rfl;exact Q00 rfl _ (by go_simp) rfl
     ·rw [if_neg (by decide)];intro s a W hst hj hkp hd;obtain rfl:=Q11 hst rfl (by kernel_rfl);have hb:Below wr.heap.size wr W:=hj.1;have e0:(_:Value)=.pointer (some ⟨g,0,none⟩):=(hd 2 (by kernel_rfl)).get 19 rfl rfl;exact Q00 rfl _ (by go_simp) rfl
     ·rw [if_neg (by decide)];intro s a W hst hj hkp hd;obtain rfl:=Q11 hst rfl (by kernel_rfl);have hb:Below wr.heap.size wr W:=hj.1;have e0:(_:Value)=.pointer (some ⟨g,0,none⟩):=(hd 3 (by kernel_rfl)).get 20 rfl rfl;have cc:W.cell? ⟨g,0,none⟩=some V:=(hj.2.1.cell 0).trans rfl;exact Q00 rfl _ (by go_simp) rfl
     ·rw [if_neg (by decide)];intro s a W hst hj hkp hd;obtain rfl:=Q11 hst rfl (by kernel_rfl);have hb:Below wr.heap.size wr W:=hj.1;have e0:a.tmps[0]?.getD undef=.slice (some ⟨q,o0,none⟩) n c:=hkp.get (by kernel_rfl) rfl;exact Q00 rfl _ (by go_simp) rfl
     ·rw [if_neg (by decide)];intro s a W hst hj hkp hd;obtain rfl:=Q11 hst rfl (by kernel_rfl);have hb:Below wr.heap.size wr W:=hj.1;have e0:a.tmps[5]?.getD undef=.int .i64 (k:Int):=hkp.get (by kernel_rfl) rfl;exact Q00 rfl _ (by go_simp) rfl
     ·rw [if_neg (by decide)];intro s a W hst hj hkp hd;obtain rfl:=Q11 hst rfl (by kernel_rfl);have hb:Below wr.heap.size wr W:=hj.1;have e0:(_:Value)=.slice (some ⟨q,o0,none⟩) n c:=(hd 5 (by kernel_rfl)).get 22 rfl rfl;have e1:(_:Value)=.int .i64 (k:Int):=(hd 6 (by kernel_rfl)).get 23 rfl rfl;have hlt:=HIN.out;exact Q00 rfl _ (by go_simp) rfl
     ·rw [if_neg (by decide)];intro s a W hst hj hkp hd;obtain rfl:=Q11 hst rfl (by kernel_rfl);have hb:Below wr.heap.size wr W:=hj.1;have e0:(_:Value)=.pointer (some ⟨q,o0+k*2,none⟩):=(hd 7 (by kernel_rfl)).get 24 rfl rfl;have e0':a.eval (.tmp 24)=.pointer (some ⟨q,o0+k*2,none⟩):=by simpa [Act.eval] using e0
      exact Q00 rfl (.agg C) (Q0T 77 (.tmp 24) rfl ⟨q,o0+k*2,none⟩ 2 e0' C _ Tryz.underlying77 rfl rfl HCS.out (HCV.out W hb)) rfl
     ·rw [if_neg (by decide)];intro s a W hst hj hkp hd;obtain rfl:=Q11 hst rfl (by kernel_rfl);have hb:Below wr.heap.size wr W:=hj.1;have e0:(_:Value)=.agg C:=(hd 8 (by kernel_rfl)).get 25 rfl rfl;have e1:(_:Value)=.agg C:=(hd 8 (by kernel_rfl)).get 25 rfl rfl;refine Q0w rfl 34 #[.agg C] (by go_simp) ((HCP.out W hb).mono ?_);rintro e w' ⟨A',c',rfl,ho,hb'⟩;exact⟨_,rfl,hb',A',c',rfl,OwnN.more ho (by have:=hb.size; have:=HLS.out; omega)⟩
     ·rw [if_neg (by decide)];intro s a W hst hj hkp hd;obtain rfl:=Q11 hst rfl (by kernel_rfl);have hb:Below wr.heap.size wr W:=hj.1;obtain⟨A',c',e1,ho⟩:=(hd 9 (by kernel_rfl)).get 26 rfl rfl;obtain⟨E,hE⟩:∃ E,E=crC (f:Int) A' zs.length c':=⟨_,rfl⟩;rw [<- hE] at e1;have hfold:Array.foldl (fun(cs:Array Value) (x:Value×Nat)=>cs.setIfInBounds x.snd x.fst) #[Value.int .i64 0,Value.slice none 0 0] E.zipIdx 0 2=E:=by rw [hE]; rfl
      have hes:E.size=2:=by rw [hE]; rfl
      have HE:=Lib.hid hE;clear hE;exact Q21 rfl (.slice (some ⟨W.heap.size,0,none⟩) 1 1) (W.alloc (.cells E 77)) (by go_simp) (Q07 _ _) ⟨W.heap.size,A',c',rfl,fun b hb' e=>by obtain⟨nA,nC,hown⟩:=hj.2.2; have:=(Q0a hown.row hb').2; omega,by rw [<- HE.out]; exact Blk.new W _ _,ho.below_ (Q07 _ _)⟩
     ·rw [if_pos (by decide)];intro s a W hs hj hkp hd;obtain rfl:=Q8P hs;have e21:(_:Value)=V:=(hd 4 (by kernel_rfl)).get 21 rfl rfl;obtain⟨g9,A',c',e27,h9,hk9,ho⟩:=(hd 10 (by kernel_rfl)).get 27 rfl rfl;have e21':a.eval (.tmp 21)=V:=by simpa [Act.eval] using e21
      have e27':a.eval (.tmp 27)=.slice (some ⟨g9,0,none⟩) 1 1:=by simpa [Act.eval] using e27
      obtain⟨nA,nC,hown⟩:=hj.2.2;refine Q6B rfl (.tmp 21) (.tmp 27) 74 rfl w.heap.size 77 i0 _ 2 32 Tryz.underlying74 hi0 hz0 hz1 hz2 rfl (by omega) V ls.length (Q1C f nA nC 0 ls) e21' hown.row (g9+1) (some ⟨g9,0,none⟩) 1 1 (crC (f:Int) A' zs.length c').toList e27' ⟨rfl,fun _=>⟨_,rfl,by show g9<g9+1; omega,fun j u hu=>?_⟩⟩ (fun u hu=>(Array.all_eq_true'.1 (Q1p (f:Int) A' zs.length c')) u (by simpa using hu)) (by have:=HLL.out; unfold maxLen; omega) (by have:=HLL.out; omega) (by have:=hj.1.size; have:=HLS.out; omega) ?_
      ·rw [Q13,Nat.zero_add,hk9.cell,<- Array.getElem?_toList]; exact hu
      ·intro v' w' h2 h3;have hne:V.ownBlock≠some g:=Q09 hown.row hj.2.1 (by decide);have hb2:Below w.heap.size W w':=(Below.refl _ _).grown h3 (by have:=hj.1.size; have:=HLS.out; omega) (fun b hb=>(Q0a hown.row hb).1);obtain⟨A2,c2,q1,_,_⟩:=Q3A h2;subst q1;have hp:=hown.push (l:=zs) (A:=A') (c:=c') h3 ho h2;have hk':ls.length+1=k+1:=by rw [HLL.out]
       rw [hk'] at hp;refine⟨h3,⟨(HB.out.trans (hj.1.mono HLS.out)).trans hb2,(h3.block g hj.2.1.lt (fun e=>hne e.symm)).trans hj.2.1⟩,A2,c2,_,_,by rw [hk'],hp⟩
     ·rw [if_neg (by decide)];intro s a W hst hj hkp hd;have e0:(_:Value)=.pointer (some ⟨g,0,none⟩):=(hd 0 (by kernel_rfl)).get 17 rfl rfl;exact Q00 rfl _ (by go_simp) rfl
     ·rw [if_neg (by decide)];intro s a W hst hj hkp hd;have e0:(_:Value)=.pointer (some ⟨g,0,none⟩):=(hd 12 (by kernel_rfl)).get 29 rfl rfl;exact Q00 rfl _ (by go_simp) rfl
    intro fv W hj hd;obtain⟨A2,c2,nA,nC,e28,ho2⟩:=hd 11 (by omega) (by decide) _ 28 rfl rfl;have f30:fv 30=.pointer (some ⟨g,0,none⟩):=hd 13 (by omega) (by decide) _ 30 rfl rfl;have hlw:Below w.heap.size w W:=hj.1;have hdw:Blk W g 153 (newC V):=hj.2;have cc:W.cell? ⟨g,0,none⟩=some V:=(hdw.cell 0).trans rfl;have hfz:W.frozen? ⟨g,0,none⟩=false:=hdw.frozen 0;have HLW:=Lib.hid hlw;have HDW:=Lib.hid hdw;have HO2:=Lib.hid ho2;clear hd hj hlw hdw ho2;simp only [Q0H,List.drop_succ_cons,List.drop_zero,f30,e28];try simp only [Act.put,sA1,sA2,sA3]
    go_wp2_with fail
    go_roundw
    case rel =>
     have hT:Q0c g W (W.setCell ⟨g,0,none⟩ (.slice A2 (k+1) c2)):=Q0c.setCell W ⟨g,0,none⟩ _;have hne:(Value.slice A2 (k+1) c2).ownBlock≠some g:=Q09 HO2.out.row HDW.out (by decide);refine⟨k+1,by omega,by go_num,hT.below HLW.out hgw,.slice A2 (k+1) c2,?_,⟨_,_,rfl⟩,nA,nC,?_⟩
     ·exact HDW.out.set_ 0 _
     ·rw [HTK.out];exact HO2.out.turned hT hne HDW.out (by decide)
    case measure=>simp [intOf]; omega
   ·obtain rfl:k=n:=by omega
    have hinI:¬ (k:Int)<(k:Int):=by omega
    obtain⟨A3,c3,rfl⟩:=hV;obtain⟨nA,nC,hown⟩:=hown;have hcl:=HLEN.out;have HG:=Lib.hid (show RAWr wr g (fun b=>b<w.heap.size) (Q1t ss) from by
     have hss:=HSS.out;have hsl:ss.length=k:=by rw [hss,List.length_map]; exact hcl
     refine Q1a.fresh (w0:=w) (f:=f) (A:=A3) (c:=c3) (cs:=cs) HBV.out (fun s hs=>?_) hgw (by rw [hsl]; exact hbl) (nA:=nA) (nC:=nC) ?_
     ·rw [hss] at hs;obtain⟨d,hd,rfl⟩:=List.mem_map.1 hs;have:=(HF.out d hd).1;show d.1.toNat=f;omega
     ·have e:ss.map (·.first)=(cs.map (·.2)).take k:=by
       rw [List.take_of_length_le (by rw [List.length_map]; omega),hss,List.map_map];rfl
      rw [e,hsl];exact hown)
    clear hbl hown hlow hcl;go_wp2_with fail
    show P (.returned (.tuple #[.pointer (some ⟨g,0,none⟩),.int .i64 0])) wr;rw [HP.out,HQ.out];exact⟨HB.out,fun e=>by(cases e),fun m e=>⟨g,rfl,hgw,Option.some.inj e▸HG.out⟩⟩
end
section
open Go.RowKit
theorem Q8Q (x:W32):(wi x*(65536:Int)) % 4294967296=wi (x <<< 16):=Q4e x 16
theorem Q8e (x:W32):(wi x*(16777216:Int)) % 4294967296=wi (x <<< 24):=Q4e x 24
theorem QaJ (x:W32):IntKind.u32.wrap (wi x*(65536:Int))=wi (x <<< 16):=Q66 x 16
theorem Qay (x:W32):IntKind.u32.wrap (wi x*(16777216:Int))=wi (x <<< 24):=Q66 x 24
theorem or8 (x:W32) (b:UInt8) (h:x.toNat<16777216):(x <<< 8 ||| b32 b).toNat=x.toNat*256+b.toNat:=by
 have hb:=b.toNat_lt;unfold b32;rw [BitVec.toNat_or,BitVec.toNat_shiftLeft,BitVec.toNat_ofNat,Nat.mod_eq_of_lt (by omega:b.toNat<2 ^ 32),Nat.shiftLeft_eq,Nat.mod_eq_of_lt (by omega)];have:=Nat.shiftLeft_add_eq_or_of_lt (show b.toNat<2 ^ 8 by omega) x.toNat;rw [Nat.shiftLeft_eq] at this;rw [<- this]
theorem Q30 (b:UInt8):(b32 b).toNat=b.toNat:=by
 have hb:=b.toNat_lt;unfold b32;rw [BitVec.toNat_ofNat,Nat.mod_eq_of_lt (by omega)]
theorem be4_sum (a b c d:UInt8):b32 a <<< 24+b32 b <<< 16+b32 c <<< 8+b32 d=be4 a b c d:=by
 have ha:=a.toNat_lt;have hb:=b.toNat_lt;have hc:=c.toNat_lt;have hd:=d.toNat_lt;have h1:=or8 (b32 a) b (by rw [Q30]; omega);have h2:=or8 (b32 a <<< 8 ||| b32 b) c (by rw [h1,Q30]; omega);have h3:=or8 ((b32 a <<< 8 ||| b32 b) <<< 8 ||| b32 c) d (by rw [h2,h1,Q30]; omega);apply BitVec.eq_of_toNat_eq
 unfold be4;rw [h3,h2,h1,BitVec.toNat_add,BitVec.toNat_add,BitVec.toNat_add,BitVec.toNat_shiftLeft,BitVec.toNat_shiftLeft,BitVec.toNat_shiftLeft,Q30,Q30,Q30,Q30,Nat.shiftLeft_eq,Nat.shiftLeft_eq,Nat.shiftLeft_eq];omega
attribute [local go_sem] Q8x Q5X Q8V Q63 Q9G w_or Q8j Q96 Q7n Q66 Q4e Q85 Q5A Q7u Q5s Q3S Q3n Q4S Q4r Q8Q Q8e QaJ Qay
section
attribute [local go_sem] Q8x Q5X Q8V Q63 Q9G w_or Q8j Q96 Q7n Q66 Q4e
theorem Q5J (x:W32) (n:Nat) (h:0<n) (h':n<32) (w:World) :
 Calls Tryz.prog 242 #[vw x,.int .i64 (n:Int)] w fun e w'=>e=.returned (vw (x.rotateRight n))/\∃ k,w'=w.drewN k:=by
 unfold vw;go_enter Tryz.func242,Tryz.ntmps242
 go_wp2
 go_quiet (fail)
 go_wp2
 go_ret
 exact⟨Qae (by rw [ror_or' x n h']),_,rfl⟩
end
theorem Q5Z (x:W32) (n:Int) (h:0<n) (h':n<32) (w:World) (m:Nat) :
 Calls Tryz.prog 242 #[.int .u32 (wi x),.int .i64 n] (w.drewN m) fun e w'=>e=.returned (.int .u32 (wi (x.rotateRight n.toNat)))/\∃ k,w'=w.drewN k:=by
 obtain⟨k,rfl⟩:=Int.eq_ofNat_of_zero_le (show 0<=n by omega);exact Calls.quiet_of (Q5J x k (by omega) (by omega) _)
theorem Q5h (x:W32) (n:Int) (h:0<n) (h':n<32) (w:World) (a m:Nat) :
 Calls Tryz.prog 242 #[.int .u32 (wi x),.int .i64 n] (w.drewN (a+m)) fun e w'=>e=.returned (.int .u32 (wi (x.rotateRight n.toNat)))/\∃ k,w'=w.drewN (a+k):=by
 obtain⟨k,rfl⟩:=Int.eq_ofNat_of_zero_le (show 0<=n by omega);exact Qcm (Q5J x k (by omega) (by omega) _)
theorem refRor_w (x:W32) (n:Int) (h:0<n) (h':n<32) (w:World) :
 Calls Tryz.prog 242 #[.int .u32 (wi x),.int .i64 n] w fun e w'=>e=.returned (.int .u32 (wi (x.rotateRight n.toNat)))/\∃ k,w'=w.drewN k:=by
 obtain⟨k,rfl⟩:=Int.eq_ofNat_of_zero_le (show 0<=n by omega);exact Q5J x k (by omega) (by omega) _
theorem Qdc:h0.vals=#[.int .u32 1779033703,.int .u32 3144134277,.int .u32 1013904242,.int .u32 2773480762,.int .u32 1359893119,.int .u32 2600822924,.int .u32 528734635,.int .u32 1541459225]:=by kernel_rfl
theorem Q9q (w:World):Calls Tryz.prog 225 #[] w fun e w'=>e=.returned (.agg h0.vals)/\Below w.heap.size w w':=by
 have hall:=Q39 h0;have hsz:=Q0X h0;rw [Qdc] at hall hsz ⊢;go_enter Tryz.func225,Tryz.ntmps225
 go_wp2_with (refine Q01 rfl 274 (.tmp 0) (.tmp 1) rfl w.heap.size 0 #[.int .u32 1779033703,.int .u32 3144134277,.int .u32 1013904242,.int .u32 2773480762,.int .u32 1359893119,.int .u32 2600822924,.int .u32 528734635,.int .u32 1541459225] rfl rfl 274 _ (Blk.newAt rfl) rfl (by simp) hall ?_; intro W4 hT4 hB4; rw [Q08 _ _ (by simp)] at hB4)
 refine bodyPost_ret (Q0h rfl _ _ w.heap.size 8 274 _ _ rfl hB4 Tryz.underlying274 rfl rfl rfl) rfl ⟨rfl,hT4.below ((Below.refl _ _).alloc (Nat.le_refl _) _) (Nat.le_refl _)⟩
theorem Q9o (w:World):Calls Tryz.prog 240 #[] w fun e w'=>e=.returned (.agg kRow)/\Below w.heap.size w w':=by
 have hk:∃ k,k=kRow:=⟨_,rfl⟩;obtain⟨k,hk⟩:=hk;have hks:k.size=64:=by rw [hk]; exact Q9m
 have hko:k.all (·.oneCell')=true:=by rw [hk]; exact Qbc
 have HK:=Lib.hid hk;have HKS:=Lib.hid hks;have HKO:=Lib.hid hko;rw [<- hk];clear hk hks hko;go_enter Tryz.func240,Tryz.ntmps240
 go_wp2_with (refine Q01 rfl 273 (.tmp 0) (.tmp 1) rfl w.heap.size 0 k rfl (by rw [HK.out]; kernel_rfl) 273 _ (Blk.newAt rfl) (by rw [HKS.out]; rfl) (by rw [HKS.out]; simp) HKO.out ?_; intro W4 hT4 hB4; rw [Q08 _ _ (by rw [HKS.out]; simp)] at hB4)
 refine bodyPost_ret (Q0h rfl _ _ w.heap.size 64 273 _ _ rfl hB4 Tryz.underlying273 rfl rfl HKS.out) rfl ⟨rfl,hT4.below ((Below.refl _ _).alloc (Nat.le_refl _) _) (Nat.le_refl _)⟩
end
section
open Go.RowKit
attribute [local go_sem] Q8x Q5X Q8V Q63 Q9G w_or Q8j Q96 Q7n Q66 Q4e Q85 Q5A Q7u Q5s Q3S Q3n Q4S Q4r Q8Q Q8e QaJ Qay
theorem blk_byte (blk:List UInt8) (hbl:blk.length=64):∀ (W:World) (g:Nat),Blk W g 275 (bRow blk)->∀ j,j<64->W.cell? ⟨g,j,none⟩=some (.int .u8 (bi (blk.getD j 0))):=by
 intro W g h j hj;have:=(Q9T h).getD j (by omega);rw [Q13,Nat.zero_add] at this;exact this
theorem Q6t (blk:List UInt8) (hbl:blk.length=64) (w:World) :
 Calls Tryz.prog 241 #[.agg (bRow blk)] w fun e w'=>e=.returned (.agg (Q0r blk 64))/\Below w.heap.size w w':=by
 have hbs:=Q1j blk;rw [hbl] at hbs;have HBL:=Lib.hid hbl;have hba:=blk_byte blk hbl;have HBA:=Lib.hid hba;have HBS:=Lib.hid hbs;clear hbs hba;generalize hbr:bRow blk=br at HBS HBA ⊢;clear hbr;go_enter Tryz.func241,Tryz.ntmps241
 go_wp2_with fail
 go_loopw [4] (fun i wr=>∃ t:Nat,t<=16/\i=.int .i64 t/\Blk wr w.heap.size 275 br/\Blk wr (w.heap.size+1) 273 (Q0r blk 0)/\Blk wr (w.heap.size+1+1) 273 (Q0r blk t)/\Below w.heap.size w wr) (fun i _=>16 - (intOf i).toNat)
 case atStart =>
  refine⟨0,by omega,rfl,((Blk.new w 275 br).alloc _).alloc _,?_,?_,(((Below.refl _ _).alloc (Nat.le_refl _) _).alloc (by simp) _).alloc (by simp; omega) _⟩
  ·rw [Q2X]; exact(Blk.newAt (by simp)).alloc _
  ·rw [Q2X]; exact Blk.newAt (by simp)
 case round =>
  obtain⟨t,ht,rfl,hB0,hB1,hB2,hbel⟩:=hrel;by_cases ht1:t<16
  ·have e0:(4*(t:Int)).toNat=4*t:=by omega
   have e1:(4*(t:Int)+1).toNat=4*t+1:=by omega
   have e2:(4*(t:Int)+2).toNat=4*t+2:=by omega
   have e3:(4*(t:Int)+3).toNat=4*t+3:=by omega
   have b0:=HBA.out _ _ hB0 (4*t) (by omega);have b1:=HBA.out _ _ hB0 (4*t+1) (by omega);have b2:=HBA.out _ _ hB0 (4*t+2) (by omega);have b3:=HBA.out _ _ hB0 (4*t+3) (by omega);have c0:=(hB2.cell t).trans (Q2Y blk t (by omega));have f0:=hB2.frozen t;unfold vw at c0;generalize hx0:blk.getD (4*t) 0=x0 at b0;generalize hx1:blk.getD (4*t+1) 0=x1 at b1;generalize hx2:blk.getD (4*t+2) 0=x2 at b2;generalize hx3:blk.getD (4*t+3) 0=x3 at b3;have HX:=Lib.hid (And.intro hx0 (And.intro hx1 (And.intro hx2 hx3)));have HB0:=Lib.hid hB0;have HB1:=Lib.hid hB1;have HB2:=Lib.hid hB2;have HBE:=Lib.hid hbel;clear hx0 hx1 hx2 hx3 hB0 hB1 hB2 hbel;have k0:IntKind.i64.wrap (4*(t:Int))=4*(t:Int):=IntWalk.i64_in _ (by omega);have k1:IntKind.i64.wrap (4*(t:Int)+1)=4*(t:Int)+1:=IntWalk.i64_in _ (by omega);have k2:IntKind.i64.wrap (4*(t:Int)+2)=4*(t:Int)+2:=IntWalk.i64_in _ (by omega);have k3:IntKind.i64.wrap (4*(t:Int)+3)=4*(t:Int)+3:=IntWalk.i64_in _ (by omega);have l0:0<=4*(t:Int)/\4*(t:Int)<64:=by omega
   have l1:0<=4*(t:Int)+1/\4*(t:Int)+1<64:=by omega
   have l2:0<=4*(t:Int)+2/\4*(t:Int)+2<64:=by omega
   have l3:0<=4*(t:Int)+3/\4*(t:Int)+3<64:=by omega
   have lt:(t:Int)<64:=by omega
   obtain⟨l00,l01⟩:=l0;obtain⟨l10,l11⟩:=l1;obtain⟨l20,l21⟩:=l2;obtain⟨l30,l31⟩:=l3;go_wp2_with fail
   refine Q1q 31 (by kernel_rfl) (by kernel_rfl) ?_;simp only [List.take_succ_cons,List.take_zero,List.drop_succ_cons,List.drop_zero]
   repeat still_step
   refine wpStill_nil ?_;go_wp2_with fail
   go_roundw
   case rel =>
    obtain⟨h0,h1,h2,h3⟩:=HX.out;have hn:Q5H blk (Q0L blk t) t=b32 x0 <<< 24+b32 x1 <<< 16+b32 x2 <<< 8+b32 x3:=by rw [Q5H,if_pos ht1,h0,h1,h2,h3,be4_sum]
    have hs:=HB2.out.drew.set_ t (vw (Q5H blk (Q0L blk t) t));rw [Q2h blk t (by omega),hn] at hs;exact⟨t+1,by omega,by go_num,HB0.out.drew.far (p:=⟨w.heap.size+1+1,t,none⟩) (by simp; omega) _,HB1.out.drew.far (p:=⟨w.heap.size+1+1,t,none⟩) (by simp) _,hs,HBE.out.drew.setCell (p:=⟨w.heap.size+1+1,t,none⟩) (by simp; omega) _⟩
   case measure=>simp [intOf]; omega
  ·obtain rfl:t=16:=by omega
   clear HBA HBS;go_wp2_with fail
   go_loopw [5] (fun i wr=>∃ t:Nat,16<=t/\t<=64/\i=.int .i64 t/\Blk wr (w.heap.size+1) 273 (Q0r blk 0)/\Blk wr (w.heap.size+1+1) 273 (Q0r blk t)/\Below w.heap.size w wr) (fun i _=>64 - (intOf i).toNat)
   case atStart=>exact⟨16,by omega,by omega,rfl,hB1,hB2,hbel⟩
   case round =>
    clear hB0 hB1 hB2 hbel ht ht1;obtain⟨t,ht16,ht,rfl,hB1,hB2,hbel⟩:=hrel;by_cases ht1:t<64
    ·have e1:(((t:Int) - 15).toNat)=t - 15:=by omega
     have e2:(((t:Int) - 2).toNat)=t - 2:=by omega
     have e3:(((t:Int) - 16).toNat)=t - 16:=by omega
     have e4:(((t:Int) - 7).toNat)=t - 7:=by omega
     have c1:=(hB2.cell (t - 15)).trans (Q0R blk t (t - 15) (by omega) ht);have c2:=(hB2.cell (t - 2)).trans (Q0R blk t (t - 2) (by omega) ht);have c3:=(hB2.cell (t - 16)).trans (Q0R blk t (t - 16) (by omega) ht);have c4:=(hB2.cell (t - 7)).trans (Q0R blk t (t - 7) (by omega) ht);have c0:=(hB2.cell t).trans (Q2Y blk t ht1);have f0:=hB2.frozen t;unfold vw at c0 c1 c2 c3 c4;generalize hx1:(Q0L blk t).getD (t - 15) 0=x1 at c1;generalize hx2:(Q0L blk t).getD (t - 2) 0=x2 at c2;generalize hx3:(Q0L blk t).getD (t - 16) 0=x3 at c3;generalize hx4:(Q0L blk t).getD (t - 7) 0=x4 at c4;have HX:=Lib.hid (And.intro hx1 (And.intro hx2 (And.intro hx3 hx4)));have HB1:=Lib.hid hB1;have HB2:=Lib.hid hB2;have HBE:=Lib.hid hbel;clear hx1 hx2 hx3 hx4 hB1 hB2 hbel
     go_wp2
     go_quiet (fail)
     go_wp2_with fail
     have w16:IntKind.i64.wrap ((t:Int) - 16)=(t:Int) - 16:=IntWalk.i64_in _ (by omega);have w7:IntKind.i64.wrap ((t:Int) - 7)=(t:Int) - 7:=IntWalk.i64_in _ (by omega);have b16:(t:Int) - 16<64:=by omega
     have b77:(7:Int)<=t:=by omega
     have b17:(16:Int)<=t:=by omega
     have b7:(t:Int) - 7<64:=by omega
     refine Q3h 29 (by kernel_rfl) (by kernel_rfl) ?_;simp only [List.take_succ_cons,List.take_zero,List.drop_succ_cons,List.drop_zero]
     repeat quiet_step ((go_at_call 242; first | exact Q5h _ _ (by omega) (by omega) _ _ _ | exact Q5Z _ _ (by omega) (by omega) _ _))
     refine wpQuiet_nil ?_;intro _ hw';obtain⟨nr,hw''⟩:=hw';subst hw'';go_wp2_with fail
     go_roundw
     case rel =>
      obtain⟨h1,h2,h3,h4⟩:=HX.out;have hn:Q5H blk (Q0L blk t) t=x3+sml0 x1+x4+sml1 x2:=by rw [Q5H,if_neg (by omega),h1,h2,h3,h4]
      have hs:=(HB2.out.drewN (nq+nr)).set_ t (vw (Q5H blk (Q0L blk t) t));rw [Q2h blk t ht1,hn] at hs
      repeat apply Exists.intro
      exact⟨⟨t+1,by omega,by omega,by go_num,(HB1.out.drewN (nq+nr)).far (p:=⟨w.heap.size+1+1,t,none⟩) (by simp) _,hs,(Q0z HBE.out (nq+nr)).setCell (p:=⟨w.heap.size+1+1,t,none⟩) (by simp; omega) _⟩,rfl⟩
     case measure=>simp [intOf]; omega
    ·obtain rfl:t=64:=by omega
     have hss:(Q0r blk 64).size=64:=Q0C _ _;have hso:(Q0r blk 64).all (·.oneCell')=true:=by unfold Q0r Q5f; simp [rng,vw,Value.oneCell']
     have hs0:(Q0r blk 0).size=64:=Q0C _ _;have HSS:=Lib.hid hss;have HS0:=Lib.hid hs0;have HSO:=Lib.hid hso;have HB1:=Lib.hid hB1;have HB2:=Lib.hid hB2;have HBE:=Lib.hid hbel;clear hss hso hs0 hB1 hB2 hbel;generalize hsc:Q0r blk 64=sc at HSS HSO HB2;have HSC:=Lib.hid hsc;clear hsc;generalize Q0r blk 0=sz at HS0 HB1;go_wp2_with (first
      | (refine Q03 rfl 273 (.tmp 3) rfl (w.heap.size+1+1) 0 64 rfl 273 _ sc _ HB2.out Tryz.underlying273 rfl rfl HSS.out (fun _ _=>by rw [Nat.zero_add]) ?_)
      | (refine Q01 rfl 273 (.tmp 2) (.tmp 84) rfl (w.heap.size+1) 0 sc rfl rfl 273 _ HB1.out (by rw [HSS.out]; rfl) (by rw [HSS.out,HS0.out]; simp) HSO.out ?_; intro W5 hT5 hB5; rw [Q08 _ _ (by rw [HSS.out,HS0.out])] at hB5))
     refine bodyPost_ret (Q0h rfl _ _ (w.heap.size+1) 64 273 _ _ rfl hB5 Tryz.underlying273 rfl rfl HSS.out) rfl ⟨by rw [HSC.out],hT5.below HBE.out (by omega)⟩
end
section
open Go.RowKit
attribute [local go_sem] Q8x Q5X Q8V Q63 Q9G w_or Q8j Q96 Q7n Q66 Q4e Q85 Q5A Q7u Q5s Q3S Q3n Q4S Q4r Q8Q Q8e QaJ Qay
attribute [local go_sem] Q81 Qcd
theorem Q9B (S:St) (blk:List UInt8) (hbl:blk.length=64) (w:World) :
 Calls Tryz.prog 226 #[.agg S.vals,.agg (bRow blk)] w fun e w'=>e=.returned (.agg (Q0x S blk).vals)/\Below w.heap.size w w':=by
 have hbs:=Q1j blk;rw [hbl] at hbs;have HBS:=Lib.hid hbs;have HON:=Lib.hid (Q0K blk);have HSC:=Lib.hid (Q6t blk hbl);have hkz:=Q9m;have hko:=Qbc;have hss:(Q0r blk 64).size=64:=Q0C _ _;have hso:(Q0r blk 64).all (·.oneCell')=true:=by unfold Q0r Q5f; simp [rng,vw,Value.oneCell']
 have hka:∀ j,j<64->kRow[j]?=some (.int .u32 (wi (kc.getD j 0))):=fun j hj=>Q1z _ _ _ hj
 have hsa:∀ j,j<64->(Q0r blk 64)[j]?=some (.int .u32 (wi ((Q0L blk 64).getD j 0))):=fun j hj=>Q0R blk 64 j hj (Nat.le_refl _)
 have HKZ:=Lib.hid hkz;have HKO:=Lib.hid hko;have HSS:=Lib.hid hss;have HSO:=Lib.hid hso;have HKA:=Lib.hid hka;have HSA:=Lib.hid hsa;have HR:=Lib.hid Q9o;clear hbs hkz hko hss hso hka hsa;generalize hbr:bRow blk=br at HBS HON HSC ⊢;have HBR:=Lib.hid hbr;clear hbr;generalize Q0r blk 64=sc at HSC HSS HSO HSA;generalize kRow=kr at HKZ HKO HKA HR;go_enter Tryz.func226,Tryz.ntmps226
 go_wp2_with fail
 have hA1:=((Blk.new w 274 S.vals).alloc (.cells br 275)).alloc (.cells (rng 8 z32) 274);have hA2:Blk (((w.alloc (.cells S.vals 274)).alloc (.cells br 275)).alloc (.cells (rng 8 z32) 274)) (w.heap.size+1) 275 br:=(Blk.newAt (by simp)).alloc _;have hA3:Blk (((w.alloc (.cells S.vals 274)).alloc (.cells br 275)).alloc (.cells (rng 8 z32) 274)) (w.heap.size+1+1) 274 (rng 8 z32):=Blk.newAt (by simp);have hAb:Below w.heap.size w (((w.alloc (.cells S.vals 274)).alloc (.cells br 275)).alloc (.cells (rng 8 z32) 274)):=(((Below.refl _ _).alloc (Nat.le_refl _) _).alloc (by simp) _).alloc (by simp; omega) _;have hAs:(((w.alloc (.cells S.vals 274)).alloc (.cells br 275)).alloc (.cells (rng 8 z32) 274)).heap.size=w.heap.size+1+1+1:=by simp
 rw [zeros8r] at hA1 hA2 hA3 hAb hAs;generalize ((w.alloc _).alloc _).alloc _=W at hA1 hA2 hA3 hAb hAs ⊢;refine Q4y 5 114 (fun t=>rng 64 z32) (by kernel_rfl) (by kernel_rfl) (by simp) ?_ ?_
 ·intro i o d t hi ho ha a w;match i,hi with
  | 0,_ | 1,_ | 2,_=>simp only [List.getElem?_toArray,List.getElem?_cons_zero,List.getElem?_cons_succ] at ho; injection ho with ho; subst ho; simp [Q0J] at ha
  | 3,_ | 4,_ =>
   simp only [List.getElem?_toArray,List.getElem?_cons_zero,List.getElem?_cons_succ] at ho;injection ho with ho
   subst ho;simp only [Q0J,Option.some.injEq,Prod.mk.injEq] at ha;obtain⟨rfl,rfl⟩:=ha
   go_simp
   exact⟨rfl,rfl⟩
 simp only [List.take_succ_cons,List.take_zero,List.drop_succ_cons,List.drop_zero];refine Q0Q rfl rfl 240 #[] (fun W=>by go_simp) (.agg kr) (fun W _=>HR.out W) ?_;simp only [Act.put,List.setIfInBounds_toArray,List.set_cons_zero,List.set_cons_succ];refine Q0V rfl 275 (.tmp 3) rfl (w.heap.size+1) 0 64 rfl 275 _ br _ hA2 Tryz.underlying275 rfl rfl HBS.out (fun _ _=>by rw [Nat.zero_add]) ?_;simp only [Act.put,List.setIfInBounds_toArray,List.set_cons_zero,List.set_cons_succ];refine Q0Q rfl rfl 241 #[.agg br] (fun W=>by go_simp) (.agg sc) (fun W _=>HSC.out W) ?_;simp only [Act.put,List.setIfInBounds_toArray,List.set_cons_zero,List.set_cons_succ];refine Q64 rfl fun g5=>?_
 refine Q64 rfl fun g6=>?_
 simp only [Act.put,List.setIfInBounds_toArray,List.set_cons_zero,List.set_cons_succ];refine Q0S ?_;intro W1 hb1 hM;obtain⟨g5',e5,hg5,hB5⟩:=hM.fact 3 _ _ _ (by omega) trivial rfl rfl;obtain⟨g6',e6,hg6,hB6⟩:=hM.fact 4 _ _ _ (by omega) trivial rfl rfl;have hne:=hM.apart 3 4 _ _ _ _ _ _ g5 g6 (by omega) (by omega) trivial trivial (by omega) rfl rfl rfl rfl rfl rfl;obtain rfl:g5=g5':=by simpa [ptr0] using e5
 obtain rfl:g6=g6':=by simpa [ptr0] using e6
 unfold ptr0;have hA1':=Lib.hid (hA1.below hb1 hA1.lt);have hA3':=Lib.hid (hA3.below hb1 hA3.lt);have hE1:=Lib.hid (hAb.trans (hb1.mono hAb.size));have hsz1:=hb1.size;have hl1:w.heap.size+1+1<g5:=by omega
 have hl2:w.heap.size+1+1<g6:=by omega
 have HB5:=Lib.hid hB5;have HB6:=Lib.hid hB6;have HNE:=Lib.hid hne;clear hB5 hB6 hne hM e5 e6 hb1 hA1 hA2 hA3 hAb hg5 hg6;have HV:=Lib.hid (Q39 S);generalize hsv:S.vals=sv at HV hA1' ⊢;have HSV:=Lib.hid hsv;have hsz:sv.size=8:=by rw [<- hsv]; rfl
 have HSZ:=Lib.hid hsz;clear hsv hsz;go_wp2_with (first
  | (refine Q01 rfl 273 (.tmp 5) (.tmp 18) rfl g5 0 kr rfl rfl 273 _ HB5.out (by rw [HKZ.out]; rfl) (by rw [HKZ.out,Q0C]; omega) HKO.out ?_; intro W2 hT2 hB5; rw [Q08 _ _ (by rw [HKZ.out,Q0C])] at hB5; have hB6:=hT2.blk HB6.out (Ne.symm HNE.out); have hE2:=hT2.below hE1.out (by omega); have hA12:=hT2.blk hA1'.out (by omega); have hA32:=hT2.blk hA3'.out (by omega); clear hT2)
  | (refine Q01 rfl 273 (.tmp 6) (.tmp 20) rfl g6 0 sc rfl rfl 273 _ hB6 (by rw [HSS.out]; rfl) (by rw [HSS.out,Q0C]; omega) HSO.out ?_; intro W3 hT3 hB63; rw [Q08 _ _ (by rw [HSS.out,Q0C])] at hB63; have hB53:=hT3.blk hB5 HNE.out; have hE3:=hT3.below hE2 (by omega); have hA13:=hT3.blk hA12 (by omega); have hA33:=hT3.blk hA32 (by omega); clear hT3 hB5 hB6 hE2 hA12 hA32)
  | (refine Q03 rfl 274 (.tmp 2) rfl w.heap.size 0 8 rfl 274 _ sv _ hA13 Tryz.underlying274 rfl rfl HSZ.out (fun _ _=>by rw [Nat.zero_add]) ?_)
  | (refine Q01 rfl 274 (.tmp 7) (.tmp 21) rfl W3.heap.size 0 sv rfl rfl 274 _ (Blk.newAt rfl) (by rw [HSZ.out]; rfl) (by rw [HSZ.out]; simp) HV.out ?_; intro W4 hT4 hB74; rw [Q08 _ _ (by rw [HSZ.out]; simp)] at hB74; have hB54:=hT4.blk (hB53.alloc _) (Nat.ne_of_lt hB53.lt); have hB64:=hT4.blk (hB63.alloc _) (Nat.ne_of_lt hB63.lt); have hE4:=hT4.below (hE3.alloc hE3.size _) hE3.size; have hA14:=hT4.blk (hA13.alloc _) (Nat.ne_of_lt hA13.lt); have hA34:=hT4.blk (hA33.alloc _) (Nat.ne_of_lt hA33.lt)))
 have hg5:=hB53.lt;have hg6:=hB63.lt;have hsz3:=hE3.size;have hg0:=hA13.lt;have hg2:=hA33.lt;obtain⟨g7,hg7⟩:∃ g7,g7=W3.heap.size:=⟨_,rfl⟩;rw [<- hg7] at hB74 hg5 hg6 hg0 hg2 hT4 hsz3 ⊢;clear hg7 hT4 hB53 hB63 hA13 hA33 hE3;rw [<- HSV.out] at hB74 hA14;have H5:=Lib.hid hB54;have H6:=Lib.hid hB64;have H1:=Lib.hid hA14;have H3:=Lib.hid hA34;have HE:=Lib.hid hE4;have H7:=Lib.hid hB74;clear hB54 hB64 hA14 hA34 hE4 hB74;go_wp2_with fail
 go_loopw [8] (fun i wr=>∃ t:Nat,t<=64/\i=.int .i64 t/\Blk wr g7 274 (Q2J S (Q0L blk 64) t).vals/\Q0c g7 W4 wr) (fun i _=>64 - (intOf i).toNat)
 case atStart=>exact⟨0,by omega,rfl,H7.out,Q0c.refl _ _⟩
 case round =>
  obtain⟨t,ht,rfl,hB7,hT⟩:=hrel;generalize hst:Q2J S (Q0L blk 64) t=R at hB7;have HST:=Lib.hid hst;clear hst;obtain⟨sa,sb,sc',sd,se,sf,sg,sh⟩:=R;by_cases ht1:t<64
  ·have ck:=((hT.blk H5.out (Nat.ne_of_lt hg5)).cell t).trans (HKA.out t ht1);have cs:=((hT.blk H6.out (Nat.ne_of_lt hg6)).cell t).trans (HSA.out t ht1);have q:=(Q5x hB7).1;generalize hx1:kc.getD t 0=x1 at ck;generalize hx2:(Q0L blk 64).getD t 0=x2 at cs;have HX:=Lib.hid (And.intro hx1 hx2);have HB7:=Lib.hid hB7;have HT:=Lib.hid hT;clear hx1 hx2 hB7 hT
   go_wp2
   go_quiet (fail)
   go_wp2_with fail
   go_quiet ((go_at_call 242; first | exact Q5h _ _ (by omega) (by omega) _ _ _ | exact Q5Z _ _ (by omega) (by omega) _ _))
   go_wp2_with (first
    | (go_at_call 242; refine(refRor_w _ _ (by omega) (by omega) _).mono ?_; rintro _ _ ⟨rfl,nk,rfl⟩)
    | (refine Q01 rfl 274 (.tmp 7) (.tmp 99) rfl g7 0 (rstep ⟨sa,sb,sc',sd,se,sf,sg,sh⟩ x1 x2).vals rfl rfl 274 _ (HB7.out.drewN _) (by rw [Q0X]; rfl) (by rw [Q0X,Q0X]; omega) (Q39 _) ?_; intro W6 hT6 hB6; rw [Q08 _ _ (by rw [Q0X,Q0X])] at hB6))
   go_roundw
   case rel =>
    obtain⟨h1,h2⟩:=HX.out;have hst:rstep ⟨sa,sb,sc',sd,se,sf,sg,sh⟩ x1 x2=Q2J S (Q0L blk 64) (t+1):=by rw [Q2J,HST.out,h1,h2]
    rw [hst] at hB6;exact⟨t+1,by omega,by go_num,hB6,(HT.out.drewN _).trans hT6⟩
   case measure=>simp [intOf]; omega
  ·obtain rfl:t=64:=by omega
   have hB1:=hT.blk H1.out (Nat.ne_of_lt hg0);have hB3:=hT.blk H3.out (Nat.ne_of_lt hg2);have hE:=hT.below HE.out (by omega);have HT0:=Lib.hid hT;have H1':=Lib.hid hB1;have H3':=Lib.hid hB3;have HE':=Lib.hid hE;have HB7:=Lib.hid hB7;clear hB1 hB3 hE hB7 hT;go_wp2_with fail
   go_loopw [17] (fun i wr=>∃ k:Nat,k<=8/\i=.int .i64 k/\Blk wr g7 274 (Q2H ⟨sa,sb,sc',sd,se,sf,sg,sh⟩ S k)/\Q0c g7 W4 wr) (fun i _=>8 - (intOf i).toNat)
   case atStart=>exact⟨0,by omega,rfl,by rw [Q5j]; exact HB7.out,HT0.out⟩
   case round =>
    obtain⟨k,hk,rfl,hB7,hT⟩:=hrel;by_cases hk1:k<8
    ·obtain⟨u,v,hu,hv,hc,hi⟩:=Q6x ⟨sa,sb,sc',sd,se,sf,sg,sh⟩ S k hk1;have hcell:=(hB7.cell k).trans hc;have hcell2:=((hT.blk H1.out (Nat.ne_of_lt hg0)).cell k).trans hi;have hfz:=hB7.frozen k;unfold vw at hcell hcell2;have HH:=Lib.hid (And.intro hu (And.intro hv (And.intro hc hi)));have HB:=Lib.hid hB7;have HT:=Lib.hid hT;clear hu hv hc hi hB7 hT;have lk:(k:Int)<8:=by omega
     go_wp2_with fail
     refine Q1q 9 (by kernel_rfl) (by kernel_rfl) ?_;simp only [List.take_succ_cons,List.take_zero,List.drop_succ_cons,List.drop_zero]
     repeat still_step
     refine wpStill_nil ?_;go_wp2_with fail
     go_roundw
     case rel =>
      obtain⟨h1,h2,_,_⟩:=HH.out;have hs:=HB.out.drew.set_ k (vw (u+v));have he:=Q5q ⟨sa,sb,sc',sd,se,sf,sg,sh⟩ S k;rw [<- h1,<- h2] at he;rw [he] at hs
      repeat apply Exists.intro
      exact⟨⟨k+1,by omega,by go_num,hs,(HT.out.drewN 1).trans (Q0c.setCell _ ⟨g7,k,none⟩ _)⟩,rfl⟩
     case measure=>simp [intOf]; omega
    ·obtain rfl:k=8:=by omega
     have hcomm:(St.add ⟨sa,sb,sc',sd,se,sf,sg,sh⟩ S)=Q0x S blk:=by
      rw [Q0x,HST.out];simp only [St.add,BitVec.add_comm]
     rw [Q7q,hcomm] at hB7;have hB3:=hT.blk H3.out (Nat.ne_of_lt hg2);have hE:=hT.below HE.out (by omega);have HVA:=Lib.hid (Q39 (Q0x S blk));have HZ:=Lib.hid (Q0X (Q0x S blk));have HB7:=Lib.hid hB7;have HB3:=Lib.hid hB3;have HE:=Lib.hid hE;clear hB7 hB3 hE hT hcomm;generalize hcv:(Q0x S blk).vals=cv at HVA HB7 HZ;have HCV:=Lib.hid hcv;clear hcv;go_wp2_with (first
      | (refine Q03 rfl 274 (.tmp 7) rfl g7 0 8 rfl 274 _ cv _ HB7.out Tryz.underlying274 rfl rfl HZ.out (fun _ _=>by rw [Nat.zero_add]) ?_)
      | (refine Q01 rfl 274 (.tmp 4) (.tmp 113) rfl (w.heap.size+1+1) 0 cv rfl rfl 274 _ HB3.out (by rw [HZ.out]; rfl) (by rw [HZ.out]; simp) HVA.out ?_; intro W6 hT6 hB6; rw [Q08 _ _ (by rw [HZ.out]; simp)] at hB6))
     refine bodyPost_ret (Q0h rfl _ _ (w.heap.size+1+1) 8 274 _ _ rfl hB6 Tryz.underlying274 rfl rfl HZ.out) rfl ⟨by rw [HCV.out],hT6.below HE.out (by omega)⟩
end
section
open Go.RowKit
theorem pad_more (n k:Nat) (h:k<padN n):(((n+1+k:Nat):Int) % 64 != 56)=true:=by
 unfold padN at h;rw [bne_iff_ne]; omega
theorem pad_end (n:Nat):(((n+1+padN n:Nat):Int) % 64 != 56)=false:=by
 unfold padN;rw [bne_eq_false_iff_eq]; omega
theorem QcY (n:Nat):padN n<64:=by unfold padN; omega
theorem be8_at (n j:Nat) (h:j<8):(be8 n).take (j+1)=(be8 n).take j++[UInt8.ofNat (8*n / 2 ^ (8*(7 - j)))]:=by
 rw [List.take_succ_eq_append_getElem (by rw [Q2D]; exact h)];congr 2
 simp [be8]
theorem Q8O (A:Option Addr) (n c:Nat) (xs:List UInt8) (w:World) (B:Nat) (h:Q0d w B 1 A n (xs.map vb)) (hB:B<=w.heap.size) (hn:n<=140737488355200) :
 Calls Tryz.prog 224 #[.slice A n c] w fun e w'=>∃ v,e=.returned v/\OwnB w' w.heap.size v (Q4h xs)/\Below w.heap.size w w':=by
 have hxn:xs.length=n:=by have:=h.1; simpa using this
 have HXN:=Lib.hid hxn;have hp1:=QcY n;clear hxn;go_enter Tryz.func224,Tryz.ntmps224
 obtain⟨i0,hi0,hz0,hz1,hz2⟩:=info_parts Q1O;have HI0:=Lib.hid hi0;have HZ0:=Lib.hid hz0;have HZ1:=Lib.hid hz1;have HZ2:=Lib.hid hz2;clear hi0 hz0 hz1 hz2;go_wp2_with fail
 refine(Q3W A n c xs w B h hB (by omega)).mono ?_;rintro _ w1 ⟨v1,rfl,hO1,hb1⟩;have hs1:=hb1.size;have HO1:=Lib.hid hO1;have HB1:=Lib.hid hb1;clear hO1 hb1;go_wp2_with (at_builtin; go_must (refine Q06 _ rfl (.tmp 7) (.tmp 8) 22 rfl w.heap.size 5 i0 _ 1 1 Tryz.underlying22 HI0.out HZ0.out HZ1.out HZ2.out rfl (by omega) v1 xs.length (xs.map vb) rfl (HO1.out.below ((Below.refl _ _).alloc (Nat.le_refl _) _)) (w1.heap.size+1) (some ⟨w1.heap.size,0,none⟩) 1 1 [.int .u8 128] rfl ⟨rfl,fun _=>⟨_,rfl,by simp,fun j u hu=>?d1⟩⟩ ?c1 ?c2 ?c3 ?c4 ?_))
 case d1 =>
  rw [Q13,Nat.zero_add]
  simp
  simpa using hu
 case c1=>intro u hu; simp at hu; subst hu; rfl
 case c2=>rw [HXN.out]; unfold maxLen; omega
 case c3=>rw [HXN.out]; omega
 case c4=>simp; omega
 intro v2 w2 hown2 hg2 hor2;have hO2:OwnB w2 w.heap.size v2 (xs++[128]):=by
  unfold OwnB;rw [List.map_append,List.length_append];exact hown2
 have hb2:Below w.heap.size w w2:=Q0k (HB1.out.alloc hs1 _) (by simp; omega) hg2 (fun b hb=>HO1.out.ge hb);have HO2:=Lib.hid hO2;have HB2:=Lib.hid hb2;clear hown2 hg2 hor2 hO2 hb2
 go_wp2
 go_loopg [3] (padN n) (fun g v wr=>∃ k,k+g=padN n/\OwnB wr w.heap.size v (xs++[128]++List.replicate k 0)/\Below w.heap.size w wr)
 case atStart=>exact⟨0,by omega,by simpa using HO2.out,HB2.out⟩
 case round =>
  obtain⟨k,hk,hO,hbel⟩:=hrel;have hlen:(xs++[128]++List.replicate k 0).length=n+1+k:=by have:=HXN.out; simp; omega
  have hO':=hO;obtain⟨A1,c1,rfl,hc1,hc2,_,_⟩:=Q0p hO;rw [hlen] at hc1 ⊢;unfold maxLen at hc2;have HO:=Lib.hid hO';have HK:=Lib.hid hk;have HBE:=Lib.hid hbel;have HLE:=Lib.hid hlen;have hsz:=hbel.size;clear hO hO' hlen hbel;by_cases hlt:k<padN n
  ·have ht:=pad_more n k hlt;have hkg:0<gk:=by omega
   clear hk;go_wp2_with (at_builtin; go_must (refine Q06 _ rfl (.tmp 14) (.tmp 15) 22 rfl w.heap.size 5 i0 _ 1 1 Tryz.underlying22 HI0.out HZ0.out HZ1.out HZ2.out rfl (by omega) _ (n+1+k) ((xs++[128]++List.replicate k 0).map vb) rfl (by have:=HO.out.below ((Below.refl _ _).alloc (Nat.le_refl _) (.cells #[.int .u8 0] 5)); unfold OwnB at this; rw [HLE.out] at this; exact this) (wr.heap.size+1) (some ⟨wr.heap.size,0,none⟩) 1 1 [.int .u8 0] rfl ⟨rfl,fun _=>⟨_,rfl,by simp,fun j u hu=>?d1⟩⟩ ?c1 ?c2 ?c3 ?c4 ?_))
   case d1 =>
    rw [Q13,Nat.zero_add]
    simp
    simpa using hu
   case c1=>intro u hu; simp at hu; subst hu; rfl
   case c2=>unfold maxLen; omega
   case c3=>omega
   case c4=>simp; omega
   intro v3 w3 hown3 hg3 hor3
   go_wp2
   go_roundg (gk - 1)
   case measure=>omega
   case rel =>
    have hk:=HK.out;refine⟨k+1,by omega,?_,Q0k (HBE.out.alloc hsz _) (by simp; omega) hg3 (fun b hb=>HO.out.ge (by rw [HLE.out]; exact hb))⟩;have e1:(xs++[128]++List.replicate (k+1) 0).length=n+1+k+1:=by have:=HXN.out; simp; omega
    have e2:(xs++[128]++List.replicate (k+1) 0).map vb=List.map vb xs++vb 128 :: (List.replicate k (vb 0)++[Value.int IntKind.u8 0]):=by
     rw [List.replicate_succ']; simp; rfl
    unfold OwnB;rw [e1,e2];exact hown3
  ·obtain rfl:k=padN n:=by omega
   have ht:=pad_end n;generalize hP:xs++[128]++List.replicate (padN n) 0=P at HO HLE;have HP:=Lib.hid hP;clear hP;obtain⟨m,hm⟩:∃ m,m=n+1+padN n:=⟨_,rfl⟩;rw [<- hm] at HLE hc1 ht ⊢;have HM:=Lib.hid hm;have hm2:m<=n+64:=by omega
   clear hm hk HK
   go_wp2
   go_loopg [3,5] 8 (fun g v i wr=>∃ j:Nat,j+g=8/\i=.int .i64 (7 - (j:Int))/\OwnB wr w.heap.size v (P++(be8 n).take j)/\Below w.heap.size w wr)
   case atStart=>exact⟨0,by omega,rfl,by rw [List.take_zero,List.append_nil]; have:=HO.out; rw [HLE.out] at this; exact this,HBE.out⟩
   case round =>
    obtain⟨j,hj,rfl,hO,hbel⟩:=hrel;have hlen:(P++(be8 n).take j).length=m+j:=by have:=HLE.out; have:=Q2D n; simp; omega
    have hO':=hO;obtain⟨A1,c1,rfl,hc1,hc2,_,_⟩:=Q0p hO;rw [hlen] at hc1 ⊢;unfold maxLen at hc2;have HO:=Lib.hid hO';have HJ:=Lib.hid hj;have HBE:=Lib.hid hbel;have HLJ:=Lib.hid hlen;have hsz:=hbel.size;clear hO hO' hlen hbel;by_cases hlt:j<8
    ·have e1:((8:Int)*(7 - (j:Int))).toNat=8*(7 - j):=by omega
     have hv:=Qdf n (7 - j) (by omega);have hw:IntKind.u64.wrap (8*(n:Int))=8*(n:Int):=by rw [IntKind.wrap_u64]; omega
     rw [hw] at hv;clear hw;generalize hx:UInt8.ofNat (8*n / 2 ^ (8*(7 - j)))=x at hv;have HX:=Lib.hid hx;clear hx hj;have hjj:(j:Int)<=7:=by omega
     go_wp2_with (at_builtin; go_must (refine Q06 _ rfl (.tmp 25) (.tmp 31) 22 rfl w.heap.size 5 i0 _ 1 1 Tryz.underlying22 HI0.out HZ0.out HZ1.out HZ2.out rfl (by omega) _ (m+j) ((P++(be8 n).take j).map vb) rfl (by have:=HO.out.below ((Below.refl _ _).alloc (Nat.le_refl _) (.cells #[.int .u8 (bi x)] 5)); unfold OwnB at this; rw [HLJ.out] at this; exact this) (wr.heap.size+1) (some ⟨wr.heap.size,0,none⟩) 1 1 [.int .u8 (bi x)] rfl ⟨rfl,fun _=>⟨_,rfl,by simp,fun j u hu=>?d1⟩⟩ ?c1 ?c2 ?c3 ?c4 ?_))
     case d1 =>
      rw [Q13,Nat.zero_add]
      simp
      simpa using hu
     case c1=>intro u hu; simp at hu; subst hu; rfl
     case c2=>unfold maxLen; omega
     case c3=>omega
     case c4=>simp; omega
     intro v3 w3 hown3 hg3 hor3
     go_wp2
     go_roundg (gk - 1)
     case measure=>have:=HJ.out; omega
     case rel =>
      have hj:=HJ.out;refine⟨j+1,by omega,by go_num,?_,Q0k (HBE.out.alloc hsz _) (by simp; omega) hg3 (fun b hb=>HO.out.ge (by rw [HLJ.out]; exact hb))⟩;have e1:(P++(be8 n).take (j+1)).length=m+j+1:=by have:=HLE.out; have:=Q2D n; simp; omega
      have e2:(P++(be8 n).take (j+1)).map vb=(P++(be8 n).take j).map vb++[Value.int IntKind.u8 (bi x)]:=by
       rw [be8_at n j hlt,<- List.append_assoc,List.map_append (l₂:=[_]),HX.out]; rfl
      unfold OwnB;rw [e1,e2];simpa using hown3
    ·obtain rfl:j=8:=by omega
     go_wp2
     go_ret
     refine⟨_,rfl,?_,HBE.out⟩;have h1:=HO.out;have h2:=HLJ.out;rw [h2] at h1;rw [List.take_of_length_le (by rw [Q2D]; omega),<- HP.out] at h1;unfold Q4h;rw [HXN.out];exact h1
end
end Go.Proofs.YtcpngeiahgoacaaGreat
