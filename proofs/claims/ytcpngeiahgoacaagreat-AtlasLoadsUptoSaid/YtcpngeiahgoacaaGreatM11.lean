/- Parts of the proof, in one text. -/
import Derived.Test.YtcpngeiahgoacaaGreatM6
import Derived.Test.YtcpngeiahgoacaaGreatM9
import Derived.Test.YtcpngeiahgoacaaGreatM10
import Derived.BigRegion
import Derived.Deep.DeepCutAuto
namespace Go.Proofs.YtcpngeiahgoacaaGreat
set_option linter.unusedVariables false
set_option linter.unusedSimpArgs false
set_option maxRecDepth 100000
set_option maxHeartbeats 16000000
open _root_.Array renaming getElem?_setIfInBounds->zG
open _root_.Bool renaming and_eq_true->zJ
open _root_.Go renaming Addr->zA,World->zB,Value->zC
open _root_.Go.IntKind renaming wrap_i64->zK
open _root_.Go.Proofs.Tryz renaming underlying77->zM,underlying47->zN
open _root_.Go.RowKit renaming Below->zE
open _root_.Go.RowKit.Below renaming refl->zI
open _root_.Go.Value renaming ownBlock->zF,slice->zL
open _root_.List renaming getElem?_eq_getElem->zD
open _root_.Nat renaming le_refl->zH
section
open Go.RowKit Go.Maps
attribute [local irreducible] wpList Q0h
def okF (f0:Int) (c:Int×List Int):Bool:=okCB c.1 c.2 && decide (c.1=f0) && decide (3*f0+1<c.2.headD 0)
def Q87 (cs:List (Int×List Int)):Bool:=decide (cs.length=1) || decide (Q3q (cs.headD (0,[])).2 (cs.getD 1 (0,[])).2=0)
def Q1R (cs:List (Int×List Int)):Bool:=decide (1<=cs.length/\cs.length<=2) && (cs.all (okF (cs.headD (0,[])).1) && Q87 cs)
theorem Q2F {f:Int} {l:List Int} (h:okCB f l=true):OkC f.toNat l/\0<=f/\f<=2:=by unfold okCB at h;rw [zJ] at h;have h4:=of_decide_eq_true h.1;exact⟨⟨by omega,by omega,h.2⟩,h4.1,h4.2.1⟩
theorem Q4U {f:Nat} {l:List Int} {acc:List Srv} (hc:OkC f l):(l.any (Q0S acc f)=false) <-> (3*(f:Int)+1<l.headD 0/\∀ z,z∈l->acc.any (fun s=>Q2P s z)=false):=by
 have hp:=hc.pair;have hs:=hc.short;constructor
 ·intro h;have h':∀ z,z∈l->¬ z<=3*(f:Int)+1/\acc.any (fun s=>Q2P s z)=false:=fun z hz=>by
   have:=List.any_eq_false.1 h z hz;unfold Q0S at this;rw [Bool.or_eq_true,not_or] at this;exact⟨fun e=>this.1 (decide_eq_true e),by simpa using this.2⟩
  refine⟨?_,fun z hz=>(h' z hz).2⟩;cases l with
  | nil=>simp at hs
  | cons a t =>have:=(h' a (List.mem_cons_self ..)).1;show 3*(f:Int)+1<a;omega
 rintro ⟨h1,h2⟩;rw [List.any_eq_false];intro z hz;unfold Q0S;rw [h2 z hz,Bool.or_false];cases l with
 | nil=>cases hz
 | cons a t =>
  have h1':3*(f:Int)+1<a:=h1;have:a<=z:=by
   rcases List.mem_cons.1 hz with rfl | hz
   ·omega
   have:=(List.pairwise_cons.1 hp).1 z hz;omega
  simp only [decide_eq_true_eq];omega
theorem Q8Y {l m:List Int}:Q3q l m=0 <-> ∀ z,z∈l->¬ z∈m:=by
 unfold Q3q;rw [List.length_eq_zero_iff,List.filter_eq_nil_iff]
 simp
theorem QaF (cs:List (Int×List Int)):(Q24 cs).isSome=Q1R cs:=by
 match cs with
 | []=>rfl
 | [(f,l)] =>
  show (Q1K [] f [(f,l)]).isSome=_;by_cases h:okF f (f,l)=true
  ·have h':=h;unfold okF at h';rw [zJ,zJ] at h';have hg:=Q2F h'.1.1;have hx:3*f+1<l.headD 0:=of_decide_eq_true h'.2;rw [Q4N h'.1.1 rfl ((Q4U hg.1).2 ⟨by have:=hg.2; show 3*((f.toNat:Nat):Int)+1<l.headD 0; omega,fun z hz=>rfl⟩)];unfold Q1R;simp [Q1K,h,Q87]
  have e:Q1R [(f,l)]=false:=by
   unfold Q1R;have:okF f (f,l)=false:=by simpa using h
   simp [this]
  rw [e,Q3R]
  ·rfl
  rintro ⟨h1,h2,h3⟩;refine h ?_;have hg:=Q2F h1;have:=((Q4U hg.1).1 h3).1;unfold okF;rw [h1,decide_eq_true rfl,decide_eq_true (by show 3*f+1<l.headD 0; omega)];rfl
 | [(f,l),(f2,l2)] =>
  show (Q1K [] f [(f,l),(f2,l2)]).isSome=_;by_cases h:okF f (f,l)=true
  ·have h':=h;unfold okF at h';rw [zJ,zJ] at h';have hg:=Q2F h'.1.1;have hx:3*f+1<l.headD 0:=of_decide_eq_true h'.2;rw [Q4N h'.1.1 rfl ((Q4U hg.1).2 ⟨by have:=hg.2; show 3*((f.toNat:Nat):Int)+1<l.headD 0; omega,fun z hz=>rfl⟩)];have hus:∀ z,([]++[(⟨f.toNat,l,[]⟩:Srv)]).any (fun s=>Q2P s z)=decide (z∈l):=fun z=>by simp [Q2P]
   by_cases h2:okF f (f2,l2)=true/\Q3q l l2=0
   ·have h2':=h2.1;unfold okF at h2';rw [zJ,zJ] at h2';have hg2:=Q2F h2'.1.1;have hff:f2=f:=of_decide_eq_true h2'.1.2;have hx2:3*f+1<l2.headD 0:=of_decide_eq_true h2'.2;rw [Q4N h2'.1.1 hff ((Q4U hg2.1).2 ⟨by have:=hg2.2; show 3*((f2.toNat:Nat):Int)+1<l2.headD 0; omega,fun z hz=>by
     rw [hus];exact decide_eq_false fun e=>Q8Y.1 h2.2 z e hz⟩)]
    unfold Q1R;simp [Q1K,h,h2.1,Q87,h2.2]
   have e:Q1R [(f,l),(f2,l2)]=false:=by
    unfold Q1R;by_cases h3:okF f (f2,l2)=true
    ·have:Q3q l l2≠0:=fun e=>h2 ⟨h3,e⟩
     simp [Q87,this]
    have:okF f (f2,l2)=false:=by simpa using h3
    simp [this]
   rw [e,Q3R]
   ·rfl
   rintro ⟨h1,hff,h3⟩;refine h2 ?_;have hg2:=Q2F h1;have h4:=(Q4U hg2.1).1 h3;refine⟨?_,Q8Y.2 fun z hz e=>?_⟩
   ·unfold okF;rw [h1,decide_eq_true hff,decide_eq_true (by show 3*f+1<l2.headD 0; have:=h4.1; omega)];rfl
   have:=h4.2 z e;rw [hus] at this;exact of_decide_eq_false this hz
  have e:Q1R [(f,l),(f2,l2)]=false:=by
   unfold Q1R;have:okF f (f,l)=false:=by simpa using h
   simp [this]
  rw [e,Q3R]
  ·rfl
  rintro ⟨h1,h2,h3⟩;refine h ?_;have hg:=Q2F h1;have:=((Q4U hg.1).1 h3).1;unfold okF;rw [h1,decide_eq_true rfl,decide_eq_true (by show 3*f+1<l.headD 0; omega)];rfl
 | a :: b :: c :: t =>
  have e:Q1R (a :: b :: c :: t)=false:=by unfold Q1R;rw [decide_eq_false (by simp),Bool.false_and]
  rw [e];show Option.isSome (if (a :: b :: c :: t).length<=2 then Q1K [] a.1 (a :: b :: c :: t) else none)=false;rw [if_neg (by simp)];rfl
theorem QaC (A:Option zA) (n c:Nat) (cs:List (Int×List Int)) (w:zB) (h:Q44 w A n cs) (hn:n<=17592186044416) :
 Calls Tryz.prog 90 #[.slice A n c] w fun e w'=>e=.returned (.bool (Q1R cs))/\zE w.heap.size w w':=by
 have hlen:=h.len;obtain⟨res,hres⟩:∃ r,r=Q1R cs:=⟨_,rfl⟩;rw [<- hres];by_cases hb1:1<=n/\n<=2
 ·have HR:=sH (show res=((cs.drop 0).all (okF (cs.headD (0,[])).1) && Q87 cs) by rw [hres,List.drop_zero]; unfold Q1R; rw [decide_eq_true (by omega),Bool.true_and]);have HN0':=hb1.1;obtain⟨q,o0,_,_,_,hA,hx0⟩:=Q1W h (i:=0) (by omega);subst hA;obtain⟨f0,hf0⟩:∃ f,f=(cs.headD (0,[])).1:=⟨_,rfl⟩;have HF0:=sH hf0;rw [<- hf0] at HR;have H:=sH (fun(W:zB) (hb:zE w.heap.size w W)=>h.below hb);have HLEN:=sH hlen;have hx1:¬ ((n:Int)<1):=by omega
  have hx2:¬ ((2:Int)<(n:Int)):=by omega
  have HN0:=sH (show (0:Int)<(n:Int) by omega);have HB1:=sH hb1;clear hx0;clear h hlen hres hf0 hb1 HN0';go_enter Tryz.func90,Tryz.ntmps90
  go_wp2_with fail
  clear hx1 hx2;go_loopw [3] (fun iv wr=>∃ i:Nat,i<=n/\iv=.int .i64 i/\zE w.heap.size w wr/\(res=((cs.drop i).all (okF f0) && Q87 cs))/\(0<i->∃ c0,cs[0]?=some c0/\okCB c0.1 c0.2=true)) (fun iv _=>n - (intOf iv).toNat)
  case atStart=>exact⟨0,by omega,rfl,zI _ _,HR.out,fun h=>absurd h (by omega)⟩
  clear HR
  obtain⟨i,hi,rfl,hlow,hr,hc0⟩:=hrel;have HLO:=sH hlow;have hls:=hlow.size;have HCA:=sH (H.out wr hlow);by_cases hin:i<n
  ·have hil:i<cs.length:=by have:=HLEN.out; omega
   have h0l:0<cs.length:=by omega
   obtain⟨q',o',Ai,ci,C,hq',hC,hql,hcv,hrd,hnl⟩:=Q1W HCA.out hil;obtain⟨q2,o2,A0,c0c,C0,hq2,hC0,hql0,hcv0,hrd0,hnl0⟩:=Q1W HCA.out h0l;obtain⟨rfl,rfl⟩:q=q'/\o0=o':=by injection hq' with e; injection e with e1 e2; exact⟨e1,e2⟩
   obtain⟨rfl,rfl⟩:q=q2/\o0=o2:=by injection hq2 with e; injection e with e1 e2; exact⟨e1,e2⟩
   have hf0c:∀ (W:zB),zE wr.heap.size wr W->W.cell? ⟨q,o0,none⟩=some (.int .i64 f0):=fun W hb=>by
    have:=(hcv0 W hb).1;simp only [Nat.zero_mul,Nat.add_zero] at this;rw [this,HF0.out];have e:cs.headD (0,[])=cs[0]:=by
     cases cs with
     | nil=>simp at h0l
     | cons a t=>rfl
    rw [e]
   have hdr:cs.drop i=cs[i] :: cs.drop (i+1):=List.drop_eq_getElem_cons hil;rw [hdr,List.all_cons] at hr;have hc0':∃ c0,cs[0]?=some c0/\(okF f0 cs[i]=true->okCB c0.1 c0.2=true):=by
    by_cases hi0:i=0
    ·subst hi0;exact⟨_,zD hil,fun e=>by unfold okF at e; rw [zJ,zJ] at e; exact e.1.1⟩
    obtain⟨c0,e1,e2⟩:=hc0 (by omega);exact⟨c0,e1,fun _=>e2⟩
   have HC0:=sH hc0';obtain⟨fi,hfi⟩:∃ f,f=cs[i].1:=⟨_,rfl⟩;obtain⟨zs,hzs⟩:∃ z,z=cs[i].2:=⟨_,rfl⟩;have hok:okF f0 cs[i]=(okCB fi zs && decide (fi=f0) && decide (3*f0+1<zs.headD 0)):=by rw [hfi,hzs]; rfl
   have HOK:=sH hok;rw [hok] at hr;rw [<- hfi,<- hzs] at hC hcv;rw [<- hzs] at hrd hnl;have HCK:=sH (fun(W:zB) (hb:zE wr.heap.size wr W)=>Q3c fi Ai zs.length ci zs W wr.heap.size (hrd.below hb) hb.size hnl);rw [<- hC] at HCK;have HCS:=sH (show C.size=2 by rw [hC]; rfl);have HCV:=sH (fun(W:zB) (hb:zE wr.heap.size wr W)=>(hcv W hb).2.2);have CF:=sH (fun(W:zB) (hb:zE wr.heap.size wr W)=>(hcv W hb).1);have CZ:=sH hf0c;have CN:=sH (fun(W:zB) (hb:zE wr.heap.size wr W)=>(hcv W hb).2.1);have HIN:=sH (show (i:Int)<(n:Int) by omega);have HRD:=sH hrd;have hinI:(i:Int)<(n:Int):=by omega
   obtain⟨rest,hrest⟩:∃ r,r=((cs.drop (i+1)).all (okF f0) && Q87 cs):=⟨_,rfl⟩;have HREST:=sH hrest;rw [Bool.and_assoc,<- hrest] at hr;clear hq' hq2 hC hC0 hcv hcv0 hrd hnl hf0c hdr hc0 hc0' hok hlow hfi hzs hrd0 hnl0 h0l hrest;by_cases hck:okCB fi zs=true
   ·rw [if_pos hck] at HCK;by_cases hfe:fi=f0
    ·have HNE:=sH (show (fi != f0)=false by rw [hfe]; simp);have hg:=Q2F hck;have hsh:=hg.1.short;obtain⟨ni,hni⟩:∃ k,k=zs.length:=⟨_,rfl⟩;rw [<- hni] at CN HRD;obtain⟨ad,u,hAd,hadb,hxi,hcell⟩:=HRD.out.at_ (show 0<ni by omega);subst hAd;obtain⟨z,hz⟩:∃ z,z=zs.headD 0:=⟨_,rfl⟩;have hu:u=.int .i64 z:=by
      rw [hz];cases zs with
      | nil=>simp at hsh
      | cons a t =>
       injection hxi with hxi
       exact hxi.symm
     subst hu;have had0:ad.add 0=ad:=by cases ad; rfl
     have CH:=sH (fun(W:zB) (hb:zE wr.heap.size wr W)=>show W.cell? ad=some (.int .i64 z) from(hb.cell hadb).trans (had0▸hcell));have HNI:=sH (show (0:Int)<(ni:Int) by omega);have HW1:=sH (show IntKind.i64.wrap (3*f0)=3*f0 by rw [zK]; omega);have HW2:=sH (show IntKind.i64.wrap (3*f0+1)=3*f0+1 by rw [zK]; omega);obtain⟨b,hb⟩:∃ b,b=decide (z<=3*f0+1):=⟨_,rfl⟩;have HLE:=sH hb.symm;have HRB:=sH (show res=(!b && rest) by
      rw [hr,hck,decide_eq_true hfe,hb,<- hz];by_cases hle:z<=3*f0+1
      ·rw [decide_eq_true hle,decide_eq_false (by omega)]; rfl
      rw [decide_eq_false hle,decide_eq_true (by omega)]; rfl)
     have HOB:=sH (show okF f0 cs[i]=!b by
      rw [HOK.out,hck,decide_eq_true hfe,hb,<- hz];by_cases hle:z<=3*f0+1
      ·rw [decide_eq_true hle,decide_eq_false (by omega)]; rfl
      rw [decide_eq_false hle,decide_eq_true (by omega)]; rfl)
     clear hr hck hfe hg hsh hxi hcell had0 hz hni hb;go_upto_region 6 with fail
     refine Q0m 33 66 (fun jx W v=>match jx with | 0=>v=.slice (some ⟨q,o0,none⟩) n c | 1=>v=.int .i64 (i:Int) | 2=>v=.pointer (some ⟨q,o0+i*2,none⟩) | 3=>v=.agg C | 4=>v=.int .i64 0 | 5=>v=.bool false | 6=>v=.bool false | 7=>v=.slice (some ⟨q,o0,none⟩) n c | 8=>v=.int .i64 (i:Int) | 9=>v=.pointer (some ⟨q,o0+i*2,none⟩) | 10=>v=.pointer (some ⟨q,o0+i*2,none⟩) | 11=>v=.int .i64 fi | 12=>v=.slice (some ⟨q,o0,none⟩) n c | 13=>v=.pointer (some ⟨q,o0,none⟩) | 14=>v=.pointer (some ⟨q,o0,none⟩) | 15=>v=.int .i64 f0 | 16=>v=.bool false | 17=>v=.bool false | 18=>v=.bool false | 19=>v=.slice (some ⟨q,o0,none⟩) n c | 20=>v=.int .i64 (i:Int) | 21=>v=.pointer (some ⟨q,o0+i*2,none⟩) | 22=>v=.pointer (some ⟨q,o0+i*2+1,none⟩) | 23=>v=.slice (some ad) ni ci | 24=>v=.pointer (some ad) | 25=>v=.int .i64 z | 26=>v=.slice (some ⟨q,o0,none⟩) n c | 27=>v=.pointer (some ⟨q,o0,none⟩) | 28=>v=.pointer (some ⟨q,o0,none⟩) | 29=>v=.int .i64 f0 | 30=>v=.int .i64 (3*f0) | 31=>v=.int .i64 (3*f0+1) | 32=>v=.bool b | _=>True) [18,19,20,21,22,23,24,25,26,27,28,29,30,31,32,33,34,35,36,37,38,39,40,41,42,43,44,45,46,47,48,49,50] (by kernel_rfl) (by kernel_rfl) (by kernel_rfl) (by first | rfl | simp) (by kernel_rfl) (fun jx=>?last) ?heads ?_
     case last =>
      match jx with
      | 0 | 1 | 2 | 3 | 4 | 5 | 6 | 7 | 8 | 9 | 10 | 11 | 12 | 13 | 14 | 15 | 16 | 17 | 18 | 19 | 20 | 21 | 22 | 23 | 24 | 25 | 26 | 27 | 28 | 29 | 30 | 31 | 32 | jx+33=>exact Q15.pure _
     case heads =>
      simp only [tT];and_intros;rotate_right;trivial;all_goals intro a W hb hkp hd
      ·have e0:(_:zC)=.slice (some ⟨q,o0,none⟩) n c:=sK hkp 0;exact sV
      ·have e0:(_:zC)=.int .i64 (i:Int):=sK hkp 3;exact sV
      ·have e0:=sJ (hd 0) 18;have e1:=sJ (hd 1) 19;have hlt:=HIN.out;exact sV
      ·have e0:=sJ (hd 2) 20;have e0':a.eval (.tmp 20)=.pointer (some ⟨q,o0+i*2,none⟩):=by simpa [Act.eval] using e0
       exact Q0j rfl (.agg C) (Q18 77 (.tmp 20) rfl ⟨q,o0+i*2,none⟩ 2 e0' C _ zM rfl rfl HCS.out (HCV.out W hb)) rfl
      ·have e0:=sJ (hd 3) 21;have e1:=sJ (hd 3) 21;exact Q0u rfl 136 #[.agg C] (by go_simp) ((HCK.out W hb).mono fun e w h=>⟨_,h.1,h.2,rfl⟩)
      ·have e0:=sJ (hd 4) 22;exact sV
      ·have e0:=sJ (hd 5) 23;exact sV
      ·have eg:=sJ (hd 6) 24;have e0:(_:zC)=.slice (some ⟨q,o0,none⟩) n c:=sK hkp 0;exact sV (Q02 rfl rfl eg)
      ·have eg:=sJ (hd 6) 24;have e0:(_:zC)=.int .i64 (i:Int):=sK hkp 3;exact sV (Q02 rfl rfl eg)
      ·have eg:=sJ (hd 6) 24;have e0:=sJ (hd 7) 25;have e1:=sJ (hd 8) 26;have hlt:=HIN.out;exact sV (Q02 rfl rfl eg)
      ·have eg:=sJ (hd 6) 24;have e0:=sJ (hd 9) 27;exact sV (Q02 rfl rfl eg)
      ·have eg:=sJ (hd 6) 24;have e0:=sJ (hd 10) 28;have cc:=CF.out W hb;exact sV (Q02 rfl rfl eg)
      ·have eg:=sJ (hd 6) 24;have e0:(_:zC)=.slice (some ⟨q,o0,none⟩) n c:=sK hkp 0;exact sV (Q02 rfl rfl eg)
      ·have eg:=sJ (hd 6) 24;have e0:=sJ (hd 12) 30;have hlt:=HN0.out;exact Q0j (Q02 rfl rfl eg) (.pointer (some ⟨q,o0,none⟩)) (by go_simp; try (intro e0; omega)) rfl
      ·have eg:=sJ (hd 6) 24;have e0:=sJ (hd 13) 31;exact Q0j (Q02 rfl rfl eg) (.pointer (some ⟨q,o0,none⟩)) (by go_simp; try (intro e0; omega)) rfl
      ·have eg:=sJ (hd 6) 24;have e0:=sJ (hd 14) 32;have cc:=CZ.out W hb;exact sV (Q02 rfl rfl eg)
      ·have eg:=sJ (hd 6) 24;have e0:=sJ (hd 11) 29;have e1:=sJ (hd 15) 33;have hne:=HNE.out;exact sV (Q02 rfl rfl eg)
      ·have e0:=sJ (hd 6) 24;have e1:=sJ (hd 16) 34;exact sV
      ·have e0:=sJ (hd 17) 35;exact sV
      ·have eg:=sJ (hd 18) 36;have e0:(_:zC)=.slice (some ⟨q,o0,none⟩) n c:=sK hkp 0;exact sV (Q02 rfl rfl eg)
      ·have eg:=sJ (hd 18) 36;have e0:(_:zC)=.int .i64 (i:Int):=sK hkp 3;exact sV (Q02 rfl rfl eg)
      ·have eg:=sJ (hd 18) 36;have e0:=sJ (hd 19) 37;have e1:=sJ (hd 20) 38;have hlt:=HIN.out;exact sV (Q02 rfl rfl eg)
      ·have eg:=sJ (hd 18) 36;have e0:=sJ (hd 21) 39;exact sV (Q02 rfl rfl eg)
      ·have eg:=sJ (hd 18) 36;have e0:=sJ (hd 22) 40;have cc:=CN.out W hb;exact sV (Q02 rfl rfl eg)
      ·have eg:=sJ (hd 18) 36;have e0:=sJ (hd 23) 41;have hlt:=HNI.out;exact Q0j (Q02 rfl rfl eg) (.pointer (some ad)) (by go_simp; try (intro e0; omega)) rfl
      ·have eg:=sJ (hd 18) 36;have e0:=sJ (hd 24) 42;have cc:=CH.out W hb;exact sV (Q02 rfl rfl eg)
      ·have eg:=sJ (hd 18) 36;have e0:(_:zC)=.slice (some ⟨q,o0,none⟩) n c:=sK hkp 0;exact sV (Q02 rfl rfl eg)
      ·have eg:=sJ (hd 18) 36;have e0:=sJ (hd 26) 44;have hlt:=HN0.out;exact Q0j (Q02 rfl rfl eg) (.pointer (some ⟨q,o0,none⟩)) (by go_simp; try (intro e0; omega)) rfl
      ·have eg:=sJ (hd 18) 36;have e0:=sJ (hd 27) 45;exact Q0j (Q02 rfl rfl eg) (.pointer (some ⟨q,o0,none⟩)) (by go_simp; try (intro e0; omega)) rfl
      ·have eg:=sJ (hd 18) 36;have e0:=sJ (hd 28) 46;have cc:=CZ.out W hb;exact sV (Q02 rfl rfl eg)
      ·have eg:=sJ (hd 18) 36;have e0:=sJ (hd 29) 47;have hw:=HW1.out;exact sV (Q02 rfl rfl eg)
      ·have eg:=sJ (hd 18) 36;have e0:=sJ (hd 30) 48;have hw:=HW2.out;exact sV (Q02 rfl rfl eg)
      have eg:=sJ (hd 18) 36;have e0:=sJ (hd 25) 43;have e1:=sJ (hd 31) 49;have hle:=HLE.out;exact sV (Q02 rfl rfl eg)
     intro f W hbW hd;have f36:f 36=.bool false:=hd 18 (by omega) _ 36 rfl rfl;have f50:f 50=.bool b:=hd 32 (by omega) _ 50 rfl rfl;have HLW:=sH (HLO.out.trans (hbW.mono HLO.out.size));clear hd hbW;simp only [Q0F,tU,f36,f50];try simp only [Act.put,sA]
     cases b with
     | true =>
      have hr2:res=false:=HRB.out;subst hr2;go_wp2_with fail
      go_ret
      exact⟨rfl,HLW.out⟩
     | false =>
      have HR2:=sH (show res=rest from HRB.out);go_wp2_with fail
      go_roundw
      case rel=>exact⟨i+1,by omega,by go_num,HLW.out,HR2.out.trans HREST.out,fun _=>by obtain⟨c0,e1,e2⟩:=HC0.out; exact⟨c0,e1,e2 HOB.out⟩⟩
      case measure=>simp [intOf]; omega
    have HNE:=sH (show (fi != f0)=true by simpa using hfe);have hrf:res=false:=by rw [hr,decide_eq_false hfe]; simp
    subst hrf;clear hr hfe hck;go_upto_region 6 with fail
    refine Q0m 33 66 (fun jx W v=>match jx with | 0=>v=.slice (some ⟨q,o0,none⟩) n c | 1=>v=.int .i64 (i:Int) | 2=>v=.pointer (some ⟨q,o0+i*2,none⟩) | 3=>v=.agg C | 4=>v=.int .i64 0 | 5=>v=.bool false | 6=>v=.bool false | 7=>v=.slice (some ⟨q,o0,none⟩) n c | 8=>v=.int .i64 (i:Int) | 9=>v=.pointer (some ⟨q,o0+i*2,none⟩) | 10=>v=.pointer (some ⟨q,o0+i*2,none⟩) | 11=>v=.int .i64 fi | 12=>v=.slice (some ⟨q,o0,none⟩) n c | 13=>v=.pointer (some ⟨q,o0,none⟩) | 14=>v=.pointer (some ⟨q,o0,none⟩) | 15=>v=.int .i64 f0 | 16=>v=.bool true | 17=>v=.bool true | 18=>v=.bool true | 19=>v=undef | 20=>v=undef | 21=>v=undef | 22=>v=undef | 23=>v=undef | 24=>v=undef | 25=>v=undef | 26=>v=undef | 27=>v=undef | 28=>v=undef | 29=>v=undef | 30=>v=undef | 31=>v=undef | 32=>v=undef | _=>True) [18,19,20,21,22,23,24,25,26,27,28,29,30,31,32,33,34,35,36,37,38,39,40,41,42,43,44,45,46,47,48,49,50] (by kernel_rfl) (by kernel_rfl) (by kernel_rfl) (by first | rfl | simp) (by kernel_rfl) (fun jx=>?last) ?heads ?_
    case last =>
     match jx with
     | 0 | 1 | 2 | 3 | 4 | 5 | 6 | 7 | 8 | 9 | 10 | 11 | 12 | 13 | 14 | 15 | 16 | 17 | 18 | 19 | 20 | 21 | 22 | 23 | 24 | 25 | 26 | 27 | 28 | 29 | 30 | 31 | 32 | jx+33=>exact Q15.pure _
    case heads =>
     simp only [tT];and_intros;rotate_right;trivial;all_goals intro a W hb hkp hd
     ·have e0:(_:zC)=.slice (some ⟨q,o0,none⟩) n c:=sK hkp 0;exact sV
     ·have e0:(_:zC)=.int .i64 (i:Int):=sK hkp 3;exact sV
     ·have e0:=sJ (hd 0) 18;have e1:=sJ (hd 1) 19;have hlt:=HIN.out;exact sV
     ·have e0:=sJ (hd 2) 20;have e0':a.eval (.tmp 20)=.pointer (some ⟨q,o0+i*2,none⟩):=by simpa [Act.eval] using e0
      exact Q0j rfl (.agg C) (Q18 77 (.tmp 20) rfl ⟨q,o0+i*2,none⟩ 2 e0' C _ zM rfl rfl HCS.out (HCV.out W hb)) rfl
     ·have e0:=sJ (hd 3) 21;have e1:=sJ (hd 3) 21;exact Q0u rfl 136 #[.agg C] (by go_simp) ((HCK.out W hb).mono fun e w h=>⟨_,h.1,h.2,rfl⟩)
     ·have e0:=sJ (hd 4) 22;exact sV
     ·have e0:=sJ (hd 5) 23;exact sV
     ·have eg:=sJ (hd 6) 24;have e0:(_:zC)=.slice (some ⟨q,o0,none⟩) n c:=sK hkp 0;exact sV (Q02 rfl rfl eg)
     ·have eg:=sJ (hd 6) 24;have e0:(_:zC)=.int .i64 (i:Int):=sK hkp 3;exact sV (Q02 rfl rfl eg)
     ·have eg:=sJ (hd 6) 24;have e0:=sJ (hd 7) 25;have e1:=sJ (hd 8) 26;have hlt:=HIN.out;exact sV (Q02 rfl rfl eg)
     ·have eg:=sJ (hd 6) 24;have e0:=sJ (hd 9) 27;exact sV (Q02 rfl rfl eg)
     ·have eg:=sJ (hd 6) 24;have e0:=sJ (hd 10) 28;have cc:=CF.out W hb;exact sV (Q02 rfl rfl eg)
     ·have eg:=sJ (hd 6) 24;have e0:(_:zC)=.slice (some ⟨q,o0,none⟩) n c:=sK hkp 0;exact sV (Q02 rfl rfl eg)
     ·have eg:=sJ (hd 6) 24;have e0:=sJ (hd 12) 30;have hlt:=HN0.out;exact Q0j (Q02 rfl rfl eg) (.pointer (some ⟨q,o0,none⟩)) (by go_simp; try (intro e0; omega)) rfl
     ·have eg:=sJ (hd 6) 24;have e0:=sJ (hd 13) 31;exact Q0j (Q02 rfl rfl eg) (.pointer (some ⟨q,o0,none⟩)) (by go_simp; try (intro e0; omega)) rfl
     ·have eg:=sJ (hd 6) 24;have e0:=sJ (hd 14) 32;have cc:=CZ.out W hb;exact sV (Q02 rfl rfl eg)
     ·have eg:=sJ (hd 6) 24;have e0:=sJ (hd 11) 29;have e1:=sJ (hd 15) 33;have hne:=HNE.out;exact sV (Q02 rfl rfl eg)
     ·have e0:=sJ (hd 6) 24;have e1:=sJ (hd 16) 34;exact sV
     ·have e0:=sJ (hd 17) 35;exact sV
     iterate 14 ·have eg:=sJ (hd 18) 36;exact Q2n (Q1t rfl rfl eg rfl) rfl
    intro f W hbW hd;have f36:f 36=.bool true:=hd 18 (by omega) _ 36 rfl rfl;have HLW:=sH (HLO.out.trans (hbW.mono HLO.out.size));clear hd hbW;simp only [Q0F,tU,f36];try simp only [Act.put,sA]
    go_wp2_with fail
    go_ret
    exact⟨rfl,HLW.out⟩
   rw [if_neg hck] at HCK;have hrf:res=false:=by
    rw [hr];have e:okCB fi zs=false:=by simpa using hck
    rw [e]; rfl
   subst hrf;clear hr hck;go_upto_region 6 with fail
   refine Q0m 33 66 (fun jx W v=>match jx with | 0=>v=.slice (some ⟨q,o0,none⟩) n c | 1=>v=.int .i64 (i:Int) | 2=>v=.pointer (some ⟨q,o0+i*2,none⟩) | 3=>v=.agg C | 4=>v=.int .i64 110 | 5=>v=.bool true | 6=>v=.bool true | 7=>v=undef | 8=>v=undef | 9=>v=undef | 10=>v=undef | 11=>v=undef | 12=>v=undef | 13=>v=undef | 14=>v=undef | 15=>v=undef | 16=>v=undef | 17=>v=.bool true | 18=>v=.bool true | 19=>v=undef | 20=>v=undef | 21=>v=undef | 22=>v=undef | 23=>v=undef | 24=>v=undef | 25=>v=undef | 26=>v=undef | 27=>v=undef | 28=>v=undef | 29=>v=undef | 30=>v=undef | 31=>v=undef | 32=>v=undef | _=>True) [18,19,20,21,22,23,24,25,26,27,28,29,30,31,32,33,34,35,36,37,38,39,40,41,42,43,44,45,46,47,48,49,50] (by kernel_rfl) (by kernel_rfl) (by kernel_rfl) (by first | rfl | simp) (by kernel_rfl) (fun jx=>?last) ?heads ?_
   case last =>
    match jx with
    | 0 | 1 | 2 | 3 | 4 | 5 | 6 | 7 | 8 | 9 | 10 | 11 | 12 | 13 | 14 | 15 | 16 | 17 | 18 | 19 | 20 | 21 | 22 | 23 | 24 | 25 | 26 | 27 | 28 | 29 | 30 | 31 | 32 | jx+33=>exact Q15.pure _
   case heads =>
    simp only [tT];and_intros;rotate_right;trivial;all_goals intro a W hb hkp hd
    ·have e0:(_:zC)=.slice (some ⟨q,o0,none⟩) n c:=sK hkp 0;exact sV
    ·have e0:(_:zC)=.int .i64 (i:Int):=sK hkp 3;exact sV
    ·have e0:=sJ (hd 0) 18;have e1:=sJ (hd 1) 19;have hlt:=HIN.out;exact sV
    ·have e0:=sJ (hd 2) 20;have e0':a.eval (.tmp 20)=.pointer (some ⟨q,o0+i*2,none⟩):=by simpa [Act.eval] using e0
     exact Q0j rfl (.agg C) (Q18 77 (.tmp 20) rfl ⟨q,o0+i*2,none⟩ 2 e0' C _ zM rfl rfl HCS.out (HCV.out W hb)) rfl
    ·have e0:=sJ (hd 3) 21;have e1:=sJ (hd 3) 21;exact Q0u rfl 136 #[.agg C] (by go_simp) ((HCK.out W hb).mono fun e w h=>⟨_,h.1,h.2,rfl⟩)
    ·have e0:=sJ (hd 4) 22;exact sV
    ·have e0:=sJ (hd 5) 23;exact sV
    iterate 10 ·have eg:=sJ (hd 6) 24;exact Q2n (Q1t rfl rfl eg rfl) rfl
    ·have e0:=sJ (hd 6) 24;have e1:=sJ (hd 16) 34;exact sV
    ·have e0:=sJ (hd 17) 35;exact sV
    iterate 14 ·have eg:=sJ (hd 18) 36;exact Q2n (Q1t rfl rfl eg rfl) rfl
   intro f W hbW hd;have f36:f 36=.bool true:=hd 18 (by omega) _ 36 rfl rfl;have HLW:=sH (HLO.out.trans (hbW.mono HLO.out.size));clear hd hbW;simp only [Q0F,tU,f36];try simp only [Act.put,sA]
   go_wp2_with fail
   go_ret
   exact⟨rfl,HLW.out⟩
  obtain rfl:i=n:=by omega
  have hr2:res=Q87 cs:=by rw [hr,List.drop_of_length_le (by have:=HLEN.out; omega)]; rfl
  have hinI:¬ (i:Int)<(i:Int):=by omega
  obtain⟨c00,hc00,hok0⟩:=hc0 (by have:=HB1.out; omega);have hlen:=HLEN.out;have hb1:=HB1.out;by_cases hn1:i=1
  ·have hrt:res=true:=by rw [hr2]; unfold Q87; rw [decide_eq_true (by omega)]; rfl
   subst hrt;have HN1:=sH (show ((i:Int) == 1)=true by rw [hn1]; rfl);clear hr hr2 hn1 hc0 hc00 hok0 hlen hb1 hlow;go_upto_region 8 with fail
   refine Q0m 14 66 (fun jx W v=>match jx with | 0=>v=.slice (some ⟨q,o0,none⟩) i c | 1=>v=.int .i64 (i:Int) | 2=>v=.bool true | 3=>v=.bool true | 4=>v=undef | 5=>v=undef | 6=>v=undef | 7=>v=undef | 8=>v=undef | 9=>v=undef | 10=>v=undef | 11=>v=undef | 12=>v=undef | 13=>v=.bool true | _=>True) [52,53,54,55,56,57,58,59,60,61,62,63,64,65] (by kernel_rfl) (by kernel_rfl) (by kernel_rfl) (by first | rfl | simp) (by kernel_rfl) (fun jx=>?last) ?heads ?_
   case last =>
    match jx with
    | 0 | 1 | 2 | 3 | 4 | 5 | 6 | 7 | 8 | 9 | 10 | 11 | 12 | 13 | jx+14=>exact Q15.pure _
   case heads =>
    simp only [tT];and_intros;rotate_right;trivial;all_goals intro a W hb hkp hd
    ·have e0:(_:zC)=.slice (some ⟨q,o0,none⟩) i c:=sK hkp 0;exact sV
    ·have e0:=sJ (hd 0) 52;exact sV
    ·have e0:=sJ (hd 1) 53;have hne:=HN1.out;exact sV
    ·have e0:=sJ (hd 2) 54;exact sV
    iterate 9 ·have eg:=sJ (hd 3) 55;exact Q2n (Q1t rfl rfl eg rfl) rfl
    have e0:=sJ (hd 3) 55;have e1:=sJ (hd 12) 64;exact sV
   intro f W hbW hd;have f51:f 65=.bool true:=hd 13 (by omega) _ 65 rfl rfl;have HLW:=sH (HLO.out.trans (hbW.mono HLO.out.size));clear hd hbW;simp only [Q0F,tU,f51];try simp only [Act.put,sA]
   go_wp2_with fail
   go_ret
   exact⟨rfl,HLW.out⟩
  have hi2:i=2:=by omega
  have h0l:0<cs.length:=by omega
  have h1l:1<cs.length:=by omega
  obtain⟨q',o',A0,c0,C0,hq',hC0,hql,hcv,hrd,hnl⟩:=Q1W HCA.out h0l;obtain⟨q2,o2,A1,c1,C1,hq2,hC1,hql1,hcv1,hrd1,hnl1⟩:=Q1W HCA.out h1l;obtain⟨rfl,rfl⟩:q=q'/\o0=o':=by injection hq' with e; injection e with e1 e2; exact⟨e1,e2⟩
  obtain⟨rfl,rfl⟩:q=q2/\o0=o2:=by injection hq2 with e; injection e with e1 e2; exact⟨e1,e2⟩
  have he0:cs[0]=c00:=by rw [zD h0l] at hc00; exact Option.some.inj hc00
  have hg:=Q2F hok0;rw [he0] at hC0 hrd hnl;have hf0n:((c00.1.toNat:Nat):Int)=c00.1:=by omega
  obtain⟨n1,hn1e⟩:∃ k,k=cs[1].2.length:=⟨_,rfl⟩;rw [<- hn1e] at hC1 hcv1 hrd1 hnl1;have HVT:=sH (fun(W:zB) (hb:zE wr.heap.size wr W)=>QbF c00.1.toNat A0 c00.2.length c0 c00.2 A1 n1 c1 cs[1].2 W wr.heap.size (hrd.below hb) hb.size hg.1 (hrd1.below hb) hnl1);rw [hf0n,<- hC0] at HVT;obtain⟨vt,hv⟩:∃ v,v=Q3q c00.2 cs[1].2:=⟨_,rfl⟩;rw [<- hv] at HVT;have HCS:=sH (show C0.size=2 by rw [hC0]; rfl);have HCV:=sH (show ∀ (W:zB),zE wr.heap.size wr W->∀ (j:Nat) (v:zC),C0[j]?=some v->W.cell? ((⟨q,o0,none⟩:zA).add j)=some v from fun W hb=>by have:=(hcv W hb).2.2; simpa using this);have CN:=sH (show ∀ (W:zB),zE wr.heap.size wr W->W.cell? ⟨q,o0+3,none⟩=some (.slice A1 n1 c1) from fun W hb=>by have:=(hcv1 W hb).2.1; simpa using this);have HN1:=sH (show ((i:Int) == 1)=false by rw [hi2]; rfl);have HNN:=sH (show (1:Int)<(i:Int) by omega);obtain⟨b,hb⟩:∃ b,b=((vt:Int) == 0):=⟨_,rfl⟩;have HLE:=sH hb.symm;have hrb:res=b:=by
   rw [hr2,hb,hv];unfold Q87;have e0:(cs.headD (0,[])).2=c00.2:=by
    rw [<- he0];cases cs with
    | nil=>simp at h0l
    | cons a t=>rfl
   have e1:cs.getD 1 (0,[])=cs[1]:=by rw [List.getD_eq_getElem?_getD,zD h1l]; rfl
   rw [decide_eq_false (by omega),Bool.false_or,e0,e1];by_cases hz:Q3q c00.2 cs[1].2=0
   ·rw [decide_eq_true hz,hz]; rfl
   rw [decide_eq_false hz]; symm; simpa using hz
  subst hrb;clear hr hr2 hn1 hc0 hc00 hok0 hlen hb1 hlow hi2 h0l h1l hq' hq2 hC0 hC1 hcv hcv1 hrd hrd1 hnl hnl1 he0 hg hf0n hn1e hv hb;go_upto_region 8 with fail
  refine Q0m 14 66 (fun jx W v=>match jx with | 0=>v=.slice (some ⟨q,o0,none⟩) i c | 1=>v=.int .i64 (i:Int) | 2=>v=.bool false | 3=>v=.bool false | 4=>v=.slice (some ⟨q,o0,none⟩) i c | 5=>v=.pointer (some ⟨q,o0,none⟩) | 6=>v=.agg C0 | 7=>v=.slice (some ⟨q,o0,none⟩) i c | 8=>v=.pointer (some ⟨q,o0+2,none⟩) | 9=>v=.pointer (some ⟨q,o0+3,none⟩) | 10=>v=.slice A1 n1 c1 | 11=>v=.int .i64 (vt:Int) | 12=>v=.bool res | 13=>v=.bool res | _=>True) [52,53,54,55,56,57,58,59,60,61,62,63,64,65] (by kernel_rfl) (by kernel_rfl) (by kernel_rfl) (by first | rfl | simp) (by kernel_rfl) (fun jx=>?last) ?heads ?_
  case last =>
   match jx with
   | 0 | 1 | 2 | 3 | 4 | 5 | 6 | 7 | 8 | 9 | 10 | 11 | 12 | 13 | jx+14=>exact Q15.pure _
  case heads =>
   simp only [tT];and_intros;rotate_right;trivial;all_goals intro a W hb hkp hd
   ·have e0:(_:zC)=.slice (some ⟨q,o0,none⟩) i c:=sK hkp 0;exact sV
   ·have e0:=sJ (hd 0) 52;exact sV
   ·have e0:=sJ (hd 1) 53;have hne:=HN1.out;exact sV
   ·have e0:=sJ (hd 2) 54;exact sV
   ·have eg:=sJ (hd 3) 55;have e0:(_:zC)=.slice (some ⟨q,o0,none⟩) i c:=sK hkp 0;exact sV (Q02 rfl rfl eg)
   ·have eg:=sJ (hd 3) 55;have e0:=sJ (hd 4) 56;have hlt:=HN0.out;exact Q0j (Q02 rfl rfl eg) (.pointer (some ⟨q,o0,none⟩)) (by go_simp; try (intro e0; omega)) rfl
   ·have eg:=sJ (hd 3) 55;have eg:=sJ (hd 3) 55;have e0:=sJ (hd 5) 57;have e0':a.eval (.tmp 57)=.pointer (some ⟨q,o0,none⟩):=by simpa [Act.eval] using e0
    exact Q0j (Q02 rfl rfl eg) (.agg C0) (Q18 77 (.tmp 57) rfl ⟨q,o0,none⟩ 2 e0' C0 _ zM rfl rfl HCS.out (HCV.out W hb)) rfl
   ·have eg:=sJ (hd 3) 55;have e0:(_:zC)=.slice (some ⟨q,o0,none⟩) i c:=sK hkp 0;exact sV (Q02 rfl rfl eg)
   ·have eg:=sJ (hd 3) 55;have e0:=sJ (hd 7) 59;have hlt:=HNN.out;exact sV (Q02 rfl rfl eg)
   ·have eg:=sJ (hd 3) 55;have e0:=sJ (hd 8) 60;exact sV (Q02 rfl rfl eg)
   ·have eg:=sJ (hd 3) 55;have e0:=sJ (hd 9) 61;have cc:=CN.out W hb;exact sV (Q02 rfl rfl eg)
   ·have eg:=sJ (hd 3) 55;have e0:=sJ (hd 6) 58;have e1:=sJ (hd 10) 62;have eg:=sJ (hd 3) 55;have e1:=sJ (hd 6) 58;have e2:=sJ (hd 10) 62;exact Q0u (Q02 rfl rfl eg) 137 #[.agg C0,.slice A1 n1 c1] (by go_simp) ((HVT.out W hb).mono fun e w h=>⟨_,h.1,h.2,rfl⟩)
   ·have eg:=sJ (hd 3) 55;have e0:=sJ (hd 11) 63;have hle:=HLE.out;exact sV (Q02 rfl rfl eg)
   have e0:=sJ (hd 3) 55;have e1:=sJ (hd 12) 64;exact sV
  intro f W hbW hd;have f51:f 65=.bool res:=hd 13 (by omega) _ 65 rfl rfl;have HLW:=sH (HLO.out.trans (hbW.mono HLO.out.size));clear hd hbW;simp only [Q0F,tU,f51];try simp only [Act.put,sA]
  go_wp2_with fail
  go_ret
  exact⟨rfl,HLW.out⟩
 have hrf:res=false:=by rw [hres]; unfold Q1R; rw [decide_eq_false (by omega),Bool.false_and]
 subst hrf;clear hres;by_cases h1:n<1
 ·have h1I:(n:Int)<1:=by omega
  clear h hlen hb1;go_enter Tryz.func90,Tryz.ntmps90
  go_wp2_with fail
  go_ret
  exact⟨rfl,zI _ _⟩
 have h1I:¬ (n:Int)<1:=by omega
 have h2I:(2:Int)<(n:Int):=by omega
 clear h hlen hb1;go_enter Tryz.func90,Tryz.ntmps90
 go_wp2_with fail
 go_ret
 exact⟨rfl,zI _ _⟩
def upd {α:Type} (f:Nat->α) (c:Nat) (a:α):Nat->α:=fun i=>if i=c then a else f i
theorem Q0W {α:Type} (f:Nat->α) (c:Nat) (a:α):upd f c a c=a:=if_pos rfl
theorem Q0X {α:Type} (f:Nat->α) (c:Nat) (a:α) {i:Nat} (h:i≠c):upd f c a i=f i:=if_neg h
def mvS (S:ASl) (c:Nat) (arr:Array zC) (nA:Option zA) (nC:Nat) (mA:Option zA) (mC:Nat):ASl :={ S with arr:=arr,nA:=upd S.nA c nA,nC:=upd S.nC c nC,mA:=upd S.mA c mA,mC:=upd S.mC c mC }
def mvQ (m:AM) (c:Nat) (s:Srv) (o z:Int):AM:=⟨m.chunks.set c (Q1Z s o z),m.last⟩
theorem Q7E {m:AM} {c:Nat} {s:Srv} {o z:Int} {i:Nat} {q:Srv} (h:(mvQ m c s o z).chunks[i]?=some q) (hc:c<m.chunks.length):(i=c/\q=Q1Z s o z)\/(i≠c/\m.chunks[i]?=some q):=by
 unfold mvQ at h;simp only [List.getElem?_set] at h;by_cases e:c=i
 ·subst e;rw [if_pos rfl,if_pos hc] at h;exact .inl ⟨rfl,(Option.some.inj h).symm⟩
 rw [if_neg e] at h;exact .inr ⟨fun q=>e q.symm,h⟩
theorem Q8J (s:Srv) (o z:Int):(Q1Z s o z).now=Q1L s.now o z:=Q41 s.first s.moves o z
theorem aCs_mv (t:Option zA) (gc:Nat) (m:AM) (S:ASl) (c:Nat) (s:Srv) (o z:Int) (arr:Array zC) (nA:Option zA) (nC:Nat) (mA:Option zA) (mC:Nat):aCs t gc (mvQ m c s o z) (mvS S c arr nA nC mA mC)=aCs t gc m S:=by
 unfold aCs;congr 1
 funext j
 unfold aF;split
 ·rfl
 split
 ·show zL (some ⟨gc,0,none⟩) (m.chunks.set c _).length S.cap=_;rw [List.length_set]
 rfl
def MvC (S:ASl) (c b:Nat):Prop:=∃ a,S.mA c=some a/\a.block=b
theorem ADat.moved {w w':zB} {g gc c:Nat} {t:Option zA} {N:Nat->Prop} {m:AM} {S:ASl} {s:Srv} {o z:Int} (h:ADat w g gc t N m S) (hs:m.chunks[c]?=some s) (hN:∀ b,N b->b<w.heap.size) (hg:g≠gc)
 (ho0:Only (fun b=>b=gc\/MvC S c b) w w') {arr:Array zC} (hb:Blk w' gc 173 arr) (hsz:arr.size=S.cap*5)
 {nA:Option zA} {nC:Nat} {mA:Option zA} {mC:Nat}
 (h0:∀ i j,i<m.chunks.length->i≠c->j<5->arr[i*5+j]?=S.arr[i*5+j]?)
 (h1:∀ j,j<2->arr[c*5+j]?=S.arr[c*5+j]?) (h2:arr[c*5+2]?=some (.int .i64 (s.f:Int))) (h3:arr[c*5+3]?=some (.slice nA (Q1L s.now o z).length nC)) (h4:arr[c*5+4]?=some (.slice mA (s.moves.length+1) mC))
 (hn:OwnN w' w.heap.size (.slice nA (Q1L s.now o z).length nC) (Q1L s.now o z))
 (hm:w'.ownsRow 0 175 2 (.slice mA (s.moves.length+1) mC) (s.moves.length+1) (Q0H (s.moves++[(o,z)])))
 (hmb:∀ a,mA=some a->S.mA c=some ⟨a.block,0,none⟩\/w.heap.size<=a.block) (hok:COk (m.chunks.set c (Q1Z s o z))) :
 ADat w' g gc t N (mvQ m c s o z) (mvS S c arr nA nC mA mC):=by
 have hcl:c<m.chunks.length:=(List.getElem?_eq_some_iff.1 hs).1;have hlen:(mvQ m c s o z).chunks.length=m.chunks.length:=by unfold mvQ; simp
 have hlt:=h.lt;have ho:Only (fun b=>b=gc\/IsMv S m.chunks.length b) w w':=ho0.mono fun b _ e=>by
  rcases e with e | ⟨a,e1,e2⟩
  ·exact .inl e
  exact .inr ⟨c,a,hcl,e1,e2⟩
 have hgN:¬ (g=gc\/IsMv S m.chunks.length g):=fun e=>by
  rcases e with e | e
  ·exact hg e
  exact h.mvN g e h.gN.1
 have hmv:∀ b,IsMv (mvS S c arr nA nC mA mC) (mvQ m c s o z).chunks.length b->IsMv S m.chunks.length b\/w.heap.size<=b:=fun b hb=>by
  obtain⟨i,a,hi,ha,rfl⟩:=hb;rw [hlen] at hi;have ha':upd S.mA c mA i=some a:=ha;by_cases e:i=c
  ·subst e;rw [Q0W] at ha';rcases hmb a ha' with e2 | e2
   ·exact .inl ⟨i,_,hi,e2,rfl⟩
   exact .inr e2
  rw [Q0X _ _ _ e] at ha';exact .inl ⟨i,a,hi,ha',rfl⟩
 have hfar:∀ {A:Option zA} {C:Nat} {xs:List Int},FarN w (fun b=>N b\/IsMv S m.chunks.length b) A C xs->FarN w' (fun b=>N b\/IsMv (mvS S c arr nA nC mA mC) (mvQ m c s o z).chunks.length b) A C xs:=fun {A C xs} hf=>by
  have h1:=hf.only ho (fun b hb=>by
   rcases hb with e | e
   ·exact .inl (e▸h.gN.2)
   exact .inr e)
  refine⟨h1.rd,h1.cap,fun a h0 ha hb=>?_⟩;obtain⟨ad,e,hbl,_⟩:=hf.rd.2 h0;rw [ha] at e;injection e with e
  subst e;rcases hb with hb | hb
  ·exact hf.far a h0 ha (.inl hb)
  rcases hmv _ hb with e | e
  ·exact hf.far a h0 ha (.inr e)
  omega
 refine⟨?_,hb,⟨hsz,by rw [hlen]; exact h.cap.2.1,h.cap.2.2⟩,?_,?_,?_,?_,?_,?_,?_,h.gN,?_⟩
 ·rw [aCs_mv];exact(ho.block g hlt.1 hgN).trans h.blk
 ·intro i q hq j hj;rcases Q7E hq hcl with⟨rfl,rfl⟩ | ⟨hne,hq⟩
  ·have e:srvC (Q1Z s o z) (mvS S i arr nA nC mA mC) i=#[.int .i64 (s.f:Int),.slice (S.fA i) s.first.length (S.fC i),.int .i64 (s.f:Int),.slice nA (Q1L s.now o z).length nC,.slice mA (s.moves.length+1) mC]:=by
    unfold srvC;rw [Q8J];show #[_,_,_,zL (upd S.nA i nA i) _ (upd S.nC i nC i),zL (upd S.mA i mA i) (s.moves++[(o,z)]).length (upd S.mC i mC i)]=_;rw [Q0W,Q0W,Q0W,Q0W,List.length_append];rfl
   rw [e];have hq0:=h.srv i s hs;obtain rfl | rfl | rfl | rfl | rfl:j=0\/j=1\/j=2\/j=3\/j=4:=by omega
   ·exact(h1 0 (by omega)).trans (hq0 0 (by omega))
   ·exact(h1 1 (by omega)).trans (hq0 1 (by omega))
   ·exact h2
   ·exact h3
   exact h4
  have hil:i<m.chunks.length:=(List.getElem?_eq_some_iff.1 hq).1;have e:srvC q (mvS S c arr nA nC mA mC) i=srvC q S i:=by unfold srvC;show #[_,_,_,zL (upd S.nA c nA i) _ (upd S.nC c nC i),zL (upd S.mA c mA i) _ (upd S.mC c mC i)]=_;rw [Q0X _ _ _ hne,Q0X _ _ _ hne,Q0X _ _ _ hne,Q0X _ _ _ hne];rfl
  rw [e];exact(h0 i j hil hne hj).trans (h.srv i q hq j hj)
 ·intro i q hq;rcases Q7E hq hcl with⟨rfl,rfl⟩ | ⟨hne,hq⟩
  ·exact hfar (h.first i s hs)
  exact hfar (h.first i q hq)
 ·intro i q hq;rcases Q7E hq hcl with⟨rfl,rfl⟩ | ⟨hne,hq⟩
  ·rw [Q8J];show FarN w' _ (upd S.nA i nA i) (upd S.nC i nC i) _;rw [Q0W,Q0W];obtain⟨A',c',e,q1,q2,q3,q4⟩:=Q0i hn;injection e with e1 _ e2
   subst e1 e2;refine⟨q3,⟨q1,q2⟩,fun a h0 ha hb=>?_⟩;have hge:=q4 a ha;rcases hb with hb | hb
   ·have:=hN _ hb; omega
   obtain⟨i',a',hi',ha',hbb⟩:=hb;have ha2:upd S.mA i mA i'=some a':=ha';have hmi:∃ cs,Blk w' a'.block 175 cs:=by
    by_cases e:i'=i
    ·subst e;rw [Q0W] at ha2;rcases hm.2 with⟨e1,_⟩ | ⟨g',cap',cur',e1,_,e3,_⟩
     ·injection e1 with e1; rw [ha2] at e1; cases e1
     injection e1 with e1
     rw [ha2] at e1;injection e1 with e1
     rw [e1];exact⟨_,e3⟩
    rw [Q0X _ _ _ e] at ha2;have hi2:i'<m.chunks.length:=by rw [hlen] at hi'; exact hi'
    have:=h.mlt (b:=a'.block) ⟨i',a',hi2,ha2,rfl⟩;omega
   obtain⟨cs,hcs⟩:=hmi;exact Q9F hn hcs (by decide) a ha hbb.symm
  show FarN w' _ (upd S.nA c nA i) (upd S.nC c nC i) _;rw [Q0X _ _ _ hne,Q0X _ _ _ hne];exact hfar (h.now i q hq)
 ·intro i hi;exact hfar (h.nodes i hi)
 ·intro i q hq;rcases Q7E hq hcl with⟨rfl,rfl⟩ | ⟨hne,hq⟩
  ·show w'.ownsRow 0 _ 2 (.slice (upd S.mA i mA i) (s.moves++[(o,z)]).length (upd S.mC i mC i)) (s.moves++[(o,z)]).length (Q0H (s.moves++[(o,z)]));rw [Q0W,Q0W,List.length_append];exact hm
  show w'.ownsRow 0 _ 2 (.slice (upd S.mA c mA i) q.moves.length (upd S.mC c mC i)) q.moves.length (Q0H q.moves);rw [Q0X _ _ _ hne,Q0X _ _ _ hne];have hil:i<m.chunks.length:=(List.getElem?_eq_some_iff.1 hq).1;refine Q0d (h.mv i q hq) fun b hb=>ho0.block b (Q07 (h.mv i q hq) hb).2 fun e=>?_
  rcases(h.mv i q hq).2 with⟨e1,_⟩ | ⟨g',cap',cur',e1,_,e3,_⟩
  ·rw [e1] at hb; cases hb
  have hmi:S.mA i=some ⟨g',0,none⟩:=by injection e1
  rw [e1] at hb;have hbb:b=g':=by simpa [zF] using hb.symm
  subst hbb;rcases e with e | ⟨a,e4,e5⟩
  ·have hB:Blk w b 175 cur':=e3;exact Blk.ne_ hB h.row (by decide) e
  exact h.mvap i c ⟨b,0,none⟩ a hil hcl hne hmi e4 e5.symm
 ·intro b hb hn';rcases hmv b hb with e | e
  ·exact h.mvN b e hn'
  have:=hN b hn'; omega
 ·intro i j a b hi hj hne ha hb';rw [hlen] at hi hj;have ha2:upd S.mA c mA i=some a:=ha;have hb2:upd S.mA c mA j=some b:=hb';by_cases e1:i=c
  ·subst e1;rw [Q0W] at ha2;rw [Q0X _ _ _ (fun e=>hne e.symm)] at hb2;rcases hmb a ha2 with q | q
   ·exact h.mvap i j ⟨a.block,0,none⟩ b hi hj hne q hb2
   have:=h.mlt (b:=b.block) ⟨j,b,hj,hb2,rfl⟩;omega
  rw [Q0X _ _ _ e1] at ha2;by_cases e2:j=c
  ·subst e2;rw [Q0W] at hb2;rcases hmb b hb2 with q | q
   ·exact h.mvap i j a ⟨b.block,0,none⟩ hi hj hne ha2 q
   have:=h.mlt (b:=a.block) ⟨i,a,hi,ha2,rfl⟩;omega
  rw [Q0X _ _ _ e2] at hb2;exact h.mvap i j a b hi hj hne ha2 hb2
 have hk:=h.ok;exact⟨hok.one,hok.srv,hok.same,hok.apart,hok.high,hk.last,hk.ans⟩
def MvPost (w:zB) (g gc c:Nat) (t:Option zA) (N:Nat->Prop) (m:AM) (S:ASl) (s:Srv) (o z:Int) (e:Ending) (w':zB):Prop :=
 (Q0S m.chunks s.f z=false/\Q22 s.now o z->e=.returned (.bool true)/\∃ S',ADat w' g gc t N (mvQ m c s o z) S'/\Only (fun b=>b=gc\/MvC S c b) w w') /\
 (¬ (Q0S m.chunks s.f z=false/\Q22 s.now o z)->e=.returned (.bool false)/\zE w.heap.size w w')
theorem mv_info:(Tryz.prog.info? 175).map (fun i=>(i.zero,i.size,i.bytes))=some (some (.agg #[.int .i64 0,.int .i64 0]),2,16):=by kernel_rfl
theorem reads2 (w:zB) (o z:Int):Q08 (w.alloc (.cells #[.int .i64 o,.int .i64 z] 175)) (w.alloc (.cells #[.int .i64 o,.int .i64 z] 175)).heap.size 2 (some ⟨w.heap.size,0,none⟩) 1 [.int .i64 o,.int .i64 z]:=by have hk:Blk (w.alloc (.cells #[.int .i64 o,.int .i64 z] 175)) w.heap.size 175 #[.int .i64 o,.int .i64 z]:=Blk.newAt rfl;exact⟨rfl,fun _=>⟨⟨w.heap.size,0,none⟩,rfl,hk.lt,fun j u hu=>by rw [Q11,Nat.zero_add,hk.cell,<- Array.getElem?_toList]; exact hu⟩⟩
theorem QaL (w:zB) (g gc c:Nat) (t:Option zA) (N:Nat->Prop) (m:AM) (S:ASl) (s:Srv) (o z:Int) (h:ADat w g gc t N m S) (hs:m.chunks[c]?=some s) (hN:∀ b,N b->b<w.heap.size) (hg:g≠gc) (hl:s.moves.length<=20) :
 Calls Tryz.prog 104 #[.pointer (some ⟨g,0,none⟩),.int .i64 (c:Int),.int .i64 o,.int .i64 z] w (MvPost w g gc c t N m S s o z):=by
 have hcl:c<m.chunks.length:=(List.getElem?_eq_some_iff.1 hs).1;have h2:=h.ok.one;have hsk:=h.ok.srv s (List.mem_of_getElem? hs);have hnow:=hsk.now_ok;have hlt:=h.lt;have hcap:=h.cap;have hc1:w.cell? ⟨g,1,none⟩=some (.slice (some ⟨gc,0,none⟩) m.chunks.length S.cap):=(h.blk.cell 1).trans (Q1N _ _ _ _ 1 (by omega));have hsrv:=h.srv c s hs;have hcf:w.cell? ⟨gc,c*5+2,none⟩=some (.int .i64 (s.f:Int)):=(h.row.cell _).trans ((hsrv 2 (by omega)).trans rfl);have HU:=sH (Q9v w g gc s.f t N m S z h hnow.faults);have HMK:=sH (fun(ho:o∈s.now) (hu:Q0S m.chunks s.f z=false) (h1:1<=z) (h2:z<=28)=>h.ok.cok.moved hs ho hu h1 h2 hl);obtain⟨n,hn⟩:∃ n,n=m.chunks.length:=⟨_,rfl⟩;have hcn:c<n:=by omega
 rw [<- hn] at hc1;have hcI:(c:Int)<(n:Int):=by omega
 have HD:=sH h;have HS:=sH hs;have HNN:=sH hN;have HNOW:=sH hnow;have HSRV:=sH hsrv;have HRW:=sH (h.now c s hs).rd;have HMV:=sH (h.mv c s hs);obtain⟨u,hu⟩:∃ u,u=Q0S m.chunks s.f z:=⟨_,rfl⟩;rw [<- hu] at HU;have HUE:=sH hu;obtain⟨f,hf⟩:∃ f,f=s.f:=⟨_,rfl⟩;rw [<- hf] at hcf HU;have HF:=sH hf;have hl1:=hlt.1;have hl2:=hlt.2;have hcap1:=hcap.1;have hcap2:=hcap.2.1;obtain⟨P,hP⟩:∃ P,P=MvPost w g gc c t N m S s o z:=⟨_,rfl⟩;rw [<- hP];have HPF:=sH (show ∀ w',¬ (Q0S m.chunks s.f z=false/\Q22 s.now o z)->zE w.heap.size w w'->P (.returned (.bool false)) w' from fun w' hb hbl=>by rw [hP]; exact⟨fun h=>absurd h hb,fun _=>⟨rfl,hbl⟩⟩);have HPT:=sH (show ∀ w' S',(Q0S m.chunks s.f z=false/\Q22 s.now o z)->ADat w' g gc t N (mvQ m c s o z) S'->Only (fun b=>b=gc\/MvC S c b) w w'->P (.returned (.bool true)) w' from fun w' S' hb hd ho=>by rw [hP]; exact⟨fun _=>⟨rfl,S',hd,ho⟩,fun h=>absurd hb h⟩);clear h hs hN hsk hnow hlt hcap hsrv hu hf hn hP h2;go_enter Tryz.func104,Tryz.ntmps104
 go_wp2_with fail
 refine HU.out.mono ?_;rintro _ w2 ⟨rfl,hb2⟩;have hs2:=hb2.size;have HB2:=sH hb2;clear hb2 HU;cases u with
 | true =>
  have hbad:¬ (Q0S m.chunks s.f z=false/\Q22 s.now o z):=fun h=>by rw [<- HUE.out] at h; cases h.1
  have HBAD:=sH hbad;clear hbad;go_wp2_with fail
  exact HPF.out _ HBAD.out HB2.out
 | false =>
  obtain⟨A,hA⟩:∃ A,A=S.nA c:=⟨_,rfl⟩;obtain⟨nn,hnn⟩:∃ k,k=s.now.length:=⟨_,rfl⟩;obtain⟨cn,hcn2⟩:∃ k,k=S.nC c:=⟨_,rfl⟩;have HRW2:=sH (HRW.out.below HB2.out);rw [<- hA,<- hnn] at HRW2;have HRP:=sH (Q5m f A nn cn s.now o z w2 (HRW2.out.more hs2) (by rw [HF.out]; exact HNOW.out));obtain⟨C,hC⟩:∃ C,C=crC f A nn cn:=⟨_,rfl⟩;rw [<- hC] at HRP;have hcs:C.size=2:=by rw [hC]; rfl
  have hcd:∀ j,j<2->S.arr[c*5+2+j]?=C[j]?:=fun j hj=>by
   rw [hC,hA,hnn,hcn2];obtain rfl | rfl:j=0\/j=1:=by omega
   ·rw [HF.out]; exact HSRV.out 2 (by omega)
   exact HSRV.out 3 (by omega)
  have HCD:=sH hcd;have HROW2:=sH (HD.out.row.below' HB2.out);clear hA hnn hcn2 hC hcd;go_wp2_with (refine Q01 (o:=⟨some 30,_,_,_,_,_⟩) rfl 77 (.tmp 29) rfl gc (c*5+2) 2 rfl 173 _ C _ HROW2.out zM rfl rfl hcs HCD.out ?_)
  refine HRP.out.mono ?_;rintro _ w3 ⟨hb3,hgd,hbd⟩;have hs3:=hb3.size;by_cases hgood:Q22 s.now o z
  ·obtain⟨A3,k3,c3,rfl,ho3⟩:=hgd hgood;have hk3:k3=(Q1L s.now o z).length:=by
    obtain⟨A',c',e,_⟩:=Q0i ho3;injection e
   have hbt:=sH (show Q0S m.chunks s.f z=false/\Q22 s.now o z from⟨HUE.out.symm,hgood⟩);have hmk:=HMK.out hgood.1 HUE.out.symm hgood.2.2.1 hgood.2.2.2;have HCOK:=sH hmk;have HB3:=sH (HB2.out.trans (hb3.mono hs2));have HO3:=sH (OwnN.more ho3 hs2);obtain⟨E,hE⟩:∃ E,E=crC f A3 k3 c3:=⟨_,rfl⟩;rw [<- hE];have hes:E.size=2:=by rw [hE]; rfl
   have heo:E.all (·.oneCell')=true:=by rw [hE]; exact Q1h _ _ _ _
   have HE:=sH hE;have HK3:=sH hk3;clear hb3 hgd hbd hgood HRP ho3 hmk hE hk3;go_upto_region 7 with(refine Q00 (o:=⟨none,_,_,_,_,_⟩) rfl 77 (.tmp 10) (.tmp 34) rfl w3.heap.size 0 E rfl rfl 77 (crC 0 none 0 0) (by rw [crZ]; exact Blk.newAt rfl) (by rw [hes]; exact Q1M 0 none 0 0) (by rw [hes]; simp [crC]) heo ?_; intro w4 hT4 hD4; rw [Q0c _ _ (by rw [hes]; rfl)] at hD4)
   have hb4:zE w3.heap.size w3 w4:=hT4.below (Q04 w3 _) (zH _);obtain⟨g10,hg10⟩:∃ g,g=w3.heap.size:=⟨_,rfl⟩;rw [<- hg10] at hD4 ⊢;have HD4:=sH hD4;have HB4:=sH (HB3.out.trans (hb4.mono HB3.out.size));have HO4:=sH (HO3.out.below_ hb4);have HROW4:=sH (HD.out.row.below' HB4.out);have HMV4:=sH (Q0d HMV.out (fun b hb=>HB4.out.block b (Q07 HMV.out hb).2):w4.ownsRow 0 175 2 (.slice (S.mA c) s.moves.length (S.mC c)) s.moves.length (Q0H s.moves));clear hT4 hD4 hb4 HO3 HROW2;have hidx:c*5+2+2<=S.arr.size:=by omega
   go_upto_region 8 with(first
    | (refine Q01 (o:=⟨some 39,_,_,_,_,_⟩) rfl 77 (.tmp 10) rfl g10 0 2 rfl 77 _ E _ HD4.out zM rfl rfl hes (fun _ _=>by rw [Nat.zero_add]; try rfl) ?_)
    | (refine Q00 (o:=⟨none,_,_,_,_,_⟩) rfl 77 (.tmp 41) (.tmp 39) rfl gc (c*5+2) E rfl rfl 173 S.arr HROW4.out (by rw [hes]; exact Q1M 0 none 0 0) (by rw [hes]; exact hidx) heo ?_; intro w5 hT5 hD5))
   have hmvg:(zL (S.mA c) s.moves.length (S.mC c)).ownBlock≠some gc:=Q05 HMV4.out HROW4.out (by decide);have HMV5:=sH (Q0d HMV4.out (fun b hb=>hT5.block b (fun e=>hmvg (by rw [hb,e]))):w5.ownsRow 0 175 2 (.slice (S.mA c) s.moves.length (S.mC c)) s.moves.length (Q0H s.moves));have HO5:=sH (HO4.out.keep_ fun b hb=>hT5.block b (fun e=>Q05 HO4.out HROW4.out (by decide) (by rw [hb,e])):OwnN w5 w.heap.size (.slice A3 k3 c3) (Q1L s.now o z));have hsp:=hes;have hg4:∀ j,(spl S.arr (c*5+2) E.toList)[j]?=if c*5+2<=j/\j<c*5+2+2 then E[j - (c*5+2)]? else S.arr[j]?:=fun j=>by
    rw [Q57 (by rw [Array.length_toList,hes]; exact hidx),Array.length_toList,hes];split
    ·rw [Array.getElem?_toList]
    rfl
   have hmc:w5.cell? ⟨gc,c*5+4,none⟩=some (.slice (S.mA c) s.moves.length (S.mC c)):=by rw [hD5.cell,hg4,if_neg (by omega)];exact HSRV.out 4 (by omega)
   have hfzc:=hD5.frozen (c*5+4);have HG4:=sH hg4;have HD5:=sH hD5;have HT5:=sH hT5;obtain⟨mn,hmn⟩:∃ k,k=s.moves.length:=⟨_,rfl⟩;rw [<- hmn] at hmc HMV5 hl;have HMN:=sH hmn;obtain⟨i0,hi0,hz0,hz1,hz2⟩:=info_parts mv_info;have hb6:=Q04 w5 (.cells #[.int .i64 o,.int .i64 z] 175);have HMV6:=sH (Q0d HMV5.out (fun b hb=>hb6.block b (Q07 HMV5.out hb).2):(w5.alloc (.cells #[.int .i64 o,.int .i64 z] 175)).ownsRow 0 175 2 (.slice (S.mA c) mn (S.mC c)) mn (Q0H s.moves));have HRD6:=sH (reads2 w5 o z);clear hT5 hD5 hg4 hmn hsp hmvg HROW4 HMV4 HO4 HD4 hb6;go_wp2_with (at_builtin; go_must (refine Q03 _ rfl (.tmp 46) (.tmp 50) 171 rfl 0 175 i0 _ 2 16 Tryz.underlying171 hi0 hz0 hz1 hz2 rfl (by omega) _ _ _ rfl HMV6.out _ (some ⟨w5.heap.size,0,none⟩) 1 1 [.int .i64 o,.int .i64 z] rfl HRD6.out ?d1 ?d2 ?d3 ?d4 ?_))
   case d1=>first | (intro u hu; simp only [List.mem_cons,List.not_mem_nil,or_false] at hu; rcases hu with rfl | rfl <;> rfl) | simp [Value.oneCell']
   case d2=>unfold maxLen; omega
   case d3=>omega
   case d4=>omega
   intro v6 w6 hown6 hg6 hor6;obtain⟨A8,c8,hv6,_⟩:=Q4t hown6;subst hv6;obtain⟨arr,harr⟩:∃ arr,arr=spl S.arr (c*5+2) E.toList:=⟨_,rfl⟩;rw [<- harr] at HD5 HG4;have hD6a:=HD5.out.alloc (.cells #[.int .i64 o,.int .i64 z] 175);have hmg:(zL (S.mA c) mn (S.mC c)).ownBlock≠some gc:=Q05 HMV6.out hD6a (by decide);have hD6:=hD6a.grown hg6 (fun e=>hmg e.symm);have hO6a:OwnN (w5.alloc (.cells #[.int .i64 o,.int .i64 z] 175)) w.heap.size (.slice A3 k3 c3) (Q1L s.now o z):=HO5.out.below_ (Q04 w5 _);have hO6:OwnN w6 w.heap.size (.slice A3 k3 c3) (Q1L s.now o z):=hO6a.keep_ fun b hb=>hg6.block b (Q07 hO6a hb).2 (fun e=>by
    rcases HMV6.out.2 with⟨e1,_⟩ | ⟨g',cap',cur',e1,_,e3,_⟩
    ·rw [e1] at e; cases e
    have hB:Blk (w5.alloc (.cells #[.int .i64 o,.int .i64 z] 175)) g' 175 cur':=e3;rw [e1] at e;have e':b=g':=by simpa [zF] using e
    exact Q05 hO6a hB (by decide) (by rw [hb,e']))
   have hcm6:w6.cell? ⟨gc,c*5+4,none⟩=some (.slice (S.mA c) mn (S.mC c)):=by rw [hD6.cell,HG4.out,if_neg (by omega),HMN.out];exact HSRV.out 4 (by omega)
   have hfz6:=hD6.frozen (c*5+4);have hT7:=Q0b.setCell w6 ⟨gc,c*5+4,none⟩ (.slice A8 (mn+1) c8);have hD7:=hD6.set_ (c*5+4) (.slice A8 (mn+1) c8);have hO7:OwnN (w6.setCell ⟨gc,c*5+4,none⟩ (.slice A8 (mn+1) c8)) w.heap.size (.slice A3 k3 c3) (Q1L s.now o z):=hO6.keep_ fun b hb=>hT7.block b (fun e=>Q05 hO6 hD6 (by decide) (by have e':b=gc:=e; rw [hb,e']))
   have hM7:(w6.setCell ⟨gc,c*5+4,none⟩ (.slice A8 (mn+1) c8)).ownsRow 0 175 2 (.slice A8 (mn+1) c8) (mn+1) (Q0H (s.moves++[(o,z)])):=by
    have:Q0H (s.moves++[(o,z)])=Q0H s.moves++[.int .i64 o,.int .i64 z]:=by rw [Q5g]; rfl
    rw [this];exact Q0d hown6 (fun b hb=>hT7.block b (fun e=>Q05 hown6 hD6 (by decide) (by have e':b=gc:=e; rw [hb,e'])))
   have hasz:arr.size=S.cap*5:=by rw [harr,Q4F (by rw [Array.length_toList,hes]; exact hidx)]; exact hcap1
   have hobk:∀ b,(zL (S.mA c) mn (S.mC c)).ownBlock=some b->MvC S c b:=fun b hb=>by
    cases hma:S.mA c with
    | none=>rw [hma] at hb; cases hb
    | some a=>rw [hma] at hb; exact⟨a,hma,by simpa [zF] using hb⟩
   have hz5:(w5.alloc (.cells #[.int .i64 o,.int .i64 z] 175)).heap.size=w5.heap.size+1:=by simp
   have hs4:=HB4.out.size;have ho7:Only (fun b=>b=gc\/MvC S c b) w (w6.setCell ⟨gc,c*5+4,none⟩ (.slice A8 (mn+1) c8)):=by have h4:Only (fun b=>b=gc\/MvC S c b) w w4:=Only.of_below HB4.out;have h5:Only (fun b=>b=gc\/MvC S c b) w4 w5:=Only.of_turned HT5.out (.inl rfl);have h6:Only (fun b=>b=gc\/MvC S c b) w5 (w5.alloc (.cells #[.int .i64 o,.int .i64 z] 175)):=Only.of_below (Q04 w5 _);have h7:Only (fun b=>b=gc\/MvC S c b) (w5.alloc (.cells #[.int .i64 o,.int .i64 z] 175)) w6:=⟨hg6.os,hg6.tape,hg6.output,hg6.size,fun b hb hn=>hg6.block b hb (fun e=>hn (.inr (hobk b e.symm)))⟩;have h8:Only (fun b=>b=gc\/MvC S c b) w6 (w6.setCell ⟨gc,c*5+4,none⟩ (.slice A8 (mn+1) c8)):=Only.of_turned hT7 (.inl rfl);exact(((h4.trans h5).trans h6).trans h7).trans h8
   have hdat:=ADat.moved HD.out HS.out HNN.out hg ho7 (arr:=arr.setIfInBounds (c*5+4) (.slice A8 (mn+1) c8)) hD7 (by simp [hasz]) (nA:=A3) (nC:=c3) (mA:=A8) (mC:=c8)
    (fun i j hi hne hj=>by rw [zG,if_neg (by omega),HG4.out,if_neg (by omega)])
    (fun j hj=>by rw [zG,if_neg (by omega),HG4.out,if_neg (by omega)])
    (by rw [zG,if_neg (by omega),HG4.out,if_pos (by omega),HE.out,show c*5+2 - (c*5+2)=0 by omega,HF.out]; rfl)
    (by rw [zG,if_neg (by omega),HG4.out,if_pos (by omega),HE.out,show c*5+3 - (c*5+2)=1 by omega,<- HK3.out]; rfl)
    (by rw [zG,if_pos rfl,if_pos (by omega),HMN.out])
    (by rw [<- HK3.out]; exact hO7) (by rw [<- HMN.out]; exact hM7)
    (fun a ha=>by
     rcases hor6 with e | e
     ·left
      have e2:(zL (S.mA c) mn (S.mC c)).ownBlock=some a.block:=by rw [<- e,ha]; rfl
      rcases HMV6.out.2 with⟨e1,_⟩ | ⟨g',cap',cur',e1,_,e3,_⟩
      ·rw [e1] at e2; cases e2
      rw [e1] at e2;have e':a.block=g':=by simpa [zF] using e2.symm
      injection e1 with e1
      rw [e',e1]
     right
     rw [ha] at e;have e':a.block=w5.heap.size+1:=by simpa [zF] using e
     have:=HT5.out.size;omega) HCOK.out
   have HDD:=sH hdat;have HOO:=sH ho7;clear hdat ho7 hM7 hO7 hD7 hT7 hO6 hO6a hD6 hD6a hown6 hg6 hor6 hobk hasz harr HMV5 HMV6 HRD6 HO5 HD5 hmc;go_wp2_with fail
   exact HPT.out _ _ hbt.out HDD.out HOO.out
  obtain⟨er,her,rfl⟩:=hbd hgood;have HB3:=sH (HB2.out.trans (hb3.mono hs2));have hb:¬ (Q0S m.chunks s.f z=false/\Q22 s.now o z):=fun h=>hgood h.2
  have HBAD:=sH hb;have heb:((er:Int) != 0)=true:=by simp; omega
  have HOO:=sH (Blk.newAt rfl:Blk (w3.alloc (.cells (crC 0 none 0 0) 77)) w3.heap.size 77 (crC 0 none 0 0));clear hb3 hgd hbd hgood hb HRP;go_wp2_with (refine Q00 (o:=⟨none,_,_,_,_,_⟩) rfl 77 (.tmp 10) (.tmp 34) rfl w3.heap.size 0 (crC 0 none 0 0) rfl rfl 77 (crC 0 none 0 0) (Blk.newAt rfl) (Q1M _ _ _ _) (by simp [crC]) (Q1h _ _ _ _) ?_; intro w4 hT4 hD4; rw [Q3i] at hD4)
  have hb4:zE w3.heap.size w3 w4:=hT4.below (Q04 w3 _) (zH _);exact HPF.out _ HBAD.out (HB3.out.trans (hb4.mono HB3.out.size))
end
section
open Go.RowKit Go.Maps
attribute [local irreducible] wpList
def anC (err:Int) (A:Option zA) (n c:Nat) (ep:Int) (A':Option zA) (n' c':Nat):Array zC:=#[.int .i64 err,.slice A n c,.int .i64 ep,.slice A' n' c']
theorem Q4X (e1 e2 p1 p2:Int) (A:Option zA) (n c:Nat) (A':Option zA) (n' c':Nat) (D:Option zA) (m d:Nat) (D':Option zA) (m' d':Nat) (xs ys:List UInt8) (xt yt:List Int) (w:zB) (B:Nat)
 (hx:Q08 w B 1 A n (xs.map vb)) (hx':Q08 w B 1 A' n' (xt.map vn)) (hy:Q08 w B 1 D m (ys.map vb)) (hy':Q08 w B 1 D' m' (yt.map vn)) (hB:B<=w.heap.size) (hn:n<=maxLen) (hn':n'<=maxLen) (hm:m<=maxLen) (hm':m'<=maxLen) :
 Calls Tryz.prog 41 #[.agg (anC e1 A n c p1 A' n' c'),.agg (anC e2 D m d p2 D' m' d')] w fun e w'=>e=.returned (.bool (decide (e1=e2/\xs=ys/\p1=p2/\xt=yt)))/\zE w.heap.size w w':=by
 have HEB:=sH (fun W (hb:zE w.heap.size w W)=>Q2b A D n m c d xs ys W B B (hx.below (hb.mono hB)) (hy.below (hb.mono hB)) hn hm);have HEI:=sH (fun W (hb:zE w.heap.size w W)=>Q4H A' D' n' m' c' d' xt yt W B B (hx'.below (hb.mono hB)) (hy'.below (hb.mono hB)) hn' hm');clear hx hy hx' hy';unfold anC;go_enter Tryz.func41,Tryz.ntmps41
 go_upto_region 1 with fail
 have hX:zE w.heap.size w ((w.alloc (.cells #[.int .i64 e1,.slice A n c,.int .i64 p1,.slice A' n' c'] 47)).alloc (.cells #[.int .i64 e2,.slice D m d,.int .i64 p2,.slice D' m' d'] 47)):=((zI _ _).alloc (zH _) _).alloc (by simp) _;have k1:Blk ((w.alloc (.cells #[.int .i64 e1,.slice A n c,.int .i64 p1,.slice A' n' c'] 47)).alloc (.cells #[.int .i64 e2,.slice D m d,.int .i64 p2,.slice D' m' d'] 47)) w.heap.size 47 #[.int .i64 e1,.slice A n c,.int .i64 p1,.slice A' n' c']:=(Blk.newAt rfl).alloc _;have k2:Blk ((w.alloc (.cells #[.int .i64 e1,.slice A n c,.int .i64 p1,.slice A' n' c'] 47)).alloc (.cells #[.int .i64 e2,.slice D m d,.int .i64 p2,.slice D' m' d'] 47)) (w.heap.size+1) 47 #[.int .i64 e2,.slice D m d,.int .i64 p2,.slice D' m' d']:=Blk.newAt (by simp);generalize World.alloc _ _=w1 at hX k1 k2 ⊢;have c0:=k1.cell 0;have c1:=k1.cell 1;have c2:=k1.cell 2;have c3:=k1.cell 3;have d0:=k2.cell 0;have d1:=k2.cell 1;have d2:=k2.cell 2;have d3:=k2.cell 3;simp only [List.getElem?_toArray,List.getElem?_cons_zero,List.getElem?_cons_succ] at c0 c1 c2 c3 d0 d1 d2 d3;have HB:=sH hX;have HE1:=sH (HEB.out w1 hX);have HE2:=sH (fun q=>HEI.out (w1.drewN q) (Q0v HB.out q));clear k1 k2 hX HEB HEI;obtain⟨g1,hg1⟩:∃ g,g=w.heap.size:=⟨_,rfl⟩;obtain⟨g3,hg3⟩:∃ g,g=w.heap.size+1:=⟨_,rfl⟩;rw [<- hg1] at c0 c1 c2 c3;rw [<- hg3] at d0 d1 d2 d3 ⊢;rw [<- hg1];clear hg1 hg3;go_wp2_with (first
  | (go_at_call 14; refine HE1.out.mono ?_; rintro _ _ ⟨rfl,q,rfl⟩)
  | (go_at_call 75; refine(HE2.out _).mono ?_; rintro _ _ ⟨rfl,q2,rfl⟩))
 all_goals go_ret
 all_goals refine⟨Q0C ?_,by first | exact HB.out | exact Q0v HB.out _ | exact Q0v (Q0v HB.out _) _⟩
 all_goals clear HB HE1 HE2 c0 c1 c2 c3 d0 d1 d2 d3
 all_goals rw [Bool.eq_iff_iff]
 all_goals simp_all
end
section
open Go.RowKit Go.Maps
attribute [local irreducible] wpList Q0h
theorem Q2k (err:Int) (A:Option zA) (n c:Nat) (ep:Int) (A':Option zA) (n' c':Nat):(Tryz.prog.info? 47).map (·.size)=some (anC err A n c ep A' n' c').size:=by kernel_rfl
theorem Q2C (err:Int) (A:Option zA) (n c:Nat) (ep:Int) (A':Option zA) (n' c':Nat):(anC err A n c ep A' n' c').all (·.oneCell')=true:=by simp [anC,Value.oneCell']
theorem Q21 (D:Array zC) (h:D.size=4) (err:Int) (A:Option zA) (n c:Nat) (ep:Int) (A':Option zA) (n' c':Nat):spl D 0 (anC err A n c ep A' n' c').toList=anC err A n c ep A' n' c':=Q0c _ _ (by rw [h]; rfl)
def AnsN (w:zB) (B:Nat) (D:Array zC) (x:Ans):Prop:=∃ A c,D=anC x.err none 0 0 x.epoch A x.nodes.length c/\OwnN w B (.slice A x.nodes.length c) x.nodes
theorem AnsN.more {w:zB} {B B':Nat} {D:Array zC} {x:Ans} (h:AnsN w B D x) (hB:B'<=B):AnsN w B' D x:=by obtain⟨A,c,h1,h2⟩:=h;exact⟨A,c,h1,OwnN.more h2 hB⟩
theorem AnsN.below {w w':zB} {B:Nat} {D:Array zC} {x:Ans} (h:AnsN w B D x) (hb:zE w.heap.size w w'):AnsN w' B D x:=by obtain⟨A,c,h1,h2⟩:=h;exact⟨A,c,h1,h2.below_ hb⟩
theorem AnsN.bare (w:zB) (B:Nat) (e p:Nat):AnsN w B (anC (e:Int) none 0 0 (p:Int) none 0 0) (errA e p):=⟨none,0,rfl,OwnN.nil_ _ _⟩
theorem aOld_any (w:zB) (g gc:Nat) (t:Option zA) (N:Nat->Prop) (m:AM) (S:ASl) (h:ADat w g gc t N m S) (x:Wish) (A:Option zA) (n c:Nat) (A':Option zA) (n' c':Nat) (hc:31<=x.client/\x.client<=34) :
 Calls Tryz.prog 92 #[.pointer (some ⟨g,0,none⟩),.agg (Q06 x A n c A' n' c')] w fun r w'=>∃ D,r=.returned (.tuple #[.agg D,.bool (oldQ m x).2])/\AnsN w' w.heap.size D (oldQ m x).1/\zE w.heap.size w w':=by
 obtain⟨j,hj⟩:∃ j,j=(x.client - 31).toNat:=⟨_,rfl⟩;have hj4:j<4:=by omega
 have hjc:x.client - 31=(j:Int):=by omega
 have hjI:(j:Int)<4:=by omega
 have lg:=h.lt.1;have hlc:=fun q hq=>Q9N t gc m S j q hj4 hq
 have hlo:=h.ok.lst j;have hf:=(h.nodes j hj4).rd;have hnb:=hlo.2.1.bound;have hX:zE w.heap.size w ((w.alloc (.cells (Q06 x A n c A' n' c') 44)).alloc (.cells (anC 0 none 0 0 0 none 0 0) 47)):=((zI _ _).alloc (zH _) _).alloc (by simp) _;have k3:Blk ((w.alloc (.cells (Q06 x A n c A' n' c') 44)).alloc (.cells (anC 0 none 0 0 0 none 0 0) 47)) w.heap.size 44 (Q06 x A n c A' n' c'):=(Blk.newAt rfl).alloc _;have k4:Blk ((w.alloc (.cells (Q06 x A n c A' n' c') 44)).alloc (.cells (anC 0 none 0 0 0 none 0 0) 47)) (w.heap.size+1) 47 (anC 0 none 0 0 0 none 0 0):=Blk.newAt (by simp);have hz1:((w.alloc (.cells (Q06 x A n c A' n' c') 44)).alloc (.cells (anC 0 none 0 0 0 none 0 0) 47)).heap.size=w.heap.size+2:=by simp
 have hO:oldQ m x=if x.stamp<((Q0B m j).1:Int) then(errA 172 0,true) else if ((Q0B m j).1:Int)<x.stamp then(okA,false) else((Q0B m j).2,true):=by unfold oldQ; rw [<- hj]
 have hsz:(Q2K S m j).size=5:=rfl;have hon:=Q8E S m j;have e0:Q2K S m j=#[.int .i64 ((Q0B m j).1:Int),.int .i64 ((Q0B m j).2.err:Int),.slice none 0 0,.int .i64 ((Q0B m j).2.epoch:Int),.slice (S.lA j) (Q0B m j).2.nodes.length (S.lC j)]:=rfl;generalize Q0B m j=y at hO hlo hf e0 hnb;obtain⟨st,an⟩:=y;simp only at hO hlo hf e0 hnb;generalize Q2K S m j=D at hlc hsz hon e0;have HB:=sH (fun(W:zB) (hb:zE w.heap.size w W)=>h.blk.below' hb);have HF:=sH (fun(W:zB) (hb:zE w.heap.size w W)=>hf.below hb);have HLC:=sH hlc;have HSZ:=sH hsz;have HON:=sH hon;have HAN:=sH hlo.2.1;have HE:=sH e0;have HO:=sH hO;have HX:=sH hX;have K3:=sH k3;have K4:=sH k4;have HZ1:=sH hz1;have hZ:anC 0 none 0 0 0 none 0 0=#[.int .i64 0,.slice none 0 0,.int .i64 0,.slice none 0 0]:=rfl;obtain⟨g3,hg3⟩:∃ b,b=w.heap.size:=⟨_,rfl⟩;obtain⟨g4,hg4⟩:∃ b,b=w.heap.size+1:=⟨_,rfl⟩;generalize oldQ m x=ov at HO ⊢;obtain⟨nn,hnn⟩:∃ k,k=an.nodes.length:=⟨_,rfl⟩;rw [<- hnn] at HE HF hnb;have HNN:=sH hnn;clear h hlc hlo hf hX k3 k4 hz1 hO hsz hon e0 hj hnn;go_enter Tryz.func92,Tryz.ntmps92
 go_upto_region 1 with fail
 rw [<- hZ];generalize World.alloc (World.alloc w _) _=w1 at HX K3 K4 HZ1 ⊢;rw [<- hg4] at K4 ⊢;rw [<- hg3] at K3 ⊢;have hz1:=HZ1.out;have hgw3:w.heap.size<=g3:=by omega
 have hgw4:w.heap.size<=g4:=by omega
 have hg34:g3≠g4:=by omega
 have hw1:w.heap.size<=w1.heap.size:=by omega
 have hl3:=K3.out.lt;have hl4:=K4.out.lt;clear hg3 hg4 HZ1 hz1 hZ;refine Q0m 9 37 (fun jx W v=>match jx with | 0=>v=.pointer (some ⟨g,0,none⟩) | 1=>v=.pointer (some ⟨g3,0,none⟩) | 2=>v=.int .i64 x.client | 3=>v=.int .i64 (j:Int) | 4=>v=.pointer (some ⟨g,0,none⟩) | 5=>v=.pointer (some ⟨g,2,none⟩) | 6=>v=.pointer (some ⟨g,2+j*5,none⟩) | 7=>v=.agg D | _=>∃ g6,v=.pointer (some ⟨g6,0,none⟩)/\w1.heap.size<=g6/\Blk W g6 102 Q0Z) [7,8,9,10,11,12,13,14,6] (by kernel_rfl) (by kernel_rfl) (by kernel_rfl) (by simp) (by kernel_rfl) (fun jx=>?last) ?heads ?_
 case last =>
  match jx with
  | 0 | 1 | 2 | 3 | 4 | 5 | 6 | 7=>exact Q15.pure _
  | jx+8=>exact fun W W' v ⟨g3,h1,h2,h3⟩ hb=>⟨g3,h1,h2,h3.below' hb⟩
 case heads =>
  simp only [tT];and_intros;rotate_right;trivial;all_goals intro a W hb hkp hd
  ·have e0:(_:zC)=.pointer (some ⟨g,0,none⟩):=sK hkp 0;exact sV
  ·have e0:(_:zC)=.pointer (some ⟨g3,0,none⟩):=sK hkp 3;exact sV
  ·have e0:=sJ (hd 1) 8;have cc:W.cell? ⟨g3,0,none⟩=some (.int .i64 x.client):=((K3.out.below' hb).cell 0).trans rfl;exact sV
  ·have e0:=sJ (hd 2) 9;exact Q0j rfl (.int .i64 (j:Int)) (by go_simp; rw [zK]; omega) rfl
  ·have e0:=sJ (hd 0) 7;exact sV
  ·have e0:=sJ (hd 4) 11;exact sV
  ·have e0:=sJ (hd 5) 12;have e1:=sJ (hd 3) 10;exact sV
  ·have e0:a.eval (.tmp 13)=.pointer (some ⟨g,2+j*5,none⟩):=(hd 6 (by kernel_rfl)) _ 13 rfl rfl;exact Q0j rfl (.agg D) (Q0p 102 (.tmp 13) rfl g (2+j*5) 5 e0 105 _ D _ (HB.out W (HX.out.trans (hb.mono hw1))) Tryz.underlying102 rfl rfl HSZ.out HLC.out) rfl
  refine Q1X rfl (.pointer (some ⟨W.heap.size,0,none⟩)) (W.alloc (.cells Q0Z 102)) (by unfold Q0Z; go_simp) ((zI _ _).alloc (zH _) _) ⟨W.heap.size,rfl,hb.size,Blk.new W _ _⟩
 intro f W hb hd;have h14:f 14=.agg D:=hd 7 (by omega) _ 14 rfl rfl;obtain⟨g6,h6,hg6,hB6⟩:∃ g6,f 6=.pointer (some ⟨g6,0,none⟩)/\w1.heap.size<=g6/\Blk W g6 102 Q0Z:=hd 8 (by omega) _ 6 rfl rfl;have HB6:=sH hB6;have HBW:=sH hb;simp only [Q0F,tU,h14,h6];clear hd hB6 hb;try simp only [Act.put,sA]
 go_upto_region 2 with(refine Q00 (o:=⟨none,_,_,_,_,_⟩) rfl 102 (.tmp 6) (.tmp 14) rfl g6 0 D rfl rfl 102 _ HB6.out (by rw [HSZ.out]; exact Q4W) (by rw [HSZ.out]; simp [Q0Z]) HON.out ?_; intro w5 hT5 hD5; rw [Q0c _ _ (by rw [HSZ.out]; rfl)] at hD5)
 have hb5:zE w1.heap.size w1 w5:=hT5.below HBW.out hg6;rw [HE.out] at hD5;have c60:w5.cell? ⟨g6,0,none⟩=some (.int .i64 (st:Int)):=(hD5.cell 0).trans rfl;have c64:w5.cell? ⟨g6,4,none⟩=some (.slice (S.lA j) nn (S.lC j)):=(hD5.cell 4).trans rfl;have HD5:=sH hD5;have K35:=sH (K3.out.below' hb5);have K45:=sH (K4.out.below' hb5);have c31:w5.cell? ⟨g3,1,none⟩=some (.int .i64 x.stamp):=(K35.out.cell 1).trans rfl;have HB5:=sH (HX.out.trans (hb5.mono hw1));have hs5:=HB5.out.size;have hs15:=hb5.size;have hgw6:w.heap.size<=g6:=by omega
 have hg46:g4≠g6:=by omega
 have hg6l:=hD5.lt;have hg4l:=K45.out.lt;have hF5:=(HF.out w5 HB5.out).more hs5;have HCL:=sH (Q36 (S.lA j) nn (S.lC j) an.nodes w5 w5.heap.size hF5 (zH _) (by omega));clear hT5 hD5 hb5 hF5 HB6 HBW HF HB K3 K4 HX;by_cases h1:x.stamp<(st:Int)
 ·have hov:ov=(errA 172 0,true):=by rw [HO.out,if_pos h1]
  subst hov;go_wp2_with (refine Q00 (o:=⟨none,_,_,_,_,_⟩) rfl 47 (.tmp 4) (.tmp 21) rfl g4 0 (anC 172 none 0 0 0 none 0 0) rfl rfl 47 _ K45.out (Q2k _ _ _ _ _ _ _ _) (by simp [anC]) (Q2C _ _ _ _ _ _ _ _) ?_; intro w7 hT7 hD7; rw [Q21 _ rfl] at hD7)
  exact bodyPost_ret (Q09 rfl _ _ g4 4 47 _ _ rfl hD7 zN rfl rfl rfl) rfl ⟨anC 172 none 0 0 0 none 0 0,rfl,AnsN.bare _ _ 172 0,hT7.below HB5.out hgw4⟩
 by_cases h2:(st:Int)<x.stamp
 ·have hov:ov=(okA,false):=by rw [HO.out,if_neg h1,if_pos h2]
  subst hov;go_wp2_with (refine Q00 (o:=⟨none,_,_,_,_,_⟩) rfl 47 (.tmp 4) (.tmp 28) rfl g4 0 (anC 0 none 0 0 0 none 0 0) rfl rfl 47 _ K45.out (Q2k _ _ _ _ _ _ _ _) (by simp [anC]) (Q2C _ _ _ _ _ _ _ _) ?_; intro w7 hT7 hD7; rw [Q21 _ rfl] at hD7)
  exact bodyPost_ret (Q09 rfl _ _ g4 4 47 _ _ rfl hD7 zN rfl rfl rfl) rfl ⟨anC 0 none 0 0 0 none 0 0,rfl,AnsN.bare _ _ 0 0,hT7.below HB5.out hgw4⟩
 have hov:ov=(an,true):=by rw [HO.out,if_neg h1,if_neg h2]
 subst hov;go_wp2_with fail
 refine HCL.out.mono ?_;rintro _ w6 ⟨v,rfl,ho6,hb6⟩;obtain⟨A6,k6,hv6,q1,q2,r6,q3⟩:=Q0i ho6;rw [<- HNN.out] at hv6;subst hv6;have hs6:=hb6.size;have HB6:=sH (HB5.out.trans (hb6.mono hs5));have hD6:=HD5.out.below' hb6;have K46:=sH (K45.out.below' hb6);have f64:=hD6.frozen 4;have c66:w6.cell? ⟨g6,4,none⟩=some (.slice (S.lA j) nn (S.lC j)):=(hD6.cell 4).trans rfl;have hD7:=hD6.set_ 4 (.slice A6 nn k6);have hT7:=Q0b.setCell w6 ⟨g6,4,none⟩ (.slice A6 nn k6);have HD7:=sH (show Blk (w6.setCell ⟨g6,4,none⟩ (.slice A6 nn k6)) g6 102 #[.int .i64 (st:Int),.int .i64 (an.err:Int),.slice none 0 0,.int .i64 (an.epoch:Int),.slice A6 nn k6] from hD7);have HO7:=sH (ho6.keep_ (w':=w6.setCell ⟨g6,4,none⟩ (.slice A6 nn k6)) fun b hb=>hT7.block b (fun e=>by have:=ho6.ge_ hb; have e':b=g6:=e; omega));have K47:=sH ((hT7.block g4 hg46).trans K46.out:Blk (w6.setCell ⟨g6,4,none⟩ (.slice A6 nn k6)) g4 47 (anC 0 none 0 0 0 none 0 0));have HB7:=sH (HB6.out.setCell (p:=⟨g6,4,none⟩) hgw6 (.slice A6 nn k6));clear hD6 hD7 hT7 ho6 hb6 r6 q3 HCL K45 K46 c60 c64;go_upto_region 7 with fail
 generalize w6.setCell ⟨g6,4,none⟩ (.slice A6 nn k6)=w7 at HD7 HO7 K47 HB7 ⊢;clear f64 c66;obtain⟨C,hC⟩:∃ C,C=anC (an.err:Int) none 0 0 (an.epoch:Int) A6 nn k6:=⟨_,rfl⟩;have hcs:C.size=4:=by rw [hC]; rfl
 have hco:C.all (·.oneCell')=true:=by rw [hC]; exact Q2C _ _ _ _ _ _ _ _
 obtain⟨E,hE⟩:∃ E:Array zC,E=#[.int .i64 (st:Int),.int .i64 (an.err:Int),.slice none 0 0,.int .i64 (an.epoch:Int),.slice A6 nn k6]:=⟨_,rfl⟩;rw [<- hE] at HD7;have hec:∀ q,q<4->E[1+q]?=C[q]?:=fun q hq=>by
  rw [hE,hC];obtain rfl | rfl | rfl | rfl:q=0\/q=1\/q=2\/q=3:=by omega
  iterate 4 ·rfl
 have HEC:=sH hec;have HC:=sH hC;clear hC hE hec;go_wp2_with (first
  | (refine Q01 (o:=⟨some 36,_,_,_,_,_⟩) rfl 47 (.tmp 35) rfl g6 1 4 rfl 102 _ C _ HD7.out zN rfl rfl hcs HEC.out ?_)
  | (refine Q00 (o:=⟨none,_,_,_,_,_⟩) rfl 47 (.tmp 4) (.tmp 36) rfl g4 0 C rfl rfl 47 _ K47.out (by rw [hcs]; exact Q2k 0 none 0 0 0 none 0 0) (by rw [hcs]; simp [anC]) hco ?_; intro w8 hT8 hD8; rw [Q0c _ _ (by rw [hcs]; rfl)] at hD8))
 refine bodyPost_ret (Q09 rfl _ _ g4 4 47 _ _ rfl hD8 zN rfl rfl hcs) rfl ⟨C,rfl,⟨A6,k6,by rw [HC.out,HNN.out],?_⟩,hT8.below HB7.out hgw4⟩;rw [<- HNN.out];exact OwnN.more (HO7.out.keep_ fun b hb=>hT8.block b (fun e=>by have:=HO7.out.ge_ hb; omega)) hs5
end
end Go.Proofs.YtcpngeiahgoacaaGreat
