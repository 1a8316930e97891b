/- Parts of the proof, in one text: RaJ, AtL. -/
import Derived.Test.YtcpngeiahgoacaaGreatD9
import Derived.Test.YtcpngeiahgoacaaGreatD12
import Derived.Test.YtcpngeiahgoacaaGreatD14
namespace Go.Proofs.YtcpngeiahgoacaaGreat
set_option linter.unusedVariables false
set_option linter.unusedSimpArgs false
set_option maxRecDepth 100000
set_option maxHeartbeats 16000000
section
open Go.RowKit Go.Maps
attribute [local irreducible] wpList Q0i
def okF (f0:Int) (c:Int×List Int):Bool:=okCB c.1 c.2 && decide (c.1=f0) && decide (3*f0+1<c.2.headD 0)
def Q7j (cs:List (Int×List Int)):Bool:=decide (cs.length=1) || decide (Q37 (cs.headD (0,[])).2 (cs.getD 1 (0,[])).2=0)
def Q1S (cs:List (Int×List Int)):Bool:=decide (1<=cs.length/\cs.length<=2) && (cs.all (okF (cs.headD (0,[])).1) && Q7j cs)
theorem Q2t {f:Int} {l:List Int} (h:okCB f l=true):OkC f.toNat l/\0<=f/\f<=2:=by
 unfold okCB at h;rw [Bool.and_eq_true] at h;have h4:=of_decide_eq_true h.1;exact⟨⟨by omega,by omega,h.2⟩,h4.1,h4.2.1⟩
theorem Q4n {f:Nat} {l:List Int} {acc:List Srv} (hc:OkC f l):(l.any (Q18 acc f)=false) <-> (3*(f:Int)+1<l.headD 0/\∀ z,z∈l->acc.any (fun s=>Q2B s z)=false):=by
 have hp:=hc.pair;have hs:=hc.short;constructor
 ·intro h;have h':∀ z,z∈l->¬ z<=3*(f:Int)+1/\acc.any (fun s=>Q2B s z)=false:=fun z hz=>by
   have:=List.any_eq_false.1 h z hz;unfold Q18 at this;rw [Bool.or_eq_true,not_or] at this;exact⟨fun e=>this.1 (decide_eq_true e),by simpa using this.2⟩
  refine⟨?_,fun z hz=>(h' z hz).2⟩;cases l with
  | nil=>simp at hs
  | cons a t =>
   have:=(h' a (List.mem_cons_self ..)).1;show 3*(f:Int)+1<a;omega
 ·rintro ⟨h1,h2⟩;rw [List.any_eq_false];intro z hz;unfold Q18;rw [h2 z hz,Bool.or_false];cases l with
  | nil=>cases hz
  | cons a t =>
   have h1':3*(f:Int)+1<a:=h1;have:a<=z:=by
    rcases List.mem_cons.1 hz with rfl | hz
    ·omega
    ·have:=(List.pairwise_cons.1 hp).1 z hz;omega
   simp only [decide_eq_true_eq];omega
theorem Q7G {l m:List Int}:Q37 l m=0 <-> ∀ z,z∈l->¬ z∈m:=by
 unfold Q37;rw [List.length_eq_zero_iff,List.filter_eq_nil_iff]
 simp
theorem Q91 (cs:List (Int×List Int)):(Q2w cs).isSome=Q1S cs:=by
 match cs with
 | []=>rfl
 | [(f,l)] =>
  show (Q1M [] f [(f,l)]).isSome=_;by_cases h:okF f (f,l)=true
  ·have h':=h;unfold okF at h';rw [Bool.and_eq_true,Bool.and_eq_true] at h';have hg:=Q2t h'.1.1;have hx:3*f+1<l.headD 0:=of_decide_eq_true h'.2;rw [Q4s h'.1.1 rfl ((Q4n hg.1).2 ⟨by have:=hg.2; show 3*((f.toNat:Nat):Int)+1<l.headD 0; omega,fun z hz=>rfl⟩)];unfold Q1S;simp [Q1M,h,Q7j]
  ·have e:Q1S [(f,l)]=false:=by
    unfold Q1S;have:okF f (f,l)=false:=by simpa using h
    simp [this]
   rw [e,Q3s]
   ·rfl
   ·rintro ⟨h1,h2,h3⟩;refine h ?_;have hg:=Q2t h1;have:=((Q4n hg.1).1 h3).1;unfold okF;rw [h1,decide_eq_true rfl,decide_eq_true (by show 3*f+1<l.headD 0; omega)];rfl
 | [(f,l),(f2,l2)] =>
  show (Q1M [] f [(f,l),(f2,l2)]).isSome=_;by_cases h:okF f (f,l)=true
  ·have h':=h;unfold okF at h';rw [Bool.and_eq_true,Bool.and_eq_true] at h';have hg:=Q2t h'.1.1;have hx:3*f+1<l.headD 0:=of_decide_eq_true h'.2;rw [Q4s h'.1.1 rfl ((Q4n hg.1).2 ⟨by have:=hg.2; show 3*((f.toNat:Nat):Int)+1<l.headD 0; omega,fun z hz=>rfl⟩)];have hus:∀ z,([]++[(⟨f.toNat,l,[]⟩:Srv)]).any (fun s=>Q2B s z)=decide (z∈l):=fun z=>by simp [Q2B]
   by_cases h2:okF f (f2,l2)=true/\Q37 l l2=0
   ·have h2':=h2.1;unfold okF at h2';rw [Bool.and_eq_true,Bool.and_eq_true] at h2';have hg2:=Q2t h2'.1.1;have hff:f2=f:=of_decide_eq_true h2'.1.2;have hx2:3*f+1<l2.headD 0:=of_decide_eq_true h2'.2;rw [Q4s h2'.1.1 hff ((Q4n hg2.1).2 ⟨by have:=hg2.2; show 3*((f2.toNat:Nat):Int)+1<l2.headD 0; omega,fun z hz=>by
     rw [hus];exact decide_eq_false fun e=>Q7G.1 h2.2 z e hz⟩)]
    unfold Q1S;simp [Q1M,h,h2.1,Q7j,h2.2]
   ·have e:Q1S [(f,l),(f2,l2)]=false:=by
     unfold Q1S;by_cases h3:okF f (f2,l2)=true
     ·have:Q37 l l2≠0:=fun e=>h2 ⟨h3,e⟩
      simp [Q7j,this]
     ·have:okF f (f2,l2)=false:=by simpa using h3
      simp [this]
    rw [e,Q3s]
    ·rfl
    ·rintro ⟨h1,hff,h3⟩;refine h2 ?_;have hg2:=Q2t h1;have h4:=(Q4n hg2.1).1 h3;refine⟨?_,Q7G.2 fun z hz e=>?_⟩
     ·unfold okF;rw [h1,decide_eq_true hff,decide_eq_true (by show 3*f+1<l2.headD 0; have:=h4.1; omega)];rfl
     ·have:=h4.2 z e;rw [hus] at this;exact of_decide_eq_false this hz
  ·have e:Q1S [(f,l),(f2,l2)]=false:=by
    unfold Q1S;have:okF f (f,l)=false:=by simpa using h
    simp [this]
   rw [e,Q3s]
   ·rfl
   ·rintro ⟨h1,h2,h3⟩;refine h ?_;have hg:=Q2t h1;have:=((Q4n hg.1).1 h3).1;unfold okF;rw [h1,decide_eq_true rfl,decide_eq_true (by show 3*f+1<l.headD 0; omega)];rfl
 | a :: b :: c :: t =>
  have e:Q1S (a :: b :: c :: t)=false:=by
   unfold Q1S;rw [decide_eq_false (by simp),Bool.false_and]
  rw [e];show Option.isSome (if (a :: b :: c :: t).length<=2 then Q1M [] a.1 (a :: b :: c :: t) else none)=false;rw [if_neg (by simp)];rfl
theorem Q9s (A:Option Addr) (n c:Nat) (cs:List (Int×List Int)) (w:World) (h:Q2V w A n cs) (hn:n<=17592186044416) :
 Calls Tryz.prog 90 #[.slice A n c] w fun e w'=>e=.returned (.bool (Q1S cs))/\Below w.heap.size w w':=by
 have hlen:=h.len;obtain⟨res,hres⟩:∃ r,r=Q1S cs:=⟨_,rfl⟩;rw [<- hres];by_cases hb1:1<=n/\n<=2
 ·have HR:=Lib.hid (show res=((cs.drop 0).all (okF (cs.headD (0,[])).1) && Q7j cs) by rw [hres,List.drop_zero]; unfold Q1S; rw [decide_eq_true (by omega),Bool.true_and]);have HN0':=hb1.1;obtain⟨q,o0,_,_,_,hA,hx0⟩:=Q1s h (i:=0) (by omega);subst hA;obtain⟨f0,hf0⟩:∃ f,f=(cs.headD (0,[])).1:=⟨_,rfl⟩;have HF0:=Lib.hid hf0;rw [<- hf0] at HR;have H:=Lib.hid (fun(W:World) (hb:Below w.heap.size w W)=>h.below hb);have HLEN:=Lib.hid hlen;have hx1:¬ ((n:Int)<1):=by omega
  have hx2:¬ ((2:Int)<(n:Int)):=by omega
  have HN0:=Lib.hid (show (0:Int)<(n:Int) by omega);have HB1:=Lib.hid hb1;clear hx0;clear h hlen hres hf0 hb1 HN0';go_enter Tryz.func90,Tryz.ntmps90
  go_wp2_with fail
  clear hx1 hx2;go_loopw [3] (fun iv wr=>∃ i:Nat,i<=n/\iv=.int .i64 i/\Below w.heap.size w wr/\(res=((cs.drop i).all (okF f0) && Q7j cs))/\(0<i->∃ c0,cs[0]?=some c0/\okCB c0.1 c0.2=true)) (fun iv _=>n - (intOf iv).toNat)
  case atStart=>exact⟨0,by omega,rfl,Below.refl _ _,HR.out,fun h=>absurd h (by omega)⟩
  clear HR;case round =>
   obtain⟨i,hi,rfl,hlow,hr,hc0⟩:=hrel;have HLO:=Lib.hid hlow;have hls:=hlow.size;have HCA:=Lib.hid (H.out wr hlow);by_cases hin:i<n
   ·have hil:i<cs.length:=by have:=HLEN.out; omega
    have h0l:0<cs.length:=by omega
    obtain⟨q',o',Ai,ci,C,hq',hC,hql,hcv,hrd,hnl⟩:=Q1s HCA.out hil;obtain⟨q2,o2,A0,c0c,C0,hq2,hC0,hql0,hcv0,hrd0,hnl0⟩:=Q1s HCA.out h0l;obtain⟨rfl,rfl⟩:q=q'/\o0=o':=by injection hq' with e; injection e with e1 e2; exact⟨e1,e2⟩
    obtain⟨rfl,rfl⟩:q=q2/\o0=o2:=by injection hq2 with e; injection e with e1 e2; exact⟨e1,e2⟩
    have hf0c:∀ (W:World),Below wr.heap.size wr W->W.cell? ⟨q,o0,none⟩=some (.int .i64 f0):=fun W hb=>by
     have:=(hcv0 W hb).1;simp only [Nat.zero_mul,Nat.add_zero] at this;rw [this,HF0.out];have e:cs.headD (0,[])=cs[0]:=by
      cases cs with
      | nil=>simp at h0l
      | cons a t=>rfl
     rw [e]
    have hdr:cs.drop i=cs[i] :: cs.drop (i+1):=List.drop_eq_getElem_cons hil;rw [hdr,List.all_cons] at hr;have hc0':∃ c0,cs[0]?=some c0/\(okF f0 cs[i]=true->okCB c0.1 c0.2=true):=by
     by_cases hi0:i=0
     ·subst hi0;exact⟨_,List.getElem?_eq_getElem hil,fun e=>by unfold okF at e; rw [Bool.and_eq_true,Bool.and_eq_true] at e; exact e.1.1⟩
     ·obtain⟨c0,e1,e2⟩:=hc0 (by omega);exact⟨c0,e1,fun _=>e2⟩
    have HC0:=Lib.hid hc0';obtain⟨fi,hfi⟩:∃ f,f=cs[i].1:=⟨_,rfl⟩;obtain⟨zs,hzs⟩:∃ z,z=cs[i].2:=⟨_,rfl⟩;have hok:okF f0 cs[i]=(okCB fi zs && decide (fi=f0) && decide (3*f0+1<zs.headD 0)):=by rw [hfi,hzs]; rfl
    have HOK:=Lib.hid hok;rw [hok] at hr;rw [<- hfi,<- hzs] at hC hcv;rw [<- hzs] at hrd hnl;have HCK:=Lib.hid (fun(W:World) (hb:Below wr.heap.size wr W)=>Q33 fi Ai zs.length ci zs W wr.heap.size (hrd.below hb) hb.size hnl);rw [<- hC] at HCK;have HCS:=Lib.hid (show C.size=2 by rw [hC]; rfl);have HCV:=Lib.hid (fun(W:World) (hb:Below wr.heap.size wr W)=>(hcv W hb).2.2);have CF:=Lib.hid (fun(W:World) (hb:Below wr.heap.size wr W)=>(hcv W hb).1);have CZ:=Lib.hid hf0c;have CN:=Lib.hid (fun(W:World) (hb:Below wr.heap.size wr W)=>(hcv W hb).2.1);have HIN:=Lib.hid (show (i:Int)<(n:Int) by omega);have HRD:=Lib.hid hrd;have hinI:(i:Int)<(n:Int):=by omega
    obtain⟨rest,hrest⟩:∃ r,r=((cs.drop (i+1)).all (okF f0) && Q7j cs):=⟨_,rfl⟩;have HREST:=Lib.hid hrest;rw [Bool.and_assoc,<- hrest] at hr;clear hq' hq2 hC hC0 hcv hcv0 hrd hnl hf0c hdr hc0 hc0' hok hlow hfi hzs hrd0 hnl0 h0l hrest;by_cases hck:okCB fi zs=true
    ·rw [if_pos hck] at HCK;by_cases hfe:fi=f0
     ·have HNE:=Lib.hid (show (fi != f0)=false by rw [hfe]; simp);have hg:=Q2t hck;have hsh:=hg.1.short;obtain⟨ni,hni⟩:∃ k,k=zs.length:=⟨_,rfl⟩;rw [<- hni] at CN HRD;obtain⟨ad,u,hAd,hadb,hxi,hcell⟩:=HRD.out.at_ (show 0<ni by omega);subst hAd;obtain⟨z,hz⟩:∃ z,z=zs.headD 0:=⟨_,rfl⟩;have hu:u=.int .i64 z:=by
       rw [hz];cases zs with
       | nil=>simp at hsh
       | cons a t =>
        injection hxi with hxi
        exact hxi.symm
      subst hu;have had0:ad.add 0=ad:=by cases ad; rfl
      have CH:=Lib.hid (fun(W:World) (hb:Below wr.heap.size wr W)=>show W.cell? ad=some (.int .i64 z) from(hb.cell hadb).trans (had0▸hcell));have HNI:=Lib.hid (show (0:Int)<(ni:Int) by omega);have HW1:=Lib.hid (show IntKind.i64.wrap (3*f0)=3*f0 by rw [IntKind.wrap_i64]; omega);have HW2:=Lib.hid (show IntKind.i64.wrap (3*f0+1)=3*f0+1 by rw [IntKind.wrap_i64]; omega);obtain⟨b,hb⟩:∃ b,b=decide (z<=3*f0+1):=⟨_,rfl⟩;have HLE:=Lib.hid hb.symm;have HRB:=Lib.hid (show res=(!b && rest) by
       rw [hr,hck,decide_eq_true hfe,hb,<- hz];by_cases hle:z<=3*f0+1
       ·rw [decide_eq_true hle,decide_eq_false (by omega)]; rfl
       ·rw [decide_eq_false hle,decide_eq_true (by omega)]; rfl)
      have HOB:=Lib.hid (show okF f0 cs[i]=!b by
       rw [HOK.out,hck,decide_eq_true hfe,hb,<- hz];by_cases hle:z<=3*f0+1
       ·rw [decide_eq_true hle,decide_eq_false (by omega)]; rfl
       ·rw [decide_eq_false hle,decide_eq_true (by omega)]; rfl)
      clear hr hck hfe hg hsh hxi hcell had0 hz hni hb;go_upto_region 6 with fail
      refine Q0l 33 66 (fun jx W v=>match jx with | 0=>v=.slice (some ⟨q,o0,none⟩) n c | 1=>v=.int .i64 (i:Int) | 2=>v=.pointer (some ⟨q,o0+i*2,none⟩) | 3=>v=.agg C | 4=>v=.int .i64 0 | 5=>v=.bool false | 6=>v=.bool false | 7=>v=.slice (some ⟨q,o0,none⟩) n c | 8=>v=.int .i64 (i:Int) | 9=>v=.pointer (some ⟨q,o0+i*2,none⟩) | 10=>v=.pointer (some ⟨q,o0+i*2,none⟩) | 11=>v=.int .i64 fi | 12=>v=.slice (some ⟨q,o0,none⟩) n c | 13=>v=.pointer (some ⟨q,o0,none⟩) | 14=>v=.pointer (some ⟨q,o0,none⟩) | 15=>v=.int .i64 f0 | 16=>v=.bool false | 17=>v=.bool false | 18=>v=.bool false | 19=>v=.slice (some ⟨q,o0,none⟩) n c | 20=>v=.int .i64 (i:Int) | 21=>v=.pointer (some ⟨q,o0+i*2,none⟩) | 22=>v=.pointer (some ⟨q,o0+i*2+1,none⟩) | 23=>v=.slice (some ad) ni ci | 24=>v=.pointer (some ad) | 25=>v=.int .i64 z | 26=>v=.slice (some ⟨q,o0,none⟩) n c | 27=>v=.pointer (some ⟨q,o0,none⟩) | 28=>v=.pointer (some ⟨q,o0,none⟩) | 29=>v=.int .i64 f0 | 30=>v=.int .i64 (3*f0) | 31=>v=.int .i64 (3*f0+1) | 32=>v=.bool b | _=>True) [18,19,20,21,22,23,24,25,26,27,28,29,30,31,32,33,34,35,36,37,38,39,40,41,42,43,44,45,46,47,48,49,50] (by kernel_rfl) (by kernel_rfl) (by kernel_rfl) (by first | rfl | simp) (by kernel_rfl) (fun jx=>?last) ?heads ?_
      case last =>
       match jx with
       | 0 | 1 | 2 | 3 | 4 | 5 | 6 | 7 | 8 | 9 | 10 | 11 | 12 | 13 | 14 | 15 | 16 | 17 | 18 | 19 | 20 | 21 | 22 | 23 | 24 | 25 | 26 | 27 | 28 | 29 | 30 | 31 | 32 | jx+33=>exact Q16.pure _
      case heads =>
       simp only [List.take_succ_cons,List.take_zero];refine⟨?_,?_,?_,?_,?_,?_,?_,?_,?_,?_,?_,?_,?_,?_,?_,?_,?_,?_,?_,?_,?_,?_,?_,?_,?_,?_,?_,?_,?_,?_,?_,?_,?_,trivial⟩;all_goals intro a W hb hkp hd
       ·have e0:a.tmps[0]?.getD undef=.slice (some ⟨q,o0,none⟩) n c:=hkp.get (by kernel_rfl) rfl;exact Q00 rfl _ (by go_simp) rfl
       ·have e0:a.tmps[3]?.getD undef=.int .i64 (i:Int):=hkp.get (by kernel_rfl) rfl;exact Q00 rfl _ (by go_simp) rfl
       ·have e0:(_:Value)=.slice (some ⟨q,o0,none⟩) n c:=(hd 0 (by kernel_rfl)).get 18 rfl rfl;have e1:(_:Value)=.int .i64 (i:Int):=(hd 1 (by kernel_rfl)).get 19 rfl rfl;have hlt:=HIN.out;exact Q00 rfl _ (by go_simp) rfl
       ·have e0:(_:Value)=.pointer (some ⟨q,o0+i*2,none⟩):=(hd 2 (by kernel_rfl)).get 20 rfl rfl;have e0':a.eval (.tmp 20)=.pointer (some ⟨q,o0+i*2,none⟩):=by simpa [Act.eval] using e0
        exact Q00 rfl (.agg C) (Q0T 77 (.tmp 20) rfl ⟨q,o0+i*2,none⟩ 2 e0' C _ Tryz.underlying77 rfl rfl HCS.out (HCV.out W hb)) rfl
       ·have e0:(_:Value)=.agg C:=(hd 3 (by kernel_rfl)).get 21 rfl rfl;have e1:(_:Value)=.agg C:=(hd 3 (by kernel_rfl)).get 21 rfl rfl;exact Q0w rfl 136 #[.agg C] (by go_simp) ((HCK.out W hb).mono fun e w h=>⟨_,h.1,h.2,rfl⟩)
       ·have e0:(_:Value)=.int .i64 0:=(hd 4 (by kernel_rfl)).get 22 rfl rfl;exact Q00 rfl _ (by go_simp) rfl
       ·have e0:(_:Value)=.bool false:=(hd 5 (by kernel_rfl)).get 23 rfl rfl;exact Q00 rfl _ (by go_simp) rfl
       ·have eg:(_:Value)=.bool false:=(hd 6 (by kernel_rfl)).get 24 rfl rfl;have e0:a.tmps[0]?.getD undef=.slice (some ⟨q,o0,none⟩) n c:=hkp.get (by kernel_rfl) rfl;exact Q00 (Q04 rfl rfl eg) _ (by go_simp) rfl
       ·have eg:(_:Value)=.bool false:=(hd 6 (by kernel_rfl)).get 24 rfl rfl;have e0:a.tmps[3]?.getD undef=.int .i64 (i:Int):=hkp.get (by kernel_rfl) rfl;exact Q00 (Q04 rfl rfl eg) _ (by go_simp) rfl
       ·have eg:(_:Value)=.bool false:=(hd 6 (by kernel_rfl)).get 24 rfl rfl;have e0:(_:Value)=.slice (some ⟨q,o0,none⟩) n c:=(hd 7 (by kernel_rfl)).get 25 rfl rfl;have e1:(_:Value)=.int .i64 (i:Int):=(hd 8 (by kernel_rfl)).get 26 rfl rfl;have hlt:=HIN.out;exact Q00 (Q04 rfl rfl eg) _ (by go_simp) rfl
       ·have eg:(_:Value)=.bool false:=(hd 6 (by kernel_rfl)).get 24 rfl rfl;have e0:(_:Value)=.pointer (some ⟨q,o0+i*2,none⟩):=(hd 9 (by kernel_rfl)).get 27 rfl rfl;exact Q00 (Q04 rfl rfl eg) _ (by go_simp) rfl
       ·have eg:(_:Value)=.bool false:=(hd 6 (by kernel_rfl)).get 24 rfl rfl;have e0:(_:Value)=.pointer (some ⟨q,o0+i*2,none⟩):=(hd 10 (by kernel_rfl)).get 28 rfl rfl;have cc:=CF.out W hb;exact Q00 (Q04 rfl rfl eg) _ (by go_simp) rfl
       ·have eg:(_:Value)=.bool false:=(hd 6 (by kernel_rfl)).get 24 rfl rfl;have e0:a.tmps[0]?.getD undef=.slice (some ⟨q,o0,none⟩) n c:=hkp.get (by kernel_rfl) rfl;exact Q00 (Q04 rfl rfl eg) _ (by go_simp) rfl
       ·have eg:(_:Value)=.bool false:=(hd 6 (by kernel_rfl)).get 24 rfl rfl;have e0:(_:Value)=.slice (some ⟨q,o0,none⟩) n c:=(hd 12 (by kernel_rfl)).get 30 rfl rfl;have hlt:=HN0.out;exact Q00 (Q04 rfl rfl eg) (.pointer (some ⟨q,o0,none⟩)) (by go_simp; try (intro e0; omega)) rfl
       ·have eg:(_:Value)=.bool false:=(hd 6 (by kernel_rfl)).get 24 rfl rfl;have e0:(_:Value)=.pointer (some ⟨q,o0,none⟩):=(hd 13 (by kernel_rfl)).get 31 rfl rfl;exact Q00 (Q04 rfl rfl eg) (.pointer (some ⟨q,o0,none⟩)) (by go_simp; try (intro e0; omega)) rfl
       ·have eg:(_:Value)=.bool false:=(hd 6 (by kernel_rfl)).get 24 rfl rfl;have e0:(_:Value)=.pointer (some ⟨q,o0,none⟩):=(hd 14 (by kernel_rfl)).get 32 rfl rfl;have cc:=CZ.out W hb;exact Q00 (Q04 rfl rfl eg) _ (by go_simp) rfl
       ·have eg:(_:Value)=.bool false:=(hd 6 (by kernel_rfl)).get 24 rfl rfl;have e0:(_:Value)=.int .i64 fi:=(hd 11 (by kernel_rfl)).get 29 rfl rfl;have e1:(_:Value)=.int .i64 f0:=(hd 15 (by kernel_rfl)).get 33 rfl rfl;have hne:=HNE.out;exact Q00 (Q04 rfl rfl eg) _ (by go_simp) rfl
       ·have e0:(_:Value)=.bool false:=(hd 6 (by kernel_rfl)).get 24 rfl rfl;have e1:(_:Value)=.bool false:=(hd 16 (by kernel_rfl)).get 34 rfl rfl;exact Q00 rfl _ (by go_simp) rfl
       ·have e0:(_:Value)=.bool false:=(hd 17 (by kernel_rfl)).get 35 rfl rfl;exact Q00 rfl _ (by go_simp) rfl
       ·have eg:(_:Value)=.bool false:=(hd 18 (by kernel_rfl)).get 36 rfl rfl;have e0:a.tmps[0]?.getD undef=.slice (some ⟨q,o0,none⟩) n c:=hkp.get (by kernel_rfl) rfl;exact Q00 (Q04 rfl rfl eg) _ (by go_simp) rfl
       ·have eg:(_:Value)=.bool false:=(hd 18 (by kernel_rfl)).get 36 rfl rfl;have e0:a.tmps[3]?.getD undef=.int .i64 (i:Int):=hkp.get (by kernel_rfl) rfl;exact Q00 (Q04 rfl rfl eg) _ (by go_simp) rfl
       ·have eg:(_:Value)=.bool false:=(hd 18 (by kernel_rfl)).get 36 rfl rfl;have e0:(_:Value)=.slice (some ⟨q,o0,none⟩) n c:=(hd 19 (by kernel_rfl)).get 37 rfl rfl;have e1:(_:Value)=.int .i64 (i:Int):=(hd 20 (by kernel_rfl)).get 38 rfl rfl;have hlt:=HIN.out;exact Q00 (Q04 rfl rfl eg) _ (by go_simp) rfl
       ·have eg:(_:Value)=.bool false:=(hd 18 (by kernel_rfl)).get 36 rfl rfl;have e0:(_:Value)=.pointer (some ⟨q,o0+i*2,none⟩):=(hd 21 (by kernel_rfl)).get 39 rfl rfl;exact Q00 (Q04 rfl rfl eg) _ (by go_simp) rfl
       ·have eg:(_:Value)=.bool false:=(hd 18 (by kernel_rfl)).get 36 rfl rfl;have e0:(_:Value)=.pointer (some ⟨q,o0+i*2+1,none⟩):=(hd 22 (by kernel_rfl)).get 40 rfl rfl;have cc:=CN.out W hb;exact Q00 (Q04 rfl rfl eg) _ (by go_simp) rfl
       ·have eg:(_:Value)=.bool false:=(hd 18 (by kernel_rfl)).get 36 rfl rfl;have e0:(_:Value)=.slice (some ad) ni ci:=(hd 23 (by kernel_rfl)).get 41 rfl rfl;have hlt:=HNI.out;exact Q00 (Q04 rfl rfl eg) (.pointer (some ad)) (by go_simp; try (intro e0; omega)) rfl
       ·have eg:(_:Value)=.bool false:=(hd 18 (by kernel_rfl)).get 36 rfl rfl;have e0:(_:Value)=.pointer (some ad):=(hd 24 (by kernel_rfl)).get 42 rfl rfl;have cc:=CH.out W hb;exact Q00 (Q04 rfl rfl eg) _ (by go_simp) rfl
       ·have eg:(_:Value)=.bool false:=(hd 18 (by kernel_rfl)).get 36 rfl rfl;have e0:a.tmps[0]?.getD undef=.slice (some ⟨q,o0,none⟩) n c:=hkp.get (by kernel_rfl) rfl;exact Q00 (Q04 rfl rfl eg) _ (by go_simp) rfl
       ·have eg:(_:Value)=.bool false:=(hd 18 (by kernel_rfl)).get 36 rfl rfl;have e0:(_:Value)=.slice (some ⟨q,o0,none⟩) n c:=(hd 26 (by kernel_rfl)).get 44 rfl rfl;have hlt:=HN0.out;exact Q00 (Q04 rfl rfl eg) (.pointer (some ⟨q,o0,none⟩)) (by go_simp; try (intro e0; omega)) rfl
       ·have eg:(_:Value)=.bool false:=(hd 18 (by kernel_rfl)).get 36 rfl rfl;have e0:(_:Value)=.pointer (some ⟨q,o0,none⟩):=(hd 27 (by kernel_rfl)).get 45 rfl rfl;exact Q00 (Q04 rfl rfl eg) (.pointer (some ⟨q,o0,none⟩)) (by go_simp; try (intro e0; omega)) rfl
       ·have eg:(_:Value)=.bool false:=(hd 18 (by kernel_rfl)).get 36 rfl rfl;have e0:(_:Value)=.pointer (some ⟨q,o0,none⟩):=(hd 28 (by kernel_rfl)).get 46 rfl rfl;have cc:=CZ.out W hb;exact Q00 (Q04 rfl rfl eg) _ (by go_simp) rfl
       ·have eg:(_:Value)=.bool false:=(hd 18 (by kernel_rfl)).get 36 rfl rfl;have e0:(_:Value)=.int .i64 f0:=(hd 29 (by kernel_rfl)).get 47 rfl rfl;have hw:=HW1.out;exact Q00 (Q04 rfl rfl eg) _ (by go_simp) rfl
       ·have eg:(_:Value)=.bool false:=(hd 18 (by kernel_rfl)).get 36 rfl rfl;have e0:(_:Value)=.int .i64 (3*f0):=(hd 30 (by kernel_rfl)).get 48 rfl rfl;have hw:=HW2.out;exact Q00 (Q04 rfl rfl eg) _ (by go_simp) rfl
       ·have eg:(_:Value)=.bool false:=(hd 18 (by kernel_rfl)).get 36 rfl rfl;have e0:(_:Value)=.int .i64 z:=(hd 25 (by kernel_rfl)).get 43 rfl rfl;have e1:(_:Value)=.int .i64 (3*f0+1):=(hd 31 (by kernel_rfl)).get 49 rfl rfl;have hle:=HLE.out;exact Q00 (Q04 rfl rfl eg) _ (by go_simp) rfl
      intro f W hbW hd;have f36:f 36=.bool false:=hd 18 (by omega) _ 36 rfl rfl;have f50:f 50=.bool b:=hd 32 (by omega) _ 50 rfl rfl;have HLW:=Lib.hid (HLO.out.trans (hbW.mono HLO.out.size));clear hd hbW;simp only [Q0H,List.drop_succ_cons,List.drop_zero,f36,f50];try simp only [Act.put,sA1,sA2,sA3]
      cases b with
      | true =>
       have hr2:res=false:=HRB.out;subst hr2;go_wp2_with fail
       go_ret
       exact⟨rfl,HLW.out⟩
      | false =>
       have HR2:=Lib.hid (show res=rest from HRB.out);go_wp2_with fail
       go_roundw
       case rel=>exact⟨i+1,by omega,by go_num,HLW.out,HR2.out.trans HREST.out,fun _=>by obtain⟨c0,e1,e2⟩:=HC0.out; exact⟨c0,e1,e2 HOB.out⟩⟩
       case measure=>simp [intOf]; omega
     ·have HNE:=Lib.hid (show (fi != f0)=true by simpa using hfe);have hrf:res=false:=by rw [hr,decide_eq_false hfe]; simp
      subst hrf;clear hr hfe hck;go_upto_region 6 with fail
      refine Q0l 33 66 (fun jx W v=>match jx with | 0=>v=.slice (some ⟨q,o0,none⟩) n c | 1=>v=.int .i64 (i:Int) | 2=>v=.pointer (some ⟨q,o0+i*2,none⟩) | 3=>v=.agg C | 4=>v=.int .i64 0 | 5=>v=.bool false | 6=>v=.bool false | 7=>v=.slice (some ⟨q,o0,none⟩) n c | 8=>v=.int .i64 (i:Int) | 9=>v=.pointer (some ⟨q,o0+i*2,none⟩) | 10=>v=.pointer (some ⟨q,o0+i*2,none⟩) | 11=>v=.int .i64 fi | 12=>v=.slice (some ⟨q,o0,none⟩) n c | 13=>v=.pointer (some ⟨q,o0,none⟩) | 14=>v=.pointer (some ⟨q,o0,none⟩) | 15=>v=.int .i64 f0 | 16=>v=.bool true | 17=>v=.bool true | 18=>v=.bool true | 19=>v=undef | 20=>v=undef | 21=>v=undef | 22=>v=undef | 23=>v=undef | 24=>v=undef | 25=>v=undef | 26=>v=undef | 27=>v=undef | 28=>v=undef | 29=>v=undef | 30=>v=undef | 31=>v=undef | 32=>v=undef | _=>True) [18,19,20,21,22,23,24,25,26,27,28,29,30,31,32,33,34,35,36,37,38,39,40,41,42,43,44,45,46,47,48,49,50] (by kernel_rfl) (by kernel_rfl) (by kernel_rfl) (by first | rfl | simp) (by kernel_rfl) (fun jx=>?last) ?heads ?_
      case last =>
       match jx with
       | 0 | 1 | 2 | 3 | 4 | 5 | 6 | 7 | 8 | 9 | 10 | 11 | 12 | 13 | 14 | 15 | 16 | 17 | 18 | 19 | 20 | 21 | 22 | 23 | 24 | 25 | 26 | 27 | 28 | 29 | 30 | 31 | 32 | jx+33=>exact Q16.pure _
      case heads =>
       simp only [List.take_succ_cons,List.take_zero];refine⟨?_,?_,?_,?_,?_,?_,?_,?_,?_,?_,?_,?_,?_,?_,?_,?_,?_,?_,?_,?_,?_,?_,?_,?_,?_,?_,?_,?_,?_,?_,?_,?_,?_,trivial⟩;all_goals intro a W hb hkp hd
       ·have e0:a.tmps[0]?.getD undef=.slice (some ⟨q,o0,none⟩) n c:=hkp.get (by kernel_rfl) rfl;exact Q00 rfl _ (by go_simp) rfl
       ·have e0:a.tmps[3]?.getD undef=.int .i64 (i:Int):=hkp.get (by kernel_rfl) rfl;exact Q00 rfl _ (by go_simp) rfl
       ·have e0:(_:Value)=.slice (some ⟨q,o0,none⟩) n c:=(hd 0 (by kernel_rfl)).get 18 rfl rfl;have e1:(_:Value)=.int .i64 (i:Int):=(hd 1 (by kernel_rfl)).get 19 rfl rfl;have hlt:=HIN.out;exact Q00 rfl _ (by go_simp) rfl
       ·have e0:(_:Value)=.pointer (some ⟨q,o0+i*2,none⟩):=(hd 2 (by kernel_rfl)).get 20 rfl rfl;have e0':a.eval (.tmp 20)=.pointer (some ⟨q,o0+i*2,none⟩):=by simpa [Act.eval] using e0
        exact Q00 rfl (.agg C) (Q0T 77 (.tmp 20) rfl ⟨q,o0+i*2,none⟩ 2 e0' C _ Tryz.underlying77 rfl rfl HCS.out (HCV.out W hb)) rfl
       ·have e0:(_:Value)=.agg C:=(hd 3 (by kernel_rfl)).get 21 rfl rfl;have e1:(_:Value)=.agg C:=(hd 3 (by kernel_rfl)).get 21 rfl rfl;exact Q0w rfl 136 #[.agg C] (by go_simp) ((HCK.out W hb).mono fun e w h=>⟨_,h.1,h.2,rfl⟩)
       ·have e0:(_:Value)=.int .i64 0:=(hd 4 (by kernel_rfl)).get 22 rfl rfl;exact Q00 rfl _ (by go_simp) rfl
       ·have e0:(_:Value)=.bool false:=(hd 5 (by kernel_rfl)).get 23 rfl rfl;exact Q00 rfl _ (by go_simp) rfl
       ·have eg:(_:Value)=.bool false:=(hd 6 (by kernel_rfl)).get 24 rfl rfl;have e0:a.tmps[0]?.getD undef=.slice (some ⟨q,o0,none⟩) n c:=hkp.get (by kernel_rfl) rfl;exact Q00 (Q04 rfl rfl eg) _ (by go_simp) rfl
       ·have eg:(_:Value)=.bool false:=(hd 6 (by kernel_rfl)).get 24 rfl rfl;have e0:a.tmps[3]?.getD undef=.int .i64 (i:Int):=hkp.get (by kernel_rfl) rfl;exact Q00 (Q04 rfl rfl eg) _ (by go_simp) rfl
       ·have eg:(_:Value)=.bool false:=(hd 6 (by kernel_rfl)).get 24 rfl rfl;have e0:(_:Value)=.slice (some ⟨q,o0,none⟩) n c:=(hd 7 (by kernel_rfl)).get 25 rfl rfl;have e1:(_:Value)=.int .i64 (i:Int):=(hd 8 (by kernel_rfl)).get 26 rfl rfl;have hlt:=HIN.out;exact Q00 (Q04 rfl rfl eg) _ (by go_simp) rfl
       ·have eg:(_:Value)=.bool false:=(hd 6 (by kernel_rfl)).get 24 rfl rfl;have e0:(_:Value)=.pointer (some ⟨q,o0+i*2,none⟩):=(hd 9 (by kernel_rfl)).get 27 rfl rfl;exact Q00 (Q04 rfl rfl eg) _ (by go_simp) rfl
       ·have eg:(_:Value)=.bool false:=(hd 6 (by kernel_rfl)).get 24 rfl rfl;have e0:(_:Value)=.pointer (some ⟨q,o0+i*2,none⟩):=(hd 10 (by kernel_rfl)).get 28 rfl rfl;have cc:=CF.out W hb;exact Q00 (Q04 rfl rfl eg) _ (by go_simp) rfl
       ·have eg:(_:Value)=.bool false:=(hd 6 (by kernel_rfl)).get 24 rfl rfl;have e0:a.tmps[0]?.getD undef=.slice (some ⟨q,o0,none⟩) n c:=hkp.get (by kernel_rfl) rfl;exact Q00 (Q04 rfl rfl eg) _ (by go_simp) rfl
       ·have eg:(_:Value)=.bool false:=(hd 6 (by kernel_rfl)).get 24 rfl rfl;have e0:(_:Value)=.slice (some ⟨q,o0,none⟩) n c:=(hd 12 (by kernel_rfl)).get 30 rfl rfl;have hlt:=HN0.out;exact Q00 (Q04 rfl rfl eg) (.pointer (some ⟨q,o0,none⟩)) (by go_simp; try (intro e0; omega)) rfl
       ·have eg:(_:Value)=.bool false:=(hd 6 (by kernel_rfl)).get 24 rfl rfl;have e0:(_:Value)=.pointer (some ⟨q,o0,none⟩):=(hd 13 (by kernel_rfl)).get 31 rfl rfl;exact Q00 (Q04 rfl rfl eg) (.pointer (some ⟨q,o0,none⟩)) (by go_simp; try (intro e0; omega)) rfl
       ·have eg:(_:Value)=.bool false:=(hd 6 (by kernel_rfl)).get 24 rfl rfl;have e0:(_:Value)=.pointer (some ⟨q,o0,none⟩):=(hd 14 (by kernel_rfl)).get 32 rfl rfl;have cc:=CZ.out W hb;exact Q00 (Q04 rfl rfl eg) _ (by go_simp) rfl
       ·have eg:(_:Value)=.bool false:=(hd 6 (by kernel_rfl)).get 24 rfl rfl;have e0:(_:Value)=.int .i64 fi:=(hd 11 (by kernel_rfl)).get 29 rfl rfl;have e1:(_:Value)=.int .i64 f0:=(hd 15 (by kernel_rfl)).get 33 rfl rfl;have hne:=HNE.out;exact Q00 (Q04 rfl rfl eg) _ (by go_simp) rfl
       ·have e0:(_:Value)=.bool false:=(hd 6 (by kernel_rfl)).get 24 rfl rfl;have e1:(_:Value)=.bool true:=(hd 16 (by kernel_rfl)).get 34 rfl rfl;exact Q00 rfl _ (by go_simp) rfl
       ·have e0:(_:Value)=.bool true:=(hd 17 (by kernel_rfl)).get 35 rfl rfl;exact Q00 rfl _ (by go_simp) rfl
       iterate 14 ·have eg:(_:Value)=.bool true:=(hd 18 (by kernel_rfl)).get 36 rfl rfl;exact Q1F (Q0Z rfl rfl eg rfl) rfl
      intro f W hbW hd;have f36:f 36=.bool true:=hd 18 (by omega) _ 36 rfl rfl;have HLW:=Lib.hid (HLO.out.trans (hbW.mono HLO.out.size));clear hd hbW;simp only [Q0H,List.drop_succ_cons,List.drop_zero,f36];try simp only [Act.put,sA1,sA2,sA3]
      go_wp2_with fail
      go_ret
      exact⟨rfl,HLW.out⟩
    ·rw [if_neg hck] at HCK;have hrf:res=false:=by
      rw [hr];have e:okCB fi zs=false:=by simpa using hck
      rw [e]; rfl
     subst hrf;clear hr hck;go_upto_region 6 with fail
     refine Q0l 33 66 (fun jx W v=>match jx with | 0=>v=.slice (some ⟨q,o0,none⟩) n c | 1=>v=.int .i64 (i:Int) | 2=>v=.pointer (some ⟨q,o0+i*2,none⟩) | 3=>v=.agg C | 4=>v=.int .i64 110 | 5=>v=.bool true | 6=>v=.bool true | 7=>v=undef | 8=>v=undef | 9=>v=undef | 10=>v=undef | 11=>v=undef | 12=>v=undef | 13=>v=undef | 14=>v=undef | 15=>v=undef | 16=>v=undef | 17=>v=.bool true | 18=>v=.bool true | 19=>v=undef | 20=>v=undef | 21=>v=undef | 22=>v=undef | 23=>v=undef | 24=>v=undef | 25=>v=undef | 26=>v=undef | 27=>v=undef | 28=>v=undef | 29=>v=undef | 30=>v=undef | 31=>v=undef | 32=>v=undef | _=>True) [18,19,20,21,22,23,24,25,26,27,28,29,30,31,32,33,34,35,36,37,38,39,40,41,42,43,44,45,46,47,48,49,50] (by kernel_rfl) (by kernel_rfl) (by kernel_rfl) (by first | rfl | simp) (by kernel_rfl) (fun jx=>?last) ?heads ?_
     case last =>
      match jx with
      | 0 | 1 | 2 | 3 | 4 | 5 | 6 | 7 | 8 | 9 | 10 | 11 | 12 | 13 | 14 | 15 | 16 | 17 | 18 | 19 | 20 | 21 | 22 | 23 | 24 | 25 | 26 | 27 | 28 | 29 | 30 | 31 | 32 | jx+33=>exact Q16.pure _
     case heads =>
      simp only [List.take_succ_cons,List.take_zero];refine⟨?_,?_,?_,?_,?_,?_,?_,?_,?_,?_,?_,?_,?_,?_,?_,?_,?_,?_,?_,?_,?_,?_,?_,?_,?_,?_,?_,?_,?_,?_,?_,?_,?_,trivial⟩;all_goals intro a W hb hkp hd
      ·have e0:a.tmps[0]?.getD undef=.slice (some ⟨q,o0,none⟩) n c:=hkp.get (by kernel_rfl) rfl;exact Q00 rfl _ (by go_simp) rfl
      ·have e0:a.tmps[3]?.getD undef=.int .i64 (i:Int):=hkp.get (by kernel_rfl) rfl;exact Q00 rfl _ (by go_simp) rfl
      ·have e0:(_:Value)=.slice (some ⟨q,o0,none⟩) n c:=(hd 0 (by kernel_rfl)).get 18 rfl rfl;have e1:(_:Value)=.int .i64 (i:Int):=(hd 1 (by kernel_rfl)).get 19 rfl rfl;have hlt:=HIN.out;exact Q00 rfl _ (by go_simp) rfl
      ·have e0:(_:Value)=.pointer (some ⟨q,o0+i*2,none⟩):=(hd 2 (by kernel_rfl)).get 20 rfl rfl;have e0':a.eval (.tmp 20)=.pointer (some ⟨q,o0+i*2,none⟩):=by simpa [Act.eval] using e0
       exact Q00 rfl (.agg C) (Q0T 77 (.tmp 20) rfl ⟨q,o0+i*2,none⟩ 2 e0' C _ Tryz.underlying77 rfl rfl HCS.out (HCV.out W hb)) rfl
      ·have e0:(_:Value)=.agg C:=(hd 3 (by kernel_rfl)).get 21 rfl rfl;have e1:(_:Value)=.agg C:=(hd 3 (by kernel_rfl)).get 21 rfl rfl;exact Q0w rfl 136 #[.agg C] (by go_simp) ((HCK.out W hb).mono fun e w h=>⟨_,h.1,h.2,rfl⟩)
      ·have e0:(_:Value)=.int .i64 110:=(hd 4 (by kernel_rfl)).get 22 rfl rfl;exact Q00 rfl _ (by go_simp) rfl
      ·have e0:(_:Value)=.bool true:=(hd 5 (by kernel_rfl)).get 23 rfl rfl;exact Q00 rfl _ (by go_simp) rfl
      iterate 10 ·have eg:(_:Value)=.bool true:=(hd 6 (by kernel_rfl)).get 24 rfl rfl;exact Q1F (Q0Z rfl rfl eg rfl) rfl
      ·have e0:(_:Value)=.bool true:=(hd 6 (by kernel_rfl)).get 24 rfl rfl;have e1:(_:Value)=undef:=(hd 16 (by kernel_rfl)).get 34 rfl rfl;exact Q00 rfl _ (by go_simp) rfl
      ·have e0:(_:Value)=.bool true:=(hd 17 (by kernel_rfl)).get 35 rfl rfl;exact Q00 rfl _ (by go_simp) rfl
      iterate 14 ·have eg:(_:Value)=.bool true:=(hd 18 (by kernel_rfl)).get 36 rfl rfl;exact Q1F (Q0Z rfl rfl eg rfl) rfl
     intro f W hbW hd;have f36:f 36=.bool true:=hd 18 (by omega) _ 36 rfl rfl;have HLW:=Lib.hid (HLO.out.trans (hbW.mono HLO.out.size));clear hd hbW;simp only [Q0H,List.drop_succ_cons,List.drop_zero,f36];try simp only [Act.put,sA1,sA2,sA3]
     go_wp2_with fail
     go_ret
     exact⟨rfl,HLW.out⟩
   ·obtain rfl:i=n:=by omega
    have hr2:res=Q7j cs:=by rw [hr,List.drop_of_length_le (by have:=HLEN.out; omega)]; rfl
    have hinI:¬ (i:Int)<(i:Int):=by omega
    obtain⟨c00,hc00,hok0⟩:=hc0 (by have:=HB1.out; omega);have hlen:=HLEN.out;have hb1:=HB1.out;by_cases hn1:i=1
    ·have hrt:res=true:=by rw [hr2]; unfold Q7j; rw [decide_eq_true (by omega)]; rfl
     subst hrt;have HN1:=Lib.hid (show ((i:Int) == 1)=true by rw [hn1]; rfl);clear hr hr2 hn1 hc0 hc00 hok0 hlen hb1 hlow;go_upto_region 8 with fail
     refine Q0l 14 66 (fun jx W v=>match jx with | 0=>v=.slice (some ⟨q,o0,none⟩) i c | 1=>v=.int .i64 (i:Int) | 2=>v=.bool true | 3=>v=.bool true | 4=>v=undef | 5=>v=undef | 6=>v=undef | 7=>v=undef | 8=>v=undef | 9=>v=undef | 10=>v=undef | 11=>v=undef | 12=>v=undef | 13=>v=.bool true | _=>True) [52,53,54,55,56,57,58,59,60,61,62,63,64,65] (by kernel_rfl) (by kernel_rfl) (by kernel_rfl) (by first | rfl | simp) (by kernel_rfl) (fun jx=>?last) ?heads ?_
     case last =>
      match jx with
      | 0 | 1 | 2 | 3 | 4 | 5 | 6 | 7 | 8 | 9 | 10 | 11 | 12 | 13 | jx+14=>exact Q16.pure _
     case heads =>
      simp only [List.take_succ_cons,List.take_zero];refine⟨?_,?_,?_,?_,?_,?_,?_,?_,?_,?_,?_,?_,?_,?_,trivial⟩;all_goals intro a W hb hkp hd
      ·have e0:a.tmps[0]?.getD undef=.slice (some ⟨q,o0,none⟩) i c:=hkp.get (by kernel_rfl) rfl;exact Q00 rfl _ (by go_simp) rfl
      ·have e0:(_:Value)=.slice (some ⟨q,o0,none⟩) i c:=(hd 0 (by kernel_rfl)).get 52 rfl rfl;exact Q00 rfl _ (by go_simp) rfl
      ·have e0:(_:Value)=.int .i64 (i:Int):=(hd 1 (by kernel_rfl)).get 53 rfl rfl;have hne:=HN1.out;exact Q00 rfl _ (by go_simp) rfl
      ·have e0:(_:Value)=.bool true:=(hd 2 (by kernel_rfl)).get 54 rfl rfl;exact Q00 rfl _ (by go_simp) rfl
      iterate 9 ·have eg:(_:Value)=.bool true:=(hd 3 (by kernel_rfl)).get 55 rfl rfl;exact Q1F (Q0Z rfl rfl eg rfl) rfl
      ·have e0:(_:Value)=.bool true:=(hd 3 (by kernel_rfl)).get 55 rfl rfl;have e1:(_:Value)=undef:=(hd 12 (by kernel_rfl)).get 64 rfl rfl;exact Q00 rfl _ (by go_simp) rfl
     intro f W hbW hd;have f51:f 65=.bool true:=hd 13 (by omega) _ 65 rfl rfl;have HLW:=Lib.hid (HLO.out.trans (hbW.mono HLO.out.size));clear hd hbW;simp only [Q0H,List.drop_succ_cons,List.drop_zero,f51];try simp only [Act.put,sA1,sA2,sA3]
     go_wp2_with fail
     go_ret
     exact⟨rfl,HLW.out⟩
    ·have hi2:i=2:=by omega
     have h0l:0<cs.length:=by omega
     have h1l:1<cs.length:=by omega
     obtain⟨q',o',A0,c0,C0,hq',hC0,hql,hcv,hrd,hnl⟩:=Q1s HCA.out h0l;obtain⟨q2,o2,A1,c1,C1,hq2,hC1,hql1,hcv1,hrd1,hnl1⟩:=Q1s HCA.out h1l;obtain⟨rfl,rfl⟩:q=q'/\o0=o':=by injection hq' with e; injection e with e1 e2; exact⟨e1,e2⟩
     obtain⟨rfl,rfl⟩:q=q2/\o0=o2:=by injection hq2 with e; injection e with e1 e2; exact⟨e1,e2⟩
     have he0:cs[0]=c00:=by rw [List.getElem?_eq_getElem h0l] at hc00; exact Option.some.inj hc00
     have hg:=Q2t hok0;rw [he0] at hC0 hrd hnl;have hf0n:((c00.1.toNat:Nat):Int)=c00.1:=by omega
     obtain⟨n1,hn1e⟩:∃ k,k=cs[1].2.length:=⟨_,rfl⟩;rw [<- hn1e] at hC1 hcv1 hrd1 hnl1;have HVT:=Lib.hid (fun(W:World) (hb:Below wr.heap.size wr W)=>Qat c00.1.toNat A0 c00.2.length c0 c00.2 A1 n1 c1 cs[1].2 W wr.heap.size (hrd.below hb) hb.size hg.1 (hrd1.below hb) hnl1);rw [hf0n,<- hC0] at HVT;obtain⟨vt,hv⟩:∃ v,v=Q37 c00.2 cs[1].2:=⟨_,rfl⟩;rw [<- hv] at HVT;have HCS:=Lib.hid (show C0.size=2 by rw [hC0]; rfl);have HCV:=Lib.hid (show ∀ (W:World),Below wr.heap.size wr W->∀ (j:Nat) (v:Value),C0[j]?=some v->W.cell? ((⟨q,o0,none⟩:Addr).add j)=some v from fun W hb=>by have:=(hcv W hb).2.2; simpa using this);have CN:=Lib.hid (show ∀ (W:World),Below wr.heap.size wr W->W.cell? ⟨q,o0+3,none⟩=some (.slice A1 n1 c1) from fun W hb=>by have:=(hcv1 W hb).2.1; simpa using this);have HN1:=Lib.hid (show ((i:Int) == 1)=false by rw [hi2]; rfl);have HNN:=Lib.hid (show (1:Int)<(i:Int) by omega);obtain⟨b,hb⟩:∃ b,b=((vt:Int) == 0):=⟨_,rfl⟩;have HLE:=Lib.hid hb.symm;have hrb:res=b:=by
      rw [hr2,hb,hv];unfold Q7j;have e0:(cs.headD (0,[])).2=c00.2:=by
       rw [<- he0];cases cs with
       | nil=>simp at h0l
       | cons a t=>rfl
      have e1:cs.getD 1 (0,[])=cs[1]:=by rw [List.getD_eq_getElem?_getD,List.getElem?_eq_getElem h1l]; rfl
      rw [decide_eq_false (by omega),Bool.false_or,e0,e1];by_cases hz:Q37 c00.2 cs[1].2=0
      ·rw [decide_eq_true hz,hz]; rfl
      ·rw [decide_eq_false hz]; symm; simpa using hz
     subst hrb;clear hr hr2 hn1 hc0 hc00 hok0 hlen hb1 hlow hi2 h0l h1l hq' hq2 hC0 hC1 hcv hcv1 hrd hrd1 hnl hnl1 he0 hg hf0n hn1e hv hb;go_upto_region 8 with fail
     refine Q0l 14 66 (fun jx W v=>match jx with | 0=>v=.slice (some ⟨q,o0,none⟩) i c | 1=>v=.int .i64 (i:Int) | 2=>v=.bool false | 3=>v=.bool false | 4=>v=.slice (some ⟨q,o0,none⟩) i c | 5=>v=.pointer (some ⟨q,o0,none⟩) | 6=>v=.agg C0 | 7=>v=.slice (some ⟨q,o0,none⟩) i c | 8=>v=.pointer (some ⟨q,o0+2,none⟩) | 9=>v=.pointer (some ⟨q,o0+3,none⟩) | 10=>v=.slice A1 n1 c1 | 11=>v=.int .i64 (vt:Int) | 12=>v=.bool res | 13=>v=.bool res | _=>True) [52,53,54,55,56,57,58,59,60,61,62,63,64,65] (by kernel_rfl) (by kernel_rfl) (by kernel_rfl) (by first | rfl | simp) (by kernel_rfl) (fun jx=>?last) ?heads ?_
     case last =>
      match jx with
      | 0 | 1 | 2 | 3 | 4 | 5 | 6 | 7 | 8 | 9 | 10 | 11 | 12 | 13 | jx+14=>exact Q16.pure _
     case heads =>
      simp only [List.take_succ_cons,List.take_zero];refine⟨?_,?_,?_,?_,?_,?_,?_,?_,?_,?_,?_,?_,?_,?_,trivial⟩;all_goals intro a W hb hkp hd
      ·have e0:a.tmps[0]?.getD undef=.slice (some ⟨q,o0,none⟩) i c:=hkp.get (by kernel_rfl) rfl;exact Q00 rfl _ (by go_simp) rfl
      ·have e0:(_:Value)=.slice (some ⟨q,o0,none⟩) i c:=(hd 0 (by kernel_rfl)).get 52 rfl rfl;exact Q00 rfl _ (by go_simp) rfl
      ·have e0:(_:Value)=.int .i64 (i:Int):=(hd 1 (by kernel_rfl)).get 53 rfl rfl;have hne:=HN1.out;exact Q00 rfl _ (by go_simp) rfl
      ·have e0:(_:Value)=.bool false:=(hd 2 (by kernel_rfl)).get 54 rfl rfl;exact Q00 rfl _ (by go_simp) rfl
      ·have eg:(_:Value)=.bool false:=(hd 3 (by kernel_rfl)).get 55 rfl rfl;have e0:a.tmps[0]?.getD undef=.slice (some ⟨q,o0,none⟩) i c:=hkp.get (by kernel_rfl) rfl;exact Q00 (Q04 rfl rfl eg) _ (by go_simp) rfl
      ·have eg:(_:Value)=.bool false:=(hd 3 (by kernel_rfl)).get 55 rfl rfl;have e0:(_:Value)=.slice (some ⟨q,o0,none⟩) i c:=(hd 4 (by kernel_rfl)).get 56 rfl rfl;have hlt:=HN0.out;exact Q00 (Q04 rfl rfl eg) (.pointer (some ⟨q,o0,none⟩)) (by go_simp; try (intro e0; omega)) rfl
      ·have eg:(_:Value)=.bool false:=(hd 3 (by kernel_rfl)).get 55 rfl rfl;have eg:(_:Value)=.bool false:=(hd 3 (by kernel_rfl)).get 55 rfl rfl;have e0:(_:Value)=.pointer (some ⟨q,o0,none⟩):=(hd 5 (by kernel_rfl)).get 57 rfl rfl;have e0':a.eval (.tmp 57)=.pointer (some ⟨q,o0,none⟩):=by simpa [Act.eval] using e0
       exact Q00 (Q04 rfl rfl eg) (.agg C0) (Q0T 77 (.tmp 57) rfl ⟨q,o0,none⟩ 2 e0' C0 _ Tryz.underlying77 rfl rfl HCS.out (HCV.out W hb)) rfl
      ·have eg:(_:Value)=.bool false:=(hd 3 (by kernel_rfl)).get 55 rfl rfl;have e0:a.tmps[0]?.getD undef=.slice (some ⟨q,o0,none⟩) i c:=hkp.get (by kernel_rfl) rfl;exact Q00 (Q04 rfl rfl eg) _ (by go_simp) rfl
      ·have eg:(_:Value)=.bool false:=(hd 3 (by kernel_rfl)).get 55 rfl rfl;have e0:(_:Value)=.slice (some ⟨q,o0,none⟩) i c:=(hd 7 (by kernel_rfl)).get 59 rfl rfl;have hlt:=HNN.out;exact Q00 (Q04 rfl rfl eg) _ (by go_simp) rfl
      ·have eg:(_:Value)=.bool false:=(hd 3 (by kernel_rfl)).get 55 rfl rfl;have e0:(_:Value)=.pointer (some ⟨q,o0+2,none⟩):=(hd 8 (by kernel_rfl)).get 60 rfl rfl;exact Q00 (Q04 rfl rfl eg) _ (by go_simp) rfl
      ·have eg:(_:Value)=.bool false:=(hd 3 (by kernel_rfl)).get 55 rfl rfl;have e0:(_:Value)=.pointer (some ⟨q,o0+3,none⟩):=(hd 9 (by kernel_rfl)).get 61 rfl rfl;have cc:=CN.out W hb;exact Q00 (Q04 rfl rfl eg) _ (by go_simp) rfl
      ·have eg:(_:Value)=.bool false:=(hd 3 (by kernel_rfl)).get 55 rfl rfl;have e0:(_:Value)=.agg C0:=(hd 6 (by kernel_rfl)).get 58 rfl rfl;have e1:(_:Value)=.slice A1 n1 c1:=(hd 10 (by kernel_rfl)).get 62 rfl rfl;have eg:(_:Value)=.bool false:=(hd 3 (by kernel_rfl)).get 55 rfl rfl;have e1:(_:Value)=.agg C0:=(hd 6 (by kernel_rfl)).get 58 rfl rfl;have e2:(_:Value)=.slice A1 n1 c1:=(hd 10 (by kernel_rfl)).get 62 rfl rfl;exact Q0w (Q04 rfl rfl eg) 137 #[.agg C0,.slice A1 n1 c1] (by go_simp) ((HVT.out W hb).mono fun e w h=>⟨_,h.1,h.2,rfl⟩)
      ·have eg:(_:Value)=.bool false:=(hd 3 (by kernel_rfl)).get 55 rfl rfl;have e0:(_:Value)=.int .i64 (vt:Int):=(hd 11 (by kernel_rfl)).get 63 rfl rfl;have hle:=HLE.out;exact Q00 (Q04 rfl rfl eg) _ (by go_simp) rfl
      ·have e0:(_:Value)=.bool false:=(hd 3 (by kernel_rfl)).get 55 rfl rfl;have e1:(_:Value)=.bool res:=(hd 12 (by kernel_rfl)).get 64 rfl rfl;exact Q00 rfl _ (by go_simp) rfl
     intro f W hbW hd;have f51:f 65=.bool res:=hd 13 (by omega) _ 65 rfl rfl;have HLW:=Lib.hid (HLO.out.trans (hbW.mono HLO.out.size));clear hd hbW;simp only [Q0H,List.drop_succ_cons,List.drop_zero,f51];try simp only [Act.put,sA1,sA2,sA3]
     go_wp2_with fail
     go_ret
     exact⟨rfl,HLW.out⟩
 ·have hrf:res=false:=by rw [hres]; unfold Q1S; rw [decide_eq_false (by omega),Bool.false_and]
  subst hrf;clear hres;by_cases h1:n<1
  ·have h1I:(n:Int)<1:=by omega
   clear h hlen hb1;go_enter Tryz.func90,Tryz.ntmps90
   go_wp2_with fail
   go_ret
   exact⟨rfl,Below.refl _ _⟩
  ·have h1I:¬ (n:Int)<1:=by omega
   have h2I:(2:Int)<(n:Int):=by omega
   clear h hlen hb1;go_enter Tryz.func90,Tryz.ntmps90
   go_wp2_with fail
   go_ret
   exact⟨rfl,Below.refl _ _⟩
end
section
open Go.RowKit Go.Maps
attribute [local irreducible] wpList Q0i
def upd {α:Type} (f:Nat->α) (c:Nat) (a:α):Nat->α:=fun i=>if i=c then a else f i
theorem Q1i {α:Type} (f:Nat->α) (c:Nat) (a:α):upd f c a c=a:=if_pos rfl
theorem Q1f {α:Type} (f:Nat->α) (c:Nat) (a:α) {i:Nat} (h:i≠c):upd f c a i=f i:=if_neg h
def mvS (S:ASl) (c:Nat) (arr:Array Value) (nA:Option Addr) (nC:Nat) (mA:Option Addr) (mC:Nat):ASl :=
 { S with arr:=arr,nA:=upd S.nA c nA,nC:=upd S.nC c nC,mA:=upd S.mA c mA,mC:=upd S.mC c mC }
def mvQ (m:AM) (c:Nat) (s:Srv) (o z:Int):AM:=⟨m.chunks.set c (Q41 s o z),m.last⟩
theorem Q6L {m:AM} {c:Nat} {s:Srv} {o z:Int} {i:Nat} {q:Srv} (h:(mvQ m c s o z).chunks[i]?=some q) (hc:c<m.chunks.length):(i=c/\q=Q41 s o z)\/(i≠c/\m.chunks[i]?=some q):=by
 unfold mvQ at h;simp only [List.getElem?_set] at h;by_cases e:c=i
 ·subst e;rw [if_pos rfl,if_pos hc] at h;exact .inl ⟨rfl,(Option.some.inj h).symm⟩
 ·rw [if_neg e] at h;exact .inr ⟨fun q=>e q.symm,h⟩
theorem Q7P (s:Srv) (o z:Int):(Q41 s o z).now=Q1N s.now o z:=Q3O s.first s.moves o z
theorem aCs_mv (t:Option Addr) (gc:Nat) (m:AM) (S:ASl) (c:Nat) (s:Srv) (o z:Int) (arr:Array Value) (nA:Option Addr) (nC:Nat) (mA:Option Addr) (mC:Nat):aCs t gc (mvQ m c s o z) (mvS S c arr nA nC mA mC)=aCs t gc m S:=by
 unfold aCs;congr 1
 funext j
 unfold aF;split
 ·rfl
 ·split
  ·show Value.slice (some ⟨gc,0,none⟩) (m.chunks.set c _).length S.cap=_;rw [List.length_set]
  ·rfl
def MvC (S:ASl) (c b:Nat):Prop:=∃ a,S.mA c=some a/\a.block=b
theorem ADat.moved {w w':World} {g gc c:Nat} {t:Option Addr} {N:Nat->Prop} {m:AM} {S:ASl} {s:Srv} {o z:Int} (h:ADat w g gc t N m S) (hs:m.chunks[c]?=some s) (hN:∀ b,N b->b<w.heap.size) (hg:g≠gc)
 (ho0:Only (fun b=>b=gc\/MvC S c b) w w') {arr:Array Value} (hb:Blk w' gc 173 arr) (hsz:arr.size=S.cap*5)
 {nA:Option Addr} {nC:Nat} {mA:Option Addr} {mC:Nat}
 (h0:∀ i j,i<m.chunks.length->i≠c->j<5->arr[i*5+j]?=S.arr[i*5+j]?)
 (h1:∀ j,j<2->arr[c*5+j]?=S.arr[c*5+j]?) (h2:arr[c*5+2]?=some (.int .i64 (s.f:Int))) (h3:arr[c*5+3]?=some (.slice nA (Q1N s.now o z).length nC)) (h4:arr[c*5+4]?=some (.slice mA (s.moves.length+1) mC))
 (hn:OwnN w' w.heap.size (.slice nA (Q1N s.now o z).length nC) (Q1N s.now o z))
 (hm:w'.ownsRow 0 175 2 (.slice mA (s.moves.length+1) mC) (s.moves.length+1) (Q0F (s.moves++[(o,z)])))
 (hmb:∀ a,mA=some a->S.mA c=some ⟨a.block,0,none⟩\/w.heap.size<=a.block) (hok:COk (m.chunks.set c (Q41 s o z))) :
 ADat w' g gc t N (mvQ m c s o z) (mvS S c arr nA nC mA mC):=by
 have hcl:c<m.chunks.length:=(List.getElem?_eq_some_iff.1 hs).1;have hlen:(mvQ m c s o z).chunks.length=m.chunks.length:=by unfold mvQ; simp
 have hlt:=h.lt;have ho:Only (fun b=>b=gc\/IsMv S m.chunks.length b) w w':=ho0.mono fun b _ e=>by
  rcases e with e | ⟨a,e1,e2⟩
  ·exact .inl e
  ·exact .inr ⟨c,a,hcl,e1,e2⟩
 have hgN:¬ (g=gc\/IsMv S m.chunks.length g):=fun e=>by
  rcases e with e | e
  ·exact hg e
  ·exact h.mvN g e h.gN.1
 have hmv:∀ b,IsMv (mvS S c arr nA nC mA mC) (mvQ m c s o z).chunks.length b->IsMv S m.chunks.length b\/w.heap.size<=b:=fun b hb=>by
  obtain⟨i,a,hi,ha,rfl⟩:=hb;rw [hlen] at hi;have ha':upd S.mA c mA i=some a:=ha;by_cases e:i=c
  ·subst e;rw [Q1i] at ha';rcases hmb a ha' with e2 | e2
   ·exact .inl ⟨i,_,hi,e2,rfl⟩
   ·exact .inr e2
  ·rw [Q1f _ _ _ e] at ha';exact .inl ⟨i,a,hi,ha',rfl⟩
 have hfar:∀ {A:Option Addr} {C:Nat} {xs:List Int},FarN w (fun b=>N b\/IsMv S m.chunks.length b) A C xs->FarN w' (fun b=>N b\/IsMv (mvS S c arr nA nC mA mC) (mvQ m c s o z).chunks.length b) A C xs:=fun {A C xs} hf=>by
  have h1:=hf.only ho (fun b hb=>by
   rcases hb with e | e
   ·exact .inl (e▸h.gN.2)
   ·exact .inr e)
  refine⟨h1.rd,h1.cap,fun a h0 ha hb=>?_⟩;obtain⟨ad,e,hbl,_⟩:=hf.rd.2 h0;rw [ha] at e;injection e with e
  subst e;rcases hb with hb | hb
  ·exact hf.far a h0 ha (.inl hb)
  ·rcases hmv _ hb with e | e
   ·exact hf.far a h0 ha (.inr e)
   ·omega
 refine⟨?_,hb,⟨hsz,by rw [hlen]; exact h.cap.2.1,h.cap.2.2⟩,?_,?_,?_,?_,?_,?_,?_,h.gN,?_⟩
 ·rw [aCs_mv];exact(ho.block g hlt.1 hgN).trans h.blk
 ·intro i q hq j hj;rcases Q6L hq hcl with⟨rfl,rfl⟩ | ⟨hne,hq⟩
  ·have e:srvC (Q41 s o z) (mvS S i arr nA nC mA mC) i=#[.int .i64 (s.f:Int),.slice (S.fA i) s.first.length (S.fC i),.int .i64 (s.f:Int),.slice nA (Q1N s.now o z).length nC,.slice mA (s.moves.length+1) mC]:=by
    unfold srvC;rw [Q7P];show #[_,_,_,Value.slice (upd S.nA i nA i) _ (upd S.nC i nC i),Value.slice (upd S.mA i mA i) (s.moves++[(o,z)]).length (upd S.mC i mC i)]=_;rw [Q1i,Q1i,Q1i,Q1i,List.length_append];rfl
   rw [e];have hq0:=h.srv i s hs;obtain rfl | rfl | rfl | rfl | rfl:j=0\/j=1\/j=2\/j=3\/j=4:=by omega
   ·exact(h1 0 (by omega)).trans (hq0 0 (by omega))
   ·exact(h1 1 (by omega)).trans (hq0 1 (by omega))
   ·exact h2
   ·exact h3
   ·exact h4
  ·have hil:i<m.chunks.length:=(List.getElem?_eq_some_iff.1 hq).1;have e:srvC q (mvS S c arr nA nC mA mC) i=srvC q S i:=by
    unfold srvC;show #[_,_,_,Value.slice (upd S.nA c nA i) _ (upd S.nC c nC i),Value.slice (upd S.mA c mA i) _ (upd S.mC c mC i)]=_;rw [Q1f _ _ _ hne,Q1f _ _ _ hne,Q1f _ _ _ hne,Q1f _ _ _ hne];rfl
   rw [e];exact(h0 i j hil hne hj).trans (h.srv i q hq j hj)
 ·intro i q hq;rcases Q6L hq hcl with⟨rfl,rfl⟩ | ⟨hne,hq⟩
  ·exact hfar (h.first i s hs)
  ·exact hfar (h.first i q hq)
 ·intro i q hq;rcases Q6L hq hcl with⟨rfl,rfl⟩ | ⟨hne,hq⟩
  ·rw [Q7P];show FarN w' _ (upd S.nA i nA i) (upd S.nC i nC i) _;rw [Q1i,Q1i];obtain⟨A',c',e,q1,q2,q3,q4⟩:=Q0v hn;injection e with e1 _ e2
   subst e1 e2;refine⟨q3,⟨q1,q2⟩,fun a h0 ha hb=>?_⟩;have hge:=q4 a ha;rcases hb with hb | hb
   ·have:=hN _ hb; omega
   ·obtain⟨i',a',hi',ha',hbb⟩:=hb;have ha2:upd S.mA i mA i'=some a':=ha';have hmi:∃ cs,Blk w' a'.block 175 cs:=by
     by_cases e:i'=i
     ·subst e;rw [Q1i] at ha2;rcases hm.2 with⟨e1,_⟩ | ⟨g',cap',cur',e1,_,e3,_⟩
      ·injection e1 with e1; rw [ha2] at e1; cases e1
      ·injection e1 with e1
       rw [ha2] at e1;injection e1 with e1
       rw [e1];exact⟨_,e3⟩
     ·rw [Q1f _ _ _ e] at ha2;have hi2:i'<m.chunks.length:=by rw [hlen] at hi'; exact hi'
      have:=h.mlt (b:=a'.block) ⟨i',a',hi2,ha2,rfl⟩;omega
    obtain⟨cs,hcs⟩:=hmi;exact Q8I hn hcs (by decide) a ha hbb.symm
  ·show FarN w' _ (upd S.nA c nA i) (upd S.nC c nC i) _;rw [Q1f _ _ _ hne,Q1f _ _ _ hne];exact hfar (h.now i q hq)
 ·intro i hi;exact hfar (h.nodes i hi)
 ·intro i q hq;rcases Q6L hq hcl with⟨rfl,rfl⟩ | ⟨hne,hq⟩
  ·show w'.ownsRow 0 _ 2 (.slice (upd S.mA i mA i) (s.moves++[(o,z)]).length (upd S.mC i mC i)) (s.moves++[(o,z)]).length (Q0F (s.moves++[(o,z)]));rw [Q1i,Q1i,List.length_append];exact hm
  ·show w'.ownsRow 0 _ 2 (.slice (upd S.mA c mA i) q.moves.length (upd S.mC c mC i)) q.moves.length (Q0F q.moves);rw [Q1f _ _ _ hne,Q1f _ _ _ hne];have hil:i<m.chunks.length:=(List.getElem?_eq_some_iff.1 hq).1;refine Q0f (h.mv i q hq) fun b hb=>ho0.block b (Q0a (h.mv i q hq) hb).2 fun e=>?_
   rcases(h.mv i q hq).2 with⟨e1,_⟩ | ⟨g',cap',cur',e1,_,e3,_⟩
   ·rw [e1] at hb; cases hb
   ·have hmi:S.mA i=some ⟨g',0,none⟩:=by injection e1
    rw [e1] at hb;have hbb:b=g':=by simpa [Value.ownBlock] using hb.symm
    subst hbb;rcases e with e | ⟨a,e4,e5⟩
    ·have hB:Blk w b 175 cur':=e3;exact Blk.ne_ hB h.row (by decide) e
    ·exact h.mvap i c ⟨b,0,none⟩ a hil hcl hne hmi e4 e5.symm
 ·intro b hb hn';rcases hmv b hb with e | e
  ·exact h.mvN b e hn'
  ·have:=hN b hn'; omega
 ·intro i j a b hi hj hne ha hb';rw [hlen] at hi hj;have ha2:upd S.mA c mA i=some a:=ha;have hb2:upd S.mA c mA j=some b:=hb';by_cases e1:i=c
  ·subst e1;rw [Q1i] at ha2;rw [Q1f _ _ _ (fun e=>hne e.symm)] at hb2;rcases hmb a ha2 with q | q
   ·exact h.mvap i j ⟨a.block,0,none⟩ b hi hj hne q hb2
   ·have:=h.mlt (b:=b.block) ⟨j,b,hj,hb2,rfl⟩;omega
  ·rw [Q1f _ _ _ e1] at ha2;by_cases e2:j=c
   ·subst e2;rw [Q1i] at hb2;rcases hmb b hb2 with q | q
    ·exact h.mvap i j a ⟨b.block,0,none⟩ hi hj hne ha2 q
    ·have:=h.mlt (b:=a.block) ⟨i,a,hi,ha2,rfl⟩;omega
   ·rw [Q1f _ _ _ e2] at hb2;exact h.mvap i j a b hi hj hne ha2 hb2
 ·have hk:=h.ok;exact⟨hok.one,hok.srv,hok.same,hok.apart,hok.high,hk.last,hk.ans⟩
end
end Go.Proofs.YtcpngeiahgoacaaGreat
