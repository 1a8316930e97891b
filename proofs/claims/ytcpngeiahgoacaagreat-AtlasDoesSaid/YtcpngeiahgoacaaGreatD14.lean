/- Parts of the proof, in one text: AtJ, CrI, AtK, CrT. -/
import Derived.Test.YtcpngeiahgoacaaGreatD13
import Derived.Test.YtcpngeiahgoacaaGreatD12
import Derived.Deep.DeepCutAuto
namespace Go.Proofs.YtcpngeiahgoacaaGreat
set_option linter.unusedVariables false
set_option linter.unusedSimpArgs false
set_option maxRecDepth 100000
set_option maxHeartbeats 16000000
section
open Go.RowKit Go.Maps
attribute [local irreducible] wpList Q0i
structure Q2p (w:World) (A:Option Addr) (n:Nat) (cs:List (Int×List Int)):Prop where
 len:cs.length=n
 row:0<n->∃ q cur,A=some ⟨q,0,none⟩/\Blk w q 77 cur/\∀ i f l,cs[i]?=some (f,l)->∃ Ai ci,cur[i*2]?=some (.int .i64 f)/\cur[i*2+1]?=some (.slice Ai l.length ci)/\Q0d w w.heap.size 1 Ai l.length (l.map vn)/\l.length<=17592186044416
theorem Q2p.below {w w':World} {A:Option Addr} {n:Nat} {cs:List (Int×List Int)} (h:Q2p w A n cs) (hb:Below w.heap.size w w'):Q2p w' A n cs :=
 ⟨h.len,fun h0=>by
  obtain⟨q,cur,h1,h2,h3⟩:=h.row h0;refine⟨q,cur,h1,h2.below' hb,fun i f l hi=>?_⟩;obtain⟨Ai,ci,q1,q2,q3,q4⟩:=h3 i f l hi;exact⟨Ai,ci,q1,q2,(q3.below hb).more hb.size,q4⟩⟩
def Q9w (w:World) (cs:List (Int×List Int)) (e:Ending) (w':World):Prop :=
 Below w.heap.size w w'/\(Q2w cs=none->e=.returned (.pointer none))/\(∀ acc,Q2w cs=some acc->∃ g v nA nC,e=.returned (.pointer (some ⟨g,0,none⟩))/\Q3J w' g w.heap.size acc v nA nC)
theorem CPre.cok {f0:Int} {acc:List Srv} (h:CPre f0 acc) (h1:1<=acc.length) (h2:acc.length<=2):COk acc:=by
 refine⟨⟨h1,h2⟩,fun s hs=>(h.srv s hs).1,?_,h.apart,h.high⟩;exact⟨f0.toNat,fun s hs=>by have:=(h.srv s hs).2.1; omega⟩
theorem Q3s {acc:List Srv} {f0 f:Int} {l:List Int} {t:List (Int×List Int)} (h:¬ (okCB f l=true/\f=f0/\l.any (Q18 acc f.toNat)=false)):Q1M acc f0 ((f,l) :: t)=none:=by
 unfold Q1M;rw [if_neg];rintro ⟨h1,h2,h3⟩;exact h ⟨by unfold okCB; rw [decide_eq_true ⟨h1.1,h1.2.1,h1.2.2.1⟩,h1.2.2.2]; rfl,h2,h3⟩
theorem Q4s {acc:List Srv} {f0 f:Int} {l:List Int} {t:List (Int×List Int)} (h1:okCB f l=true) (h2:f=f0) (h3:l.any (Q18 acc f.toNat)=false):Q1M acc f0 ((f,l) :: t)=Q1M (acc++[⟨f.toNat,l,[]⟩]) f0 t:=by
 rw [Q1M,if_pos];unfold okCB at h1;rw [Bool.and_eq_true] at h1;have h4:=of_decide_eq_true h1.1;exact⟨⟨h4.1,h4.2.1,h4.2.2,h1.2⟩,h2,h3⟩
theorem Q3J.turned_crew {w w':World} {g g5 B:Nat} {acc:List Srv} {v:Value} {nA:Nat->Option Addr} {nC:Nat->Nat} {cs:Array Value} (h:Q3J w g B acc v nA nC) (ht:Q0c g5 w w') (hb:Blk w g5 77 cs) (hg:g5≠g):Q3J w' g B acc v nA nC :=
 ⟨(ht.block g (fun e=>hg e.symm)).trans h.blk,Q0f h.row (fun b hb'=>ht.block b (fun e=>Q09 h.row hb (by decide) (e▸hb'))),fun i s hs=>(h.nodes i s hs).keep_ fun b hb'=>ht.block b (fun e=>Q09 (h.nodes i s hs) hb (by decide) (e▸hb')),h.bare,h.gB,h.nil0⟩
theorem sv_info:(Tryz.prog.info? 173).map (fun i=>(i.zero,i.size,i.bytes))=some (some (.agg Q7k),5,88):=by kernel_rfl
theorem Q6b {a b c:World} {row:Option Nat} (h:a.grownBy b row) (hb:Below b.heap.size b c):a.grownBy c row:=⟨hb.os.trans h.os,hb.tape.trans h.tape,hb.output.trans h.output,Nat.le_trans h.size hb.size,fun i hi hn=>(hb.block i (Nat.lt_of_lt_of_le hi h.size)).trans (h.block i hi hn)⟩
theorem Q3J.push {w7 W:World} {g B:Nat} {acc:List Srv} {v v':Value} {nA:Nat->Option Addr} {nC:Nat->Nat} {f:Int} {l:List Int} {A6:Option Addr} {c6:Nat} (h:Q3J w7 g B acc v nA nC) (hg:w7.grownBy W v.ownBlock) (ho:OwnN w7 B (.slice A6 l.length c6) l)
 (hrow:W.ownsRow B 173 5 v' (acc.length+1) (Q1g nA nC 0 acc++[.int .i64 f,.slice A6 l.length c6,.int .i64 f,.slice A6 l.length c6,.slice none 0 0])) (hf:((f.toNat:Nat):Int)=f) :
 Q3J (W.setCell ⟨g,1,none⟩ v') g B (acc++[⟨f.toNat,l,[]⟩]) v' (fun k=>if k=acc.length then A6 else nA k) (fun k=>if k=acc.length then c6 else nC k):=by
 have hT:=Q0c.setCell W ⟨g,1,none⟩ v';have hbl:Blk W g 105 (bgC none v):=h.blk.grown hg (fun e=>Q09 h.row h.blk (by decide) e.symm);have hkeep:∀ {u:Value} {xs:List Int},OwnN w7 B u xs->OwnN (W.setCell ⟨g,1,none⟩ v') B u xs:=fun {u xs} hu=>by
  have h1:OwnN W B u xs:=hu.keep_ fun b hb=>hg.block b (Q0a hu hb).2 (fun e=>by
   rcases h.row.2 with⟨e1,_⟩ | ⟨gc,cap,cur,e1,_,e3,_⟩
   ·rw [e1] at e; cases e
   ·have hB:Blk w7 gc 173 cur:=e3;rw [e1] at e;have e':b=gc:=by simpa [Value.ownBlock] using e
    exact Q09 hu hB (by decide) (e'▸hb))
  exact h1.keep_ fun b hb=>hT.block b (fun e=>Q09 h1 hbl (by decide) (by have e':b=g:=e; rw [e'] at hb; exact hb))
 refine⟨?_,?_,?_,?_,h.gB,fun e=>by simp at e⟩
 ·have:=hbl.set_ 1 v';rw [bgC_set] at this;exact this
 ·have hr2:=Q0f hrow (w':=W.setCell ⟨g,1,none⟩ v') (fun b hb=>hT.block b (fun e=>Q09 hrow hbl (by decide) (by have e':b=g:=e; rw [e'] at hb; exact hb)));have e1:Q1g (fun k=>if k=acc.length then A6 else nA k) (fun k=>if k=acc.length then c6 else nC k) 0 (acc++[⟨f.toNat,l,[]⟩])=Q1g nA nC 0 acc++[.int .i64 f,.slice A6 l.length c6,.int .i64 f,.slice A6 l.length c6,.slice none 0 0]:=by
   rw [Q7a,Q65 _ nA _ nC acc 0 (fun k _ hk=>⟨if_neg (by omega),if_neg (by omega)⟩)];unfold Q5p;simp only [Nat.zero_add,if_true,hf]
  rw [e1,List.length_append];exact hr2
 ·intro i s hs;rcases Nat.lt_or_ge i acc.length with hi | hi
  ·rw [List.getElem?_append_left hi] at hs;rw [if_neg (by omega),if_neg (by omega)];exact hkeep (h.nodes i s hs)
  ·have hi2:i=acc.length:=by
    have:=(List.getElem?_eq_some_iff.1 hs).1;rw [List.length_append,List.length_singleton] at this; omega
   subst hi2;rw [List.getElem?_append_right (Nat.le_refl _),Nat.sub_self] at hs;obtain rfl:=Option.some.inj hs;simp only [if_true];exact hkeep ho
 ·intro s hs;rcases List.mem_append.1 hs with hs | hs
  ·exact h.bare s hs
  ·rw [List.mem_singleton.1 hs]
structure BgSt (w:World) (g:Nat) (cs:List (Int×List Int)) (f0:Int) (o:Option (List Srv)) (i:Nat) (wr:World):Prop where
 raw:∃ acc v nA nC,Q3J wr g w.heap.size acc v nA nC/\CPre f0 acc/\acc.length=i/\Q1M acc f0 (cs.drop i)=o
 low:Below w.heap.size w wr
theorem Qcr (A:Option Addr) (n c:Nat) (cs:List (Int×List Int)) (w:World) (h:Q2p w A n cs) (hn:n<=17592186044416) :
 Calls Tryz.prog 88 #[.slice A n c] w (Q9w w cs):=by
 have hl:=h.len;by_cases h1:n<1
 ·have hcs:cs=[]:=List.eq_nil_of_length_eq_zero (by omega);have hno:Q2w cs=none:=by rw [hcs]; rfl
  have HP:=Lib.hid (show ∀ w',Below w.heap.size w w'->Q9w w cs (.returned (.pointer none)) w' from fun w' hb=>⟨hb,fun _=>rfl,fun acc e=>by rw [hno] at e; cases e⟩);have h1I:(n:Int)<1:=by omega
  clear h hl hno;go_enter Tryz.func88,Tryz.ntmps88
  go_wp2_with fail
  go_ret
  exact HP.out _ (Below.refl _ _)
 ·by_cases h2:2<n
  ·have hno:Q2w cs=none:=by
    unfold Q2w;cases cs with
    | nil=>rfl
    | cons c0 t=>simp only; rw [if_neg (by omega)]
   have HP:=Lib.hid (show ∀ w',Below w.heap.size w w'->Q9w w cs (.returned (.pointer none)) w' from fun w' hb=>⟨hb,fun _=>rfl,fun acc e=>by rw [hno] at e; cases e⟩);have h1I:¬ (n:Int)<1:=by omega
   have h2I:(2:Int)<(n:Int):=by omega
   clear h hl hno;go_enter Tryz.func88,Tryz.ntmps88
   go_wp2_with fail
   go_ret
   exact HP.out _ (Below.refl _ _)
  ·obtain⟨q,cur,hA,hq,hcur⟩:=h.row (by omega);subst hA;obtain⟨f0,hf0⟩:∃ f0,f0=(cs.getD 0 (0,[])).1:=⟨_,rfl⟩;have hgo:Q2w cs=Q1M [] f0 cs:=by
    unfold Q2w;cases cs with
    | nil=>simp at hl; omega
    | cons c0 t=>simp only; rw [if_pos (by omega),hf0]; rfl
   have hc0:cur[0]?=some (.int .i64 f0):=by
    have h0:0<cs.length:=by omega
    obtain⟨fz,lz⟩:Int×List Int:=cs[0];obtain⟨p,hp⟩:∃ p,p=cs[0]:=⟨_,rfl⟩;obtain⟨fz,lz⟩:=p;obtain⟨Ai,ci,q1,_⟩:=hcur 0 fz lz (by rw [List.getElem?_eq_getElem h0,<- hp]);rw [hf0,List.getD_eq_getElem?_getD,List.getElem?_eq_getElem h0,<- hp];simpa using q1
   have HL:=Lib.hid hl;have HGO:=Lib.hid hgo;have HQ:=Lib.hid (fun(W:World) (hb:Below w.heap.size w W)=>hq.below' hb);have HCUR:=Lib.hid hcur;have HC0:=Lib.hid hc0;have HB0:=Lib.hid (Q07 w (.cells (bgC none (.slice none 0 0)) 105));have hzz:bgC none (.slice none 0 0)=#[.pointer none,.slice none 0 0,.int .i64 0,.int .i64 0,.slice none 0 0,.int .i64 0,.slice none 0 0,.int .i64 0,.int .i64 0,.slice none 0 0,.int .i64 0,.slice none 0 0,.int .i64 0,.int .i64 0,.slice none 0 0,.int .i64 0,.slice none 0 0,.int .i64 0,.int .i64 0,.slice none 0 0,.int .i64 0,.slice none 0 0]:=by kernel_rfl
   have HZZ:=Lib.hid hzz;obtain⟨g,hg⟩:∃ g,g=w.heap.size:=⟨_,rfl⟩;have hraw:Q3J (w.alloc (.cells (bgC none (.slice none 0 0)) 105)) g w.heap.size [] (.slice none 0 0) (fun _=>none) (fun _=>0) :=
    ⟨Blk.newAt hg,⟨by simp [Q1g],.inl ⟨rfl,rfl⟩⟩,fun i s hs=>(by simp at hs),fun s hs=>(by cases hs),by omega,fun _=>rfl⟩
   have HRAW:=Lib.hid hraw;have h1I:¬ (n:Int)<1:=by omega
   have h2I:¬ (2:Int)<(n:Int):=by omega
   have hql:=hq.lt;clear h hl hgo hq hcur hc0 hzz hraw;obtain⟨o,ho⟩:∃ o,o=Q2w cs:=⟨_,rfl⟩;rw [<- ho] at HGO;have HPN:=Lib.hid (show ∀ w',o=none->Below w.heap.size w w'->Q9w w cs (.returned (.pointer none)) w' from fun w' hn hb=>⟨hb,fun _=>rfl,fun acc e=>(by rw [<- ho,hn] at e; cases e)⟩);have HPS:=Lib.hid (show ∀ w' acc v nA nC,o=some acc->Q3J w' g w.heap.size acc v nA nC->Below w.heap.size w w'->Q9w w cs (.returned (.pointer (some ⟨g,0,none⟩))) w' from fun w' acc v nA nC hn hr hb=>⟨hb,fun e=>(by rw [<- ho,hn] at e; cases e),fun acc' e=>⟨g,v,nA,nC,rfl,by rw [<- ho,hn] at e; rw [<- Option.some.inj e]; exact hr⟩⟩);clear ho hf0;go_enter Tryz.func88,Tryz.ntmps88
   go_upto_region 4 with fail
   rw [<- HZZ.out];generalize World.alloc w _=w1 at HB0 HRAW ⊢;rw [<- hg];have hgw:w.heap.size<=g:=by omega
   clear hg HZZ;go_wp2_with fail
   go_loopw [20] (fun iv wr=>∃ i:Nat,i<=n/\iv=.int .i64 (i:Int)/\BgSt w g cs f0 o i wr) (fun iv _=>n - (intOf iv).toNat)
   case atStart=>exact⟨0,by omega,rfl,⟨⟨[],_,_,_,HRAW.out,CPre.nil _,rfl,by rw [HGO.out]; rfl⟩,HB0.out⟩⟩
   case round =>
    obtain⟨i,hi,rfl,hst⟩:=hrel;obtain⟨acc,v,nA,nC,hraw,hpre,hal,hgo⟩:=hst.raw;have HR:=Lib.hid hraw;have HPRE:=Lib.hid hpre;have HAL:=Lib.hid hal;have HG:=Lib.hid hgo;have HBL:=Lib.hid hst.low;have hsz:=hst.low.size;clear hst hraw hpre hal hgo HRAW HB0;by_cases hin:i<n
    ·have hinI:(i:Int)<(n:Int):=by omega
     have hil:i<cs.length:=by have:=HL.out; omega
     obtain⟨p,hp⟩:∃ p,p=cs[i]:=⟨_,rfl⟩;obtain⟨f,l⟩:=p;obtain⟨Ai,ci,q1,q2,q3,q4⟩:=HCUR.out i f l (by rw [List.getElem?_eq_getElem hil,<- hp]);have hdr:cs.drop i=(f,l) :: cs.drop (i+1):=by rw [List.drop_eq_getElem_cons hil,<- hp]
     have hgo2:=HG.out;rw [hdr] at hgo2;have HGI:=Lib.hid hgo2;have hqb:=HQ.out wr HBL.out;obtain⟨C,hC⟩:∃ C,C=crC f Ai l.length ci:=⟨_,rfl⟩;have hcs2:C.size=2:=by rw [hC]; rfl
     have hco:C.all (·.oneCell')=true:=by rw [hC]; exact Q1p _ _ _ _
     have hcl:∀ j,j<2->cur[i*2+j]?=C[j]?:=fun j hj=>by
      rw [hC];obtain rfl | rfl:j=0\/j=1:=by omega
      ·exact q1
      ·exact q2
     have HCL:=Lib.hid hcl;have HC:=Lib.hid hC;have HQB:=Lib.hid hqb;have HRD:=Lib.hid (q3.below HBL.out);obtain⟨ln,hln⟩:∃ k,k=l.length:=⟨_,rfl⟩;rw [<- hln] at q4 HC HRD;have HLN:=Lib.hid hln;clear q1 q2 q3 hp hdr hgo2 hqb hC hcl hln;go_upto_region 7 with(first
      | (refine Q03 (o:=⟨some 23,_,_,_,_,_⟩) rfl 77 (.tmp 22) rfl q (i*2) 2 rfl 77 _ C _ HQB.out Tryz.underlying77 rfl rfl hcs2 HCL.out ?_)
      | (refine Q01 (o:=⟨none,_,_,_,_,_⟩) rfl 77 (.tmp 5) (.tmp 23) rfl wr.heap.size 0 C rfl rfl 77 (crC 0 none 0 0) (by rw [crZ]; exact Blk.newAt rfl) (by rw [hcs2]; exact Q1V 0 none 0 0) (by rw [hcs2]; simp [crC]) hco ?_; intro w2 hT2 hD2; rw [Q08 _ _ (by rw [hcs2]; rfl)] at hD2))
     have hb2:Below wr.heap.size wr w2:=hT2.below (Q07 wr _) (Nat.le_refl _);have hs2:=hb2.size;obtain⟨g5,hg5⟩:∃ g,g=wr.heap.size:=⟨_,rfl⟩;rw [<- hg5] at hD2 ⊢;have HD2:=Lib.hid hD2;have HR2:=Lib.hid (HR.out.below hb2);have HB2:=Lib.hid (HBL.out.trans (hb2.mono hsz));have hq2:∀ W,Below w2.heap.size w2 W->W.cell? ⟨q,0,none⟩=some (.int .i64 f0):=fun W hb=>((HQ.out W (HB2.out.trans (hb.mono HB2.out.size))).cell 0).trans HC0.out
     have HQ2:=Lib.hid hq2;have hg5w:w.heap.size<=g5:=by omega
     have hg5n:g5≠g:=by have:=HR.out.blk.lt; omega
     have HRD2:=Lib.hid (HRD.out.below (hb2.mono hsz));have hs12:=HB2.out.size;have hqz:0<n:=by omega
     have hck:∀ W,Below w2.heap.size w2 W->Calls Tryz.prog 134 #[.agg C] W fun e w'=>e=.returned (.int .i64 (if okCB f l=true then 0 else 110))/\Below W.heap.size W w':=fun W hb=>by
      rw [HC.out];exact Q2U f Ai ln ci l W ((HRD2.out.below (hb.mono hs12)).more (by have:=hb.size; omega)) q4
     clear hT2 hD2 hb2 HR HBL HRD HCL HQB hg5;have HCK:=Lib.hid hck;have c50:∀ W,Below w2.heap.size w2 W->W.cell? ⟨g5,0,none⟩=some (.int .i64 f):=fun W hb=>((HD2.out.below' hb).cell 0).trans (by rw [HC.out]; rfl)
     have C50:=Lib.hid c50;clear hck hq2 c50;by_cases hok:okCB f l=true
     ·rw [if_pos hok] at HCK;have HOK:=Lib.hid hok;obtain⟨bq,hbq⟩:∃ b:Bool,b=(f != f0):=⟨_,rfl⟩;refine Q0y 11 67 (by kernel_rfl) (by kernel_rfl) (by kernel_rfl) (by first | rfl | simp) ?_;refine Q0V rfl 77 (.tmp 5) rfl g5 0 2 rfl 77 _ C _ HD2.out Tryz.underlying77 rfl rfl hcs2 (fun _ _=>by rw [Nat.zero_add]) ?_;try simp only [Act.put,sA1,sA2,sA3]
      refine Q0Q rfl rfl 134 #[.agg C] (fun W=>by go_simp) (.int .i64 0) (fun W hb=>HCK.out W hb) ?_;try simp only [Act.put,sA1,sA2,sA3]
      refine Q02 rfl rfl (.bool false) (fun W _=>by go_simp) ?_;try simp only [Act.put,sA1,sA2,sA3]
      refine Q02 rfl rfl (.bool false) (fun W _=>by go_simp) ?_;try simp only [Act.put,sA1,sA2,sA3]
      refine Q02 rfl rfl (.pointer (some ⟨g5,0,none⟩)) (fun W _=>by go_simp) ?_;try simp only [Act.put,sA1,sA2,sA3]
      refine Q0o rfl rfl (.int .i64 f) (fun W hb=>by have:=C50.out W hb; go_simp) ?_;try simp only [Act.put,sA1,sA2,sA3]
      refine Q02 rfl rfl (.slice (some ⟨q,0,none⟩) n c) (fun W _=>by go_simp) ?_;try simp only [Act.put,sA1,sA2,sA3]
      refine Q02 rfl rfl (.pointer (some ⟨q,0,none⟩)) (fun W _=>by go_simp) ?_;try simp only [Act.put,sA1,sA2,sA3]
      refine Q02 rfl rfl (.pointer (some ⟨q,0,none⟩)) (fun W _=>by go_simp) ?_;try simp only [Act.put,sA1,sA2,sA3]
      refine Q0o rfl rfl (.int .i64 f0) (fun W hb=>by have:=HQ2.out W hb; go_simp) ?_;try simp only [Act.put,sA1,sA2,sA3]
      refine Q02 rfl rfl (.bool bq) (fun W _=>by go_simp) ?_;try simp only [Act.put,sA1,sA2,sA3]
      refine Q0S ?_;intro w3 hb3;have hs3:=hb3.size;have HB3:=Lib.hid (HB2.out.trans (hb3.mono hs12));have HR3:=Lib.hid (HR2.out.below hb3);have HD3:=Lib.hid (HD2.out.below' hb3);have HRD3:=Lib.hid (HRD2.out.below (hb3.mono hs12));clear hb3 HR2 HD2 HRD2 HCK HQ2 C50;by_cases hff:f=f0
      ·have hbf:bq=false:=by rw [hbq]; simp [hff]
       subst hbf;clear hbq;obtain⟨hcr,hf0⟩:=okCB_to HOK.out;have hln7:ln<=7:=by rw [HLN.out]; exact hcr.short.2
       have hf2:=hcr.faults;have hfn:((f.toNat:Nat):Int)=f:=by omega
       have c30:w3.cell? ⟨g5,0,none⟩=some (.int .i64 f):=(HD3.out.cell 0).trans (by rw [HC.out]; rfl);have c31:w3.cell? ⟨g5,1,none⟩=some (.slice Ai ln ci):=(HD3.out.cell 1).trans (by rw [HC.out]; rfl);have hg5l:=HD3.out.lt;have HCR:=Lib.hid hcr;have HFN:=Lib.hid hfn;have hs13:=HB3.out.size;have HRDN:=Lib.hid (HRD3.out.more hs13);have hcl':acc.length<=2:=by have:=HAL.out; omega
       have HUS:=Lib.hid (fun(W:World) (hb:Below w3.heap.size w3 W) (z:Int)=>(show Calls Tryz.prog 135 #[.pointer (some ⟨g,0,none⟩),.int .i64 f,.int .i64 z] W fun e w'=>e=.returned (.bool (Q18 acc f.toNat z))/\Below W.heap.size W w' from by
        have:=(HR3.out.below hb).used (by
         rcases Nat.eq_zero_or_pos acc.length with e | e
         ·exact .inl (List.eq_nil_of_length_eq_zero e)
         ·exact .inr (HPRE.out.cok e hcl')) f.toNat z hf2
        rw [hfn] at this;exact this))
       have HFF:=Lib.hid hff;clear hcr hfn hff;go_wp2_with fail
       go_loopw [39] (fun kv w4=>∃ k:Nat,k<=ln/\kv=.int .i64 (k:Int)/\(∀ (j:Nat) (hj:j<l.length),j<k->Q18 acc f.toNat l[j]=false)/\Below w3.heap.size w3 w4) (fun kv _=>ln - (intOf kv).toNat)
       case atStart=>exact⟨0,by omega,rfl,fun j hj h=>by omega,Below.refl _ _⟩
       case round =>
        obtain⟨k,hk,rfl,hno,hb4⟩:=hrel;have HNO:=Lib.hid hno;have HB4:=Lib.hid hb4;have hs4:=hb4.size;have c40:wr.cell? ⟨g5,0,none⟩=some (.int .i64 f):=(hb4.cell hg5l).trans c30;have c41:wr.cell? ⟨g5,1,none⟩=some (.slice Ai ln ci):=(hb4.cell hg5l).trans c31;have HD4:=Lib.hid (HD3.out.below' hb4);have HR4:=Lib.hid (HR3.out.below hb4);clear hno hb4 c30 c31;by_cases hkl:k<ln
        ·have hkI:(k:Int)<(ln:Int):=by omega
         have hkx:k<l.length:=by have:=HLN.out; omega
         obtain⟨ad,u,hA,hadb,hxi,hcell⟩:=(HRDN.out.below HB4.out).at_ hkl;have hu:u=.int .i64 l[k]:=by
          rw [List.getElem?_map,List.getElem?_eq_getElem hkx] at hxi;injection hxi with hxi
          exact hxi.symm
         subst hu;subst hA;have HU:=Lib.hid (HUS.out wr HB4.out l[k]);generalize hz:l[k]=z at hcell HU;generalize hub:Q18 acc f.toNat z=ub at HU;have HZ:=Lib.hid hz;have HUB:=Lib.hid hub;clear hxi hz hub;go_wp2_with fail
         refine HU.out.mono ?_;rintro _ w5 ⟨rfl,hb5⟩;have HB5:=Lib.hid (HB4.out.trans (hb5.mono hs4));clear hb5 HU;cases ub with
         | true =>
          have hbad:¬ (okCB f l=true/\f=f0/\l.any (Q18 acc f.toNat)=false):=fun h=>by
           have:=List.any_eq_false.1 h.2.2 l[k] (List.getElem_mem hkx);rw [HZ.out,HUB.out] at this;exact this rfl
          have ho:o=none:=by rw [<- HGI.out]; exact Q3s hbad
          have HO:=Lib.hid ho;have HBW:=Lib.hid (HB3.out.trans (HB5.out.mono hs13));clear hbad ho;go_wp2_with fail
          go_ret
          exact HPN.out _ HO.out HBW.out
         | false =>
          have HN2:=Lib.hid (show ∀ (j:Nat) (hj:j<l.length),j<k+1->Q18 acc f.toNat l[j]=false from fun j hj h=>by
           rcases Nat.lt_or_ge j k with e | e
           ·exact HNO.out j hj e
           ·obtain rfl:j=k:=by omega
            rw [HZ.out]; exact HUB.out)
          go_wp2_with fail
          go_roundw
          case rel=>exact⟨k+1,by omega,by go_num,HN2.out,HB5.out⟩
          case measure=>simp [intOf]; omega
        ·have hkI:¬ (k:Int)<(ln:Int):=by omega
         have hany:l.any (Q18 acc f.toNat)=false:=List.any_eq_false.2 fun z hz=>by
          obtain⟨j,hj,rfl⟩:=List.mem_iff_getElem.1 hz;rw [HNO.out j hj (by have:=HLN.out; omega)]; simp
         have HGN:=Lib.hid ((Q4s HOK.out HFF.out hany).symm.trans HGI.out);have HPR:=Lib.hid (show CPre f0 (acc++[⟨f.toNat,l,[]⟩]) from by
          have hok2:=HOK.out;unfold okCB at hok2;rw [Bool.and_eq_true] at hok2;have h4:=of_decide_eq_true hok2.1;exact HPRE.out.push (c:=(f,l)) ⟨h4.1,h4.2.1,h4.2.2,hok2.2⟩ HFF.out hany)
         have hs34:=HB4.out.size;have HCN:=Lib.hid (Q2Q Ai ln ci l wr w.heap.size (HRD3.out.below (HB4.out.mono hs13)) (by omega) (by omega));clear hany HUS HNO HRD3 HRDN;go_wp2_with fail
         refine HCN.out.mono ?_;rintro _ w6 ⟨v6,rfl,ho6,hb6⟩;obtain⟨A6,c6,hv6,_⟩:=Q0v ho6;rw [<- HLN.out] at hv6;subst hv6;have hs6:=hb6.size;have hf51:=(HD4.out.below' hb6).frozen 1;have hc51:w6.cell? ⟨g5,1,none⟩=some (.slice Ai ln ci):=(hb6.cell (show g5<wr.heap.size by omega)).trans c41;have hD7:=(HD4.out.below' hb6).set_ 1 (.slice A6 ln c6);have hT7:=Q0c.setCell w6 ⟨g5,1,none⟩ (.slice A6 ln c6);have hC7:C.setIfInBounds 1 (.slice A6 ln c6)=crC f A6 ln c6:=by rw [HC.out]; rfl
         rw [hC7] at hD7;have hO7:OwnN (w6.setCell ⟨g5,1,none⟩ (.slice A6 ln c6)) w.heap.size (.slice A6 ln c6) l:=by
          have:=ho6.keep_ (w':=w6.setCell ⟨g5,1,none⟩ (.slice A6 ln c6)) fun b hb=>hT7.block b (fun e=>by have:=ho6.ge_ hb; have e':b=g5:=e; omega)
          exact OwnN.more this (by omega)
         have hR6:=HR4.out.below hb6;have hR7:Q3J (w6.setCell ⟨g5,1,none⟩ (.slice A6 ln c6)) g w.heap.size acc v nA nC:=hR6.turned_crew hT7 (HD4.out.below' hb6) hg5n;have HB7:=Lib.hid ((HB3.out.trans ((HB4.out.trans (hb6.mono hs4)).mono hs13)).setCell (p:=⟨g5,1,none⟩) hg5w (.slice A6 ln c6));have HD7:=Lib.hid hD7;have HO7:=Lib.hid hO7;have HR7:=Lib.hid hR7;clear hD7 hT7 hC7 hO7 hR6 hR7 ho6 hb6 HR4 HD4 HR3 HD3 HCN hs6 c40 c41;go_upto_region 16 with fail
         generalize w6.setCell ⟨g5,1,none⟩ (.slice A6 ln c6)=w7 at HD7 HO7 HR7 HB7 ⊢;clear hf51 hc51;obtain⟨C7,hC7⟩:∃ C7,C7=crC f A6 ln c6:=⟨_,rfl⟩;have hC7s:C7.size=2:=by rw [hC7]; rfl
         rw [<- hC7] at HD7;have HC7:=Lib.hid hC7;obtain⟨E,hE⟩:∃ E:Array Value,E=#[.int .i64 f,.slice A6 ln c6,.int .i64 f,.slice A6 ln c6,.slice none 0 0]:=⟨_,rfl⟩;have hEs:E.size=5:=by rw [hE]; rfl
         have HE:=Lib.hid hE;clear hC7 hE;have hs7:=HB7.out.size;have hg7:=HR7.out.blk.lt;have hg57:=HD7.out.lt;have c1v:w7.cell? ⟨g,1,none⟩=some v:=(HR7.out.blk.cell 1).trans (Q76 _ _ 1 (by omega));have hvg:v.ownBlock≠some g:=Q09 HR7.out.row HR7.out.blk (by decide);have hvg5:v.ownBlock≠some g5:=Q09 HR7.out.row HD7.out (by decide);have C1V:=Lib.hid (fun(W:World) (h:w7.grownBy W v.ownBlock)=>(World.cell?_of_block (h.block g hg7 (fun e=>hvg e.symm))).trans c1v);have HD7W:=Lib.hid (fun(W:World) (h:w7.grownBy W v.ownBlock)=>HD7.out.grown h (fun e=>hvg5 e.symm));obtain⟨i0,hi0,hz0,hz1,hz2⟩:=info_parts sv_info;have hrl:acc.length<=2:=hcl';obtain⟨m0,hm0⟩:∃ k,k=acc.length:=⟨_,rfl⟩;have HM0:=Lib.hid hm0;obtain⟨cells,hcells⟩:∃ l,l=Q1g nA nC 0 acc:=⟨_,rfl⟩;have HCE:=Lib.hid hcells;have hrow7:=HR7.out.row;rw [<- hm0,<- hcells] at hrow7;rw [<- hm0] at hrl;have HROW7:=Lib.hid hrow7;clear c1v hvg hvg5 hm0 hcells hrow7;refine Q1Z 12 67 (fun jx W u=>match jx with
          | 0=>u=.pointer (some ⟨g,0,none⟩)
          | 1=>u=.pointer (some ⟨g,0,none⟩)
          | 2=>u=.pointer (some ⟨g,0,none⟩)
          | 3=>u=.pointer (some ⟨g,1,none⟩)
          | 4=>u=v
          | 5=>u=.agg C7
          | 6=>u=.agg C7
          | 7=>u=.agg E
          | 8=>∃ g9,u=.slice (some ⟨g9,0,none⟩) 1 1/\w7.heap.size<=g9/\Blk W g9 173 E
          | 9=>W.ownsRow w.heap.size 173 5 u (m0+1) (cells++E.toList)
          | 10=>u=.pointer (some ⟨g,0,none⟩)
          | _=>u=.pointer (some ⟨g,1,none⟩)) (fun s W=>w7.grownBy W v.ownBlock/\(s=0->Below w7.heap.size w7 W)) (fun W W'=>W.grownBy W' v.ownBlock) [9] [53,54,55,56,57,58,59,60,61,62,63,64] (by kernel_rfl) (by kernel_rfl) (by kernel_rfl) (by kernel_rfl) (by first | rfl | simp) (by kernel_rfl) (fun jx=>?last) ?lastR (fun s W W' h1 h2=>⟨Q6b h1.1 h2,fun e=>(h1.2 e).trans (h2.mono (h1.2 e).size)⟩) ⟨World.grownBy.refl _ _,fun _=>Below.refl _ _⟩ ?heads ?_
         case last =>
          match jx with
          | 0 | 1 | 2 | 3 | 4 | 5 | 6 | 7 | 10 | jx+11=>exact Q16.pure _
          | 8=>exact fun W W' u ⟨g9,h1,h2,h3⟩ hb=>⟨g9,h1,h2,h3.below' hb⟩
          | 9=>exact fun W W' u h hb=>Q0f h (fun b hb'=>hb.block b (Q0a h hb').2)
         case lastR =>
          intro s jx W W' u hsl hs hj hp hR;match jx with
          | 0 | 1 | 2 | 3 | 4 | 5 | 6 | 7 | 10 | jx+11=>exact hp
          | 8 =>
           obtain⟨g9,h1,h2,h3⟩:=hp;exact⟨g9,h1,h2,h3.grown hR (fun e=>by have:=(Q0a HROW7.out e.symm).2; omega)⟩
          | 9 =>
           exfalso
           exact hs 0 (by simp at hsl; omega) rfl
         case heads =>
          simp only [List.take_succ_cons,List.take_zero];refine⟨?_,?_,?_,?_,?_,?_,?_,?_,?_,?_,?_,?_,trivial⟩
          iterate 2 ·rw [if_neg (by decide)];intro s a W hj hkp hd;have e0:a.tmps[3]?.getD undef=.pointer (some ⟨g,0,none⟩):=hkp.get (by kernel_rfl) rfl;exact Q00 rfl _ (by go_simp) rfl
          ·rw [if_neg (by decide)];intro s a W hj hkp hd;have e0:(_:Value)=.pointer (some ⟨g,0,none⟩):=(hd 1 (by kernel_rfl)).get 54 rfl rfl;exact Q00 rfl _ (by go_simp) rfl
          ·rw [if_neg (by decide)];intro s a W hj hkp hd;have e0:(_:Value)=.pointer (some ⟨g,0,none⟩):=(hd 2 (by kernel_rfl)).get 55 rfl rfl;exact Q00 rfl _ (by go_simp) rfl
          ·rw [if_neg (by decide)];intro s a W hj hkp hd;have e0:(_:Value)=.pointer (some ⟨g,1,none⟩):=(hd 3 (by kernel_rfl)).get 56 rfl rfl;have cc:=C1V.out W hj.1;exact Q00 rfl v (by go_simp) rfl
          ·rw [if_neg (by decide)];intro s a W hj hkp hd;have e0:a.eval (.tmp 5)=.pointer (some ⟨g5,0,none⟩):=by have:=hkp.at_ (d:=5) (by kernel_rfl); rw [this]; rfl
           exact Q00 rfl (.agg C7) (Q0m 77 (.tmp 5) rfl g5 0 2 e0 77 _ C7 _ (HD7W.out W hj.1) Tryz.underlying77 rfl rfl hC7s (fun _ _=>by rw [Nat.zero_add])) rfl
          ·rw [if_neg (by decide)];intro s a W hj hkp hd;have e0:a.eval (.tmp 5)=.pointer (some ⟨g5,0,none⟩):=by have:=hkp.at_ (d:=5) (by kernel_rfl); rw [this]; rfl
           exact Q00 rfl (.agg C7) (Q0m 77 (.tmp 5) rfl g5 0 2 e0 77 _ C7 _ (HD7W.out W hj.1) Tryz.underlying77 rfl rfl hC7s (fun _ _=>by rw [Nat.zero_add])) rfl
          ·rw [if_neg (by decide)];intro s a W hj hkp hd;have e0:(_:Value)=.agg C7:=(hd 5 (by kernel_rfl)).get 58 rfl rfl;have e1:(_:Value)=.agg C7:=(hd 6 (by kernel_rfl)).get 59 rfl rfl;rw [HC7.out] at e0 e1;unfold crC at e0 e1;exact Q00 rfl (.agg E) (by rw [HE.out]; go_simp) rfl
          ·rw [if_neg (by decide)];intro s a W hj hkp hd;have e0:(_:Value)=.agg E:=(hd 7 (by kernel_rfl)).get 60 rfl rfl;exact Q21 rfl (.slice (some ⟨W.heap.size,0,none⟩) 1 1) (W.alloc (.cells E 173)) (by go_simp; rw [HE.out]; rfl) (Q07 _ _) ⟨W.heap.size,rfl,hj.1.size,Blk.new W _ _⟩
          ·rw [if_pos (by decide)];intro s a W hs hj hkp hd;obtain rfl:s=0:=by have:=(List.getElem?_eq_some_iff.1 hs).1; simp at this; omega
           have hbw:=hj.2 rfl;have e57:a.eval (.tmp 57)=v:=by have h:=(hd 4 (by kernel_rfl)).get 57 rfl rfl; simpa [Act.eval] using h
           obtain⟨g9,e61,hg9,hB9⟩:=(hd 8 (by kernel_rfl)).get 61 rfl rfl;have e61':a.eval (.tmp 61)=.slice (some ⟨g9,0,none⟩) 1 1:=by simpa [Act.eval] using e61
           have hrw:W.ownsRow w.heap.size 173 5 v m0 cells:=Q0f HROW7.out (fun b hb'=>hbw.block b (Q0a HROW7.out hb').2);have hrd9:Q0d W W.heap.size 5 (some ⟨g9,0,none⟩) 1 E.toList:=⟨by simp [hEs],fun _=>⟨⟨g9,0,none⟩,rfl,hB9.lt,fun j u hu=>by rw [Q13,Nat.zero_add,hB9.cell,<- Array.getElem?_toList]; exact hu⟩⟩;obtain⟨v',W',hrun,ho',hg',hor'⟩:=Q4B (P:=Tryz.prog) W w.heap.size 100 100 173 i0 (.agg Q7k) 5 88 Tryz.underlying100 hi0 hz0 hz1 hz2 rfl (by omega) v m0 cells hrw W.heap.size (some ⟨g9,0,none⟩) 1 1 E.toList hrd9 (by rw [HE.out]; intro u hu; simp only [List.mem_cons,List.not_mem_nil,or_false] at hu; rcases hu with rfl | rfl | rfl | rfl | rfl <;> rfl) (by unfold maxLen; omega) (by omega) (by have:=hbw.size; omega);exact Q97 rfl v' W' (Q72 (s:=.tmp 57) (x:=.tmp 61) rfl e57 e61' hrun) hg' ⟨⟨hg'.os.trans hj.1.os,hg'.tape.trans hj.1.tape,hg'.output.trans hj.1.output,Nat.le_trans hj.1.size hg'.size,fun b hb hn=>(hg'.block b (by have:=hj.1.size; omega) hn).trans (hj.1.block b hb hn)⟩,fun e=>by omega⟩ ho'
          ·rw [if_neg (by decide)];intro s a W hj hkp hd;have e0:(_:Value)=.pointer (some ⟨g,0,none⟩):=(hd 0 (by kernel_rfl)).get 53 rfl rfl;exact Q00 rfl _ (by go_simp) rfl
          ·rw [if_neg (by decide)];intro s a W hj hkp hd;have e0:(_:Value)=.pointer (some ⟨g,0,none⟩):=(hd 10 (by kernel_rfl)).get 63 rfl rfl;exact Q00 rfl _ (by go_simp) rfl
         intro fv W hj hd;have h64:fv 64=.pointer (some ⟨g,1,none⟩):=hd 11 (by omega) _ 64 rfl rfl;obtain⟨v',hv'⟩:∃ v',v'=fv 62:=⟨_,rfl⟩;have h62:W.ownsRow w.heap.size 173 5 (fv 62) (m0+1) (cells++E.toList):=hd 9 (by omega) _ 62 rfl rfl;rw [<- hv'] at h62;obtain⟨A8,c8,hve,_⟩:=Q3A h62;rw [hve] at hv' h62;clear hve v';obtain⟨v',hve⟩:∃ v',v'=Value.slice A8 (m0+1) c8:=⟨_,rfl⟩;rw [<- hve] at h62;have hblW:=HR7.out.blk.grown hj.1 (fun e=>Q09 HR7.out.row HR7.out.blk (by decide) e.symm);have hfzW:=hblW.frozen 1;have hcW:W.cell? ⟨g,1,none⟩=some v:=(hblW.cell 1).trans (Q76 _ _ 1 (by omega));have hraw8:Q3J (W.setCell ⟨g,1,none⟩ v') g w.heap.size (acc++[⟨f.toNat,l,[]⟩]) v' (fun k=>if k=acc.length then A6 else nA k) (fun k=>if k=acc.length then c6 else nC k):=by
          refine HR7.out.push hj.1 (by rw [<- HLN.out]; exact HO7.out) ?_ HFN.out;rw [<- HLN.out,<- HCE.out,<- HM0.out];rw [HE.out] at h62;exact h62
         rw [hve] at hraw8;have HRAW8:=Lib.hid hraw8;have HBW:=Lib.hid (show Below w.heap.size w (W.setCell ⟨g,1,none⟩ (.slice A8 (m0+1) c8)) from(Q0k HB7.out (by omega) hj.1 (fun b hb=>(Q0a HROW7.out hb).1)).setCell (p:=⟨g,1,none⟩) hgw _);simp only [Q0H,List.drop_succ_cons,List.drop_zero,h64,<- hv'];clear hd hj h64 h62 hv' hve hblW hraw8 HD7 HO7 HR7 HB7 HROW7 C1V HD7W HC7 HE HCE;try simp only [Act.put,sA1,sA2,sA3]
         go_wp2_with fail
         go_roundw
         case rel=>exact⟨i+1,by omega,by go_num,⟨⟨_,_,_,_,HRAW8.out,HPR.out,by rw [List.length_append,HAL.out]; rfl,HGN.out⟩,HBW.out⟩⟩
         case measure=>simp [intOf]; omega
      ·have hbf:bq=true:=by rw [hbq]; simpa using hff
       subst hbf;have hbad:¬ (okCB f l=true/\f=f0/\l.any (Q18 acc f.toNat)=false):=fun h=>hff h.2.1
       have ho:o=none:=by rw [<- HGI.out]; exact Q3s hbad
       have HO:=Lib.hid ho;clear hbad ho hbq;go_wp2_with fail
       go_ret
       exact HPN.out _ HO.out HB3.out
     ·rw [if_neg hok] at HCK;have hbad:¬ (okCB f l=true/\f=f0/\l.any (Q18 acc f.toNat)=false):=fun h=>hok h.1
      have ho:o=none:=by rw [<- HGI.out]; exact Q3s hbad
      have HO:=Lib.hid ho;clear hbad ho;refine Q0y 11 67 (by kernel_rfl) (by kernel_rfl) (by kernel_rfl) (by first | rfl | simp) ?_;refine Q0V rfl 77 (.tmp 5) rfl g5 0 2 rfl 77 _ C _ HD2.out Tryz.underlying77 rfl rfl hcs2 (fun _ _=>by rw [Nat.zero_add]) ?_;try simp only [Act.put,sA1,sA2,sA3]
      refine Q0Q rfl rfl 134 #[.agg C] (fun W=>by go_simp) (.int .i64 110) (fun W hb=>HCK.out W hb) ?_;try simp only [Act.put,sA1,sA2,sA3]
      refine Q02 rfl rfl (.bool true) (fun W _=>by go_simp) ?_;try simp only [Act.put,sA1,sA2,sA3]
      refine Q02 rfl rfl (.bool true) (fun W _=>by go_simp) ?_;try simp only [Act.put,sA1,sA2,sA3]
      refine Q0j rfl rfl ?_;try simp only [Act.put,sA1,sA2,sA3]
      refine Q0j rfl rfl ?_;try simp only [Act.put,sA1,sA2,sA3]
      refine Q0j rfl rfl ?_;try simp only [Act.put,sA1,sA2,sA3]
      refine Q0j rfl rfl ?_;try simp only [Act.put,sA1,sA2,sA3]
      refine Q0j rfl rfl ?_;try simp only [Act.put,sA1,sA2,sA3]
      refine Q0j rfl rfl ?_;try simp only [Act.put,sA1,sA2,sA3]
      refine Q0j rfl rfl ?_;try simp only [Act.put,sA1,sA2,sA3]
      refine Q0S ?_;intro w3 hb3;have HB3:=Lib.hid (HB2.out.trans (hb3.mono hs12));clear hb3;go_wp2_with fail
      go_ret
      exact HPN.out _ HO.out HB3.out
    ·obtain rfl:i=n:=by omega
     have hinI:¬ (i:Int)<(i:Int):=by omega
     have ho:o=some acc:=by rw [<- HG.out,List.drop_of_length_le (by have:=HL.out; omega)]; rfl
     have HO:=Lib.hid ho;clear ho;go_wp2_with fail
     go_ret
     exact HPS.out _ acc v nA nC HO.out HR.out HBL.out
end
section
open Go.RowKit Go.Maps
theorem Q0T {P:Program} {o:Oper} {a:Act} {w:World} (ty:TypeId) (x:Operand) (ho:o.op=.load ty x)
 (ad:Addr) (n:Nat) (hx:a.eval x=.pointer (some ad)) (vs:Array Value) (d:TypeDesc)
 (hu:P.underlying ty=some d) (hd:(match d with | .struct _ | .array _ _=>true | _=>false)=true) (hi:(P.info? ty).map (·.size)=some n)
 (hn:vs.size=n) (hv:∀ (j:Nat) (v:Value),vs[j]?=some v->w.cell? (ad.add j)=some v):(execOp a.eval o).run P w=.ok (.value (.agg vs)) w:=by
 have hl:(loadCells ad vs.toList.length).run P w=.ok vs.toList.toArray w :=
  run_loadCells_list (P:=P) w ad vs.toList (fun j v hj=>hv j v (by simpa using hj))
 have hrun:(loadVar ty ad).run P w=.ok (.agg vs) w:=by
  cases hq:P.info? ty with
  | none=>simp [hq] at hi
  | some i =>
   have hs:i.size=n:=by simpa [hq] using hi
   have hagg:(isAgg ty).run P w=.ok true w:=by
    unfold isAgg;rw [Sem.run_bind,run_underlying hu w];cases d <;> simp_all
   simp only [Array.length_toList,Array.toArray_toList,hn] at hl;simp [loadVar,Sem.run_bind,hagg,sizeOf,typeInfo,hq,hs,hl]
 unfold execOp;simp only [ho,hx,Instr.loadAt,Instr.sureAddr,Sem.run_bind,Sem.run_pure,Result.andThen_ok,hrun]
structure Q2V (w:World) (A:Option Addr) (n:Nat) (cs:List (Int×List Int)):Prop where
 len:cs.length=n
 row:0<n->∃ q o,A=some ⟨q,o,none⟩/\q<w.heap.size/\∀ i f l,cs[i]?=some (f,l)->∃ Ai ci,w.cell? ⟨q,o+i*2,none⟩=some (.int .i64 f)/\w.cell? ⟨q,o+i*2+1,none⟩=some (.slice Ai l.length ci)/\Q0d w w.heap.size 1 Ai l.length (l.map vn)/\l.length<=17592186044416
theorem Q2V.below {w w':World} {A:Option Addr} {n:Nat} {cs:List (Int×List Int)} (h:Q2V w A n cs) (hb:Below w.heap.size w w'):Q2V w' A n cs :=
 ⟨h.len,fun h0=>by
  obtain⟨q,o,h1,h2,h3⟩:=h.row h0;refine⟨q,o,h1,by have:=hb.size; omega,fun i f l hi=>?_⟩;obtain⟨Ai,ci,q1,q2,q3,q4⟩:=h3 i f l hi;exact⟨Ai,ci,(hb.cell (p:=⟨q,o+i*2,none⟩) h2).trans q1,(hb.cell (p:=⟨q,o+i*2+1,none⟩) h2).trans q2,(q3.below hb).more hb.size,q4⟩⟩
theorem Q2p.in_ {w:World} {A:Option Addr} {n:Nat} {cs:List (Int×List Int)} (h:Q2p w A n cs):Q2V w A n cs :=
 ⟨h.len,fun h0=>by
  obtain⟨q,cur,h1,h2,h3⟩:=h.row h0;refine⟨q,0,h1,h2.lt,fun i f l hi=>?_⟩;obtain⟨Ai,ci,q1,q2,q3,q4⟩:=h3 i f l hi;exact⟨Ai,ci,by rw [Nat.zero_add]; exact(h2.cell _).trans q1,by rw [Nat.zero_add]; exact(h2.cell _).trans q2,q3,q4⟩⟩
theorem Q1s {w:World} {A:Option Addr} {n i:Nat} {cs:List (Int×List Int)} (h:Q2V w A n cs) (hi:i<cs.length):∃ q o Ai ci C,A=some ⟨q,o,none⟩/\C=crC cs[i].1 Ai cs[i].2.length ci/\q<w.heap.size/\(∀ (W:World),Below w.heap.size w W->W.cell? ⟨q,o+i*2,none⟩=some (.int .i64 cs[i].1)/\W.cell? ⟨q,o+i*2+1,none⟩=some (.slice Ai cs[i].2.length ci)/\∀ (j:Nat) (v:Value),C[j]?=some v->W.cell? ((⟨q,o+i*2,none⟩:Addr).add j)=some v)/\Q0d w w.heap.size 1 Ai cs[i].2.length (cs[i].2.map vn)/\cs[i].2.length<=17592186044416:=by
 obtain⟨q,o,h1,h2,h3⟩:=h.row (by have:=h.len; omega);obtain⟨Ai,ci,q1,q2,q3,q4⟩:=h3 i cs[i].1 cs[i].2 (List.getElem?_eq_getElem hi);refine⟨q,o,Ai,ci,_,h1,rfl,h2,fun W hb=>?_,q3,q4⟩;have e1:=(hb.cell (p:=⟨q,o+i*2,none⟩) h2).trans q1;have e2:=(hb.cell (p:=⟨q,o+i*2+1,none⟩) h2).trans q2;refine⟨e1,e2,fun j v hv=>?_⟩;match j,hv with
 | 0,hv=>rw [<- Option.some.inj hv]; exact e1
 | 1,hv=>rw [<- Option.some.inj hv]; exact e2
end
section
open Go.RowKit Go.Maps
attribute [local irreducible] wpList Q0i
structure ANew (w w':World) (k:Book) (V:ALoc) (L:List (List UInt8)) (asked:Nat) (m:AM):Prop where
 kk:V.k=k
 vat:AAt w' V (fun b=>V.all b\/b<w.heap.size) m
 new:w.heap.size<=V.g/\w.heap.size<=V.gc/\∀ b,V.T.has b->w.heap.size<=b
 book:∃ L' a',Q0A w' k L' a'/\a'<=asked+30/\(∀ x,x∈L->x∈L')/\Q1X L' (Q0g m)
 only:Only k.has w w'
theorem ANew.of_planted {w w1 w':World} {g gc:Nat} {T:Q1E} {k:Book} {L:List (List UInt8)} {asked:Nat} {m:AM} (h:PlSt (fun b=>b<w.heap.size) w1 w' g gc T k L asked m 6) (hb:Below w.heap.size w w1) (hk:k.g<w.heap.size/\k.b1<w.heap.size/\k.b2<w.heap.size) (hg:w.heap.size<=g) (hgc:w.heap.size<=gc) (hgl:g<w1.heap.size) (hgcl:gc<w1.heap.size) (hne:g≠gc):ANew w w' k ⟨g,gc,T,k⟩ L asked m:=by
 have hkl:∀ b,k.has b->b<w.heap.size:=fun b hb=>by rcases hb with e | e | e <;> omega
 have e:(Q0g m).take 6++List.replicate (6 - 6) ([]:List UInt8)=Q0g m:=by rw [List.take_of_length_le (by rw [Q0B]; exact Nat.le_refl _)]; simp
 obtain⟨L',a',q1,q2,q3,q4⟩:=h.book;rw [e] at q4;have ht:=h.tree;rw [e] at ht;have hs:=hb.size;obtain⟨S,hd⟩:=h.blk;refine⟨rfl,⟨⟨S,hd.mono (fun b _ hn=>?_) ⟨.inl (.inl rfl),.inl (.inr (.inl rfl))⟩⟩,ht,⟨hne,fun hT=>?_,fun hT=>?_,fun hkg=>?_,fun hkg=>?_⟩,fun b hb=>.inl hb⟩,⟨hg,hgc,fun b hb=>by have:=h.new b hb; omega⟩,⟨L',a',q1,by omega,q3,q4⟩,?_⟩
 ·rcases hn with(e | e | e | e) | e
  ·exact .inl e
  ·exact .inr (.inl e)
  ·exact .inr (.inr (.inl e))
  ·exact .inr (.inr (.inr (.inl e)))
  ·exact .inr (.inr (.inr (.inr e)))
 ·have:=h.new g hT; omega
 ·have:=h.new gc hT; omega
 ·have:=hkl g hkg; omega
 ·have:=hkl gc hkg; omega
 ·have h1:=h.only;exact⟨h1.os.trans hb.os,h1.tape.trans hb.tape,h1.output.trans hb.output,Nat.le_trans hs h1.size,fun b hb' hn=>(h1.block b (by omega) (fun e=>by
   rcases e with e | e
   ·omega
   ·exact hn e)).trans (hb.block b hb')⟩
def Q6f (w:World) (k:Book) (L:List (List UInt8)) (asked:Nat) (o:Option AM) (e:Ending) (w':World):Prop :=
 (o=none->e=.returned (.tuple #[.pointer none,.int .i64 2])/\Below w.heap.size w w')/\(∀ m,o=some m->∃ V:ALoc,e=.returned (.tuple #[.pointer (some ⟨V.g,0,none⟩),.int .i64 0])/\ANew w w' k V L asked m)
theorem QaQ (k:Book) (L:List (List UInt8)) (asked:Nat) (A:Option Addr) (n c:Nat) (cs:List (Int×List Int)) (w:World) (hbk:Q0A w k L asked) (has:asked<=600000) (h:Q2p w A n cs) (hn:n<=17592186044416) :
 Calls Tryz.prog 35 #[.pointer (some ⟨k.g,0,none⟩),.slice A n c] w (Q6f w k L asked (newQ cs)):=by
 have HBG:=Lib.hid (Qcr A n c cs w h hn);have HBK:=Lib.hid hbk;have hkl:=hbk.lt;obtain⟨o,ho⟩:∃ o,o=newQ cs:=⟨_,rfl⟩;rw [<- ho];have HO:=Lib.hid ho;clear h hbk ho;go_enter Tryz.func35,Tryz.ntmps35
 go_wp2_with fail
 refine HBG.out.mono ?_;rintro _ w1 ⟨hb1,hno,hso⟩;have hs1:=hb1.size;cases hb:Q2w cs with
 | none =>
  have ho:o=none:=by rw [HO.out]; unfold newQ; rw [hb]; rfl
  obtain rfl:=hno hb;have HB1:=Lib.hid hb1;have HP:=Lib.hid (show Q6f w k L asked o (.returned (.tuple #[.pointer none,.int .i64 2])) w1 from⟨fun _=>⟨rfl,hb1⟩,fun m hm=>(by rw [ho] at hm; cases hm)⟩);clear hno hso hb1 ho HBG;go_wp2_with fail
  go_ret2
  exact HP.out
 | some acc =>
  have ho:o=some (Q1t acc):=by rw [HO.out]; unfold newQ; rw [hb]; rfl
  obtain⟨g,v,nA,nC,rfl,hraw⟩:=hso acc hb;have hc:=Q99 hb;obtain⟨gc,arr,cap,hv,hBgc,hne,hdat⟩:=hraw.dat hc.1;have hlt:=hdat.lt;have hd2:ADat w1 g gc none (fun b=>b=g\/b=gc\/k.has b\/b<w.heap.size) (Q1t acc) (bgS arr cap nA nC):=hdat.mono (fun b _ hn=>by
   rcases hn with e | e | e | e
   ·exact .inl e
   ·exact .inr (.inl e)
   ·exact .inr (.inr (by rcases e with e | e | e <;> omega))
   ·exact .inr (.inr e)) ⟨.inl rfl,.inr (.inl rfl)⟩
  have hgB:=hraw.gB;have HPL:=Lib.hid (Qac (fun b=>b<w.heap.size) k L asked g gc (Q1t acc) _ w1 (HBK.out.below hb1) has hd2 (fun e=>by rcases e with e | e | e <;> omega) (fun e=>by rcases e with e | e | e <;> omega) hne);have HB1:=Lib.hid hb1;have HOM:=Lib.hid ho;clear hno hso hb1 ho HBG hraw hdat hd2 hv;go_wp2_with fail
  refine HPL.out.mono ?_;rintro _ w2 ⟨T,rfl,hpl⟩;have HP:=Lib.hid (show Q6f w k L asked o (.returned (.tuple #[.pointer (some ⟨g,0,none⟩),.int .i64 0])) w2 from⟨fun e=>(by rw [HOM.out] at e; cases e),fun m hm=>⟨⟨g,gc,T,k⟩,rfl,by
   rw [HOM.out] at hm;rw [<- Option.some.inj hm];exact ANew.of_planted hpl HB1.out hkl hgB hBgc hlt.1 hlt.2 hne⟩⟩)
  clear hpl HPL;go_wp2_with fail
  go_ret2
  exact HP.out
end
section
open Go.RowKit Go.Maps
attribute [local irreducible] wpList Q0i
theorem Q4i (A D:Option Addr) (n c m d:Nat) (cs ds:List (Int×List Int)) (w:World) (hx:Q2V w A n cs) (hy:Q2V w D m ds) (hn:n<=10000000000000) (hm:m<=10000000000000) :
 Calls Tryz.prog 37 #[.slice A n c,.slice D m d] w fun e w'=>e=.returned (.bool (decide (cs=ds)))/\Below w.heap.size w w':=by
 have hxl:=hx.len;have hyl:=hy.len;by_cases hnn:n=m
 ·subst hnn;have hne:((n:Int) != (n:Int))=false:=by simp
  have HX:=Lib.hid hx;have HY:=Lib.hid hy;have HXL:=Lib.hid hxl;have HYL:=Lib.hid hyl;clear hx hy hxl hyl;go_enter Tryz.func37,Tryz.ntmps37
  go_wp2_with fail
  go_loopw [5] (fun iv wr=>∃ i:Nat,i<=n/\iv=.int .i64 i/\cs.take i=ds.take i/\Below w.heap.size w wr) (fun iv _=>n - (intOf iv).toNat)
  case atStart=>exact⟨0,by omega,rfl,by simp,Below.refl _ _⟩
  case round =>
   obtain⟨i,hi,rfl,heq,hbel⟩:=hrel;have HE:=Lib.hid heq;have HB:=Lib.hid hbel;have hsz:=hbel.size;clear heq;by_cases hin:i<n
   ·have hinI:(i:Int)<(n:Int):=by omega
    have h0I:(0:Int)<=(i:Int):=by omega
    have hix:i<cs.length:=by have:=HXL.out; omega
    have hiy:i<ds.length:=by have:=HYL.out; omega
    obtain⟨q1,o1,A1,c1,C1,rfl,hC1,hb1,hv1,hr1,hl1⟩:=Q1s (HX.out.below hbel) hix;obtain⟨q2,o2,A2,c2,C2,rfl,hC2,hb2,hv2,hr2,hl2⟩:=Q1s (HY.out.below hbel) hiy;have hs1:C1.size=2:=by rw [hC1]; rfl
    have hs2:C2.size=2:=by rw [hC2]; rfl
    have HSA:=Lib.hid (fun(W:World) (hb:Below wr.heap.size wr W)=>Qbs cs[i].1 ds[i].1 A1 cs[i].2.length c1 A2 ds[i].2.length c2 cs[i].2 ds[i].2 W wr.heap.size (hr1.below hb) (hr2.below hb) hb.size (by unfold maxLen; omega) (by unfold maxLen; omega));rw [<- hC1,<- hC2] at HSA;have hv1:=Lib.hid (fun(W:World) (hb:Below wr.heap.size wr W)=>(hv1 W hb).2.2);have hv2:=Lib.hid (fun(W:World) (hb:Below wr.heap.size wr W)=>(hv2 W hb).2.2);obtain⟨bq,hbq⟩:∃ b,b=decide (cs[i].1=ds[i].1/\cs[i].2=ds[i].2):=⟨_,rfl⟩;rw [<- hbq] at HSA;have hbe:bq=decide (cs[i]=ds[i]):=by
     rw [hbq];exact decide_eq_decide.2 Prod.ext_iff.symm
    have HBE:=Lib.hid hbe;clear hbel hC1 hC2 hr1 hr2 hl1 hl2 hbq hbe;go_upto_region 6 with fail
    refine Q0y 9 27 (by kernel_rfl) (by kernel_rfl) (by kernel_rfl) (by first | rfl | simp) ?_;simp only [List.take_succ_cons,List.take_zero,List.drop_succ_cons,List.drop_zero];refine Q02 rfl rfl (.slice (some ⟨q1,o1,none⟩) n c) (fun W _=>rfl) ?_;try simp only [Act.put,sA1,sA2,sA3]
    refine Q02 rfl rfl (.int .i64 (i:Int)) (fun W _=>rfl) ?_;try simp only [Act.put,sA1,sA2,sA3]
    refine Q02 rfl rfl (.pointer (some ⟨q1,o1+i*2,none⟩)) (fun W _=>by go_simp) ?_;try simp only [Act.put,sA1,sA2,sA3]
    refine Q0o rfl rfl (.agg C1) (fun W hb=>Q0T 77 (.tmp 19) rfl ⟨q1,o1+i*2,none⟩ 2 rfl C1 _ Tryz.underlying77 rfl rfl hs1 (hv1.out W hb)) ?_;try simp only [Act.put,sA1,sA2,sA3]
    refine Q02 rfl rfl (.slice (some ⟨q2,o2,none⟩) n d) (fun W _=>rfl) ?_;try simp only [Act.put,sA1,sA2,sA3]
    refine Q02 rfl rfl (.int .i64 (i:Int)) (fun W _=>rfl) ?_;try simp only [Act.put,sA1,sA2,sA3]
    refine Q02 rfl rfl (.pointer (some ⟨q2,o2+i*2,none⟩)) (fun W _=>by go_simp) ?_;try simp only [Act.put,sA1,sA2,sA3]
    refine Q0o rfl rfl (.agg C2) (fun W hb=>Q0T 77 (.tmp 23) rfl ⟨q2,o2+i*2,none⟩ 2 rfl C2 _ Tryz.underlying77 rfl rfl hs2 (hv2.out W hb)) ?_;try simp only [Act.put,sA1,sA2,sA3]
    refine Q0Q rfl rfl 60 #[.agg C1,.agg C2] (fun W=>by go_simp) (.bool bq) (fun W hb=>HSA.out W hb) ?_;try simp only [Act.put,sA1,sA2,sA3]
    refine Q0S ?_;intro w2 hb2';have HB2:=Lib.hid (HB.out.trans (hb2'.mono hsz));clear hb2' HSA hb1 hb2 hv1 hv2;cases bq with
    | true =>
     have HEQ:=Lib.hid (show cs[i]=ds[i] from of_decide_eq_true HBE.out.symm);go_wp2_with fail
     go_roundw
     case rel=>exact⟨i+1,by omega,by go_num,by rw [List.take_succ_eq_append_getElem hix,List.take_succ_eq_append_getElem hiy,HE.out,HEQ.out],HB2.out⟩
     case measure=>simp [intOf]; omega
    | false =>
     have HEQ:=Lib.hid (show ¬ cs[i]=ds[i] from of_decide_eq_false HBE.out.symm);go_wp2_with fail
     go_ret
     refine⟨Q0N ?_,HB2.out⟩
     symm
     rw [decide_eq_false_iff_not];rintro rfl;exact HEQ.out rfl
   ·obtain rfl:i=n:=by omega
    have hinI:¬ (i:Int)<(i:Int):=by omega
    clear hbel;go_wp2_with fail
    go_ret
    refine⟨Q0N ?_,HB.out⟩
    symm
    rw [decide_eq_true_iff];have h1:=HE.out
    rwa [List.take_of_length_le (by have:=HXL.out; omega),List.take_of_length_le (by have:=HYL.out; omega)] at h1
 ·have hne:((n:Int) != (m:Int))=true:=by rw [bne_iff_ne]; omega
  have HN:=Lib.hid (show cs≠ds by rintro rfl; omega);clear hnn hx hy hxl hyl;go_enter Tryz.func37,Tryz.ntmps37
  go_wp2_with fail
  go_ret
  exact⟨Q0N (by symm; rw [decide_eq_false_iff_not]; exact HN.out),Below.refl _ _⟩
theorem Q8C (A D:Option Addr) (n c m d:Nat) (cs ds:List (Int×List Int)) (w:World) (hx:Q2p w A n cs) (hy:Q2p w D m ds) (hn:n<=1000000) (hm:m<=1000000) :
 Calls Tryz.prog 37 #[.slice A n c,.slice D m d] w fun e w'=>e=.returned (.bool (decide (cs=ds)))/\Below w.heap.size w w' :=
 Q4i A D n c m d cs ds w hx.in_ hy.in_ (by omega) (by omega)
end
end Go.Proofs.YtcpngeiahgoacaaGreat
