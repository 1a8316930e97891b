/- Parts of the proof, in one text. -/
import Derived.Test.YtcpngeiahgoacaaGreatM7
import Derived.Test.YtcpngeiahgoacaaGreatM5
import Derived.Test.YtcpngeiahgoacaaGreatM6
import Derived.Test.YtcpngeiahgoacaaGreatM1
import Derived.Test.YtcpngeiahgoacaaGreatM4
namespace Go.Proofs.YtcpngeiahgoacaaGreat
set_option linter.unusedVariables false
set_option linter.unusedSimpArgs false
set_option maxRecDepth 100000
set_option maxHeartbeats 16000000
open _root_.Array renaming getElem?_eq_getElem->zL
open _root_.Go renaming World->zA,Value->zB
open _root_.Go.IntKind renaming wrap_i64->zP
open _root_.Go.Proofs.Tryz renaming prog->zH,underlying77->zQ
open _root_.Go.Region renaming wanted->zE,Mode->zM,waitsFor->zN
open _root_.Go.RowKit.Below renaming heap_setCell->zD,refl->zJ
open _root_.List renaming getElem?_eq_getElem->zC,getElem?_map->zF,range->zG,length_append->zI
open _root_.Nat renaming zero_add->zK
open _root_.Option.some renaming inj->zO
section
open Go.RowKit Go.Maps
attribute [local irreducible] wpList Q0h
theorem OwnN.ge_ {w:zA} {B b:Nat} {v:zB} {xs:List Int} (h:OwnN w B v xs) (hb:v.ownBlock=some b):B<=b:=by
 rcases h.2 with⟨rfl,_⟩ | ⟨g,cap,cur,rfl,hg,_⟩
 ·cases hb
 have:b=g:=by simpa [Value.ownBlock] using hb.symm
 omega
theorem Qai {P:Program} {ops:Array Oper} {o:Oper} {a:Act} {w:zA} {R:zA->zA->Prop} {J:zA->Prop} {p:zA->zB->Prop} (hw:zE o (yielded ops a.tmps)=true) (v:zB) (w':zA) (he:(execOp a.eval o).run P w=.ok (.value v) w') (hR:R w w') (hJ:J w') (hp:p w' v):Q4m P ops o a w R J p:=fun K Q' hK=>by rw [if_pos hw];unfold Oper.wp;rw [he];exact hK v w' hR hJ hp
theorem Q7l {P:Program} {o:Oper} {a:Act} {w w':zA} {s x:Operand} {t:TypeId} {v vs vx:zB} (ho:o.op=.call { callee:=.builtin .append,args:=#[s,x],argTypes:=#[t,t] }) (hs:a.eval s=vs) (hx:a.eval x=vx) (hrun:(Builtin.append_ #[t,t] o.type #[vs,vx]).run P w=.ok v w'):(execOp a.eval o).run P w=.ok (.value v) w':=by unfold execOp;simp only [ho,resolve,invoke,builtin,Sem.run_bind,Sem.run_pure,Result.andThen_ok,List.map_toArray,List.map_cons,List.map_nil,hs,hx,hrun]
def QcB (l:List Int) (z:Int) (w w':zA):Prop:=∃ g cap y,RowN w g cap (l++[y])/\w'=w.setCell ⟨g,l.length,none⟩ (.int .i64 z)
theorem RowN.put {w w':zA} {g cap:Nat} {l:List Int} {y z:Int} (h:RowN w g cap (l++[y])) (hp:QcB l z w w'):∃ y',RowN w' g cap (l++[y']):=by
 obtain⟨g',cap',y',hr,rfl⟩:=hp;by_cases e:g'=g
 ·subst e;have:=h.set_ (i:=l.length) (by simp) z;rw [List.set_append,if_neg (by omega),Nat.sub_self] at this;exact⟨z,this⟩
 exact⟨y,h.keep (zD w ⟨g',l.length,none⟩ (.int .i64 z) g (fun q=>e q.symm))⟩
theorem one_put {w w':zA} {g:Nat} {l:List Int} {z:Int} (h:Blk w g 3 #[.int .i64 z]) (hp:QcB l z w w'):Blk w' g 3 #[.int .i64 z]:=by
 obtain⟨g',cap',y',hr,rfl⟩:=hp;by_cases e:g'=g
 ·subst e;obtain⟨cur,h1,h2,h3⟩:=hr.row;have hc:cur=#[.int .i64 z]:=by
   unfold Blk at h h1;rw [h] at h1;injection h1 with h1
   injection h1 with h1
   exact h1.symm
  have hl:=hr.cap.1;have hcs:cur.size=1:=by rw [hc]; rfl
  rw [zI,List.length_singleton] at hl;have hl0:l.length=0:=by omega
  rw [hl0];exact h.set_ 0 (.int .i64 z)
 exact zD w ⟨g',l.length,none⟩ (.int .i64 z) g (fun q=>e q.symm) |>.trans h
theorem RowN.putz {w w':zA} {g cap:Nat} {l:List Int} {z:Int} (h:RowN w g cap (l++[z])) (hp:QcB l z w w'):RowN w' g cap (l++[z]):=by
 obtain⟨g',cap',y',hr,rfl⟩:=hp;by_cases e:g'=g
 ·subst e;have:=h.set_ (i:=l.length) (by simp) z;rw [List.set_append,if_neg (by omega),Nat.sub_self] at this;exact this
 exact h.keep (zD w ⟨g',l.length,none⟩ (.int .i64 z) g (fun q=>e q.symm))
theorem own_put {w w':zA} {B:Nat} {v:zB} {l:List Int} {z:Int} (hz:¬ z∈l) (h:OwnN w B v (insL z l)) (hp:QcB l z w w'):OwnN w' B v (insL z l):=by
 obtain⟨g,cap,rfl,hB,hr⟩:=RowN.of_own h (by rw [Q4g]; omega);obtain⟨g',cap',y',hr',rfl⟩:=hp;by_cases e:g'=g
 ·subst e;obtain⟨cur,h1,h2,h3⟩:=hr.row;obtain⟨cur',k1,k2,k3⟩:=hr'.row;have hc:cur'=cur:=by
   unfold Blk at h1 k1;rw [h1] at k1;injection k1 with k1
   injection k1 with k1
   exact k1.symm
  subst hc;have hl:(insL z l).length=(l++[y']).length:=by rw [Q4g]; simp
  rw [hl,k3] at h3;have he:l++[y']=insL z l:=(List.map_inj_right (fun a b q=>by simpa [vn] using q)).1 h3;have hm:z∈l++[y']:=by rw [he]; exact(Q5k z z l).2 (.inl rfl)
  have hzy:z=y':=by
   rcases List.mem_append.1 hm with q | q
   ·exact absurd q hz
   exact List.mem_singleton.1 q
  have:=hr'.set_ (i:=l.length) (by simp) z;rw [List.set_append,if_neg (by omega),Nat.sub_self] at this;have h5:RowN (w.setCell ⟨g',l.length,none⟩ (.int .i64 z)) g' cap (insL z l):=by rw [<- he,<- hzy];obtain⟨c3,q1,q2,q3⟩:=this.row;exact⟨⟨c3,q1,by omega,q3⟩,by have:=hr.cap; rw [<- he,<- hzy] at this; exact this⟩
  exact h5.own hB
 exact(hr.keep (zD w ⟨g',l.length,none⟩ (.int .i64 z) g (fun q=>e q.symm))).own hB
structure RpSt (w4:zA) (g6 f n:Nat) (r:List Int) (s:Nat) (W:zA):Prop where
 only:Only (fun b=>b=g6) w4 W
 zero:s<=1->Blk W g6 77 (crC 0 none 0 0)
 done:s=2->∃ A' c',Blk W g6 77 (crC f A' n c')/\OwnN W w4.heap.size (.slice A' n c') r
theorem RpSt.below {w4 W W':zA} {g6 f n s:Nat} {r:List Int} (h:RpSt w4 g6 f n r s W) (hb:Below W.heap.size W W'):RpSt w4 g6 f n r s W' :=⟨h.only.trans (Only.of_below hb),fun e=>(h.zero e).below' hb,fun e=>by obtain⟨A',c',h1,h2⟩:=h.done e;exact⟨A',c',h1.below' hb,h2.below_ hb⟩⟩
theorem RpSt.put {w4 W:zA} {g6 f n s q k:Nat} {v:zB} {r:List Int} (h:RpSt w4 g6 f n r s W) (hq:w4.heap.size<=q) (hg:g6<w4.heap.size) (hs:s=0):RpSt w4 g6 f n r (s+1) (W.setCell ⟨q,k,none⟩ v):=by subst hs;have ht:=Q0b.setCell W ⟨q,k,none⟩ v;refine⟨?_,fun _=>(ht.block g6 (fun e=>by have e':g6=q:=e; omega)).trans (h.zero (by omega)),fun e=>by omega⟩;have ho:=h.only;exact⟨ho.os,ho.tape,ho.output,by simpa [World.setCell] using ho.size,fun i hi hn=>(ht.block i (fun e=>by have e':i=q:=e; omega)).trans (ho.block i hi hn)⟩
def Q22 (l:List Int) (o n:Int):Prop:=o∈l/\¬ n∈l/\1<=n/\n<=28
def ReplPost (w:zA) (f:Nat) (l:List Int) (o n:Int) (e:Ending) (w':zA):Prop :=Below w.heap.size w w'/\(Q22 l o n->∃ A' k' c',e=.returned (.tuple #[.agg (crC f A' k' c'),.int .i64 0])/\OwnN w' w.heap.size (.slice A' k' c') (Q1L l o n))/\(¬ Q22 l o n->∃ er:Nat,er≠0/\e=.returned (.tuple #[.agg (crC 0 none 0 0),.int .i64 (er:Int)]))
theorem Q5m (f:Nat) (A:Option Addr) (n c:Nat) (l:List Int) (o z:Int) (w:zA) (h:Q08 w w.heap.size 1 A n (l.map vn)) (hok:OkC f l) :
 Calls zH 111 #[.agg (crC f A n c),.int .i64 o,.int .i64 z] w (ReplPost w f l o z):=by
 have hzn:l.length=n:=by have:=h.1; simpa using this
 have hs:=hok.short;have hn7:n<=1000000:=by omega
 have hX:=((zJ w.heap.size w).alloc (Nat.le_refl _) (.cells (crC f A n c) 77)).alloc (by simp) (.cells (crC 0 none 0 0) 77);have HK:=sH ((Blk.newAt rfl:Blk (w.alloc (.cells (crC f A n c) 77)) w.heap.size 77 (crC f A n c)).alloc (.cells (crC 0 none 0 0) 77));have HO:=sH (Blk.newAt (by simp):Blk ((w.alloc (.cells (crC f A n c) 77)).alloc (.cells (crC 0 none 0 0) 77)) (w.heap.size+1) 77 (crC 0 none 0 0));have hr1:=h.below hX;have hs1:((w.alloc (.cells (crC f A n c) 77)).alloc (.cells (crC 0 none 0 0) 77)).heap.size=w.heap.size+2:=by simp
 have HC:=sH (Q3j f A n c l _ (hr1.more hX.size) (by omega));rw [Q4a hok,if_pos rfl] at HC;have HX:=sH hX;have HR1:=sH hr1;have HOK:=sH hok;have HZN:=sH hzn;obtain⟨D,hD⟩:∃ D,D=crC f A n c:=⟨_,rfl⟩;have hsz:D.size=2:=by rw [hD]; rfl
 have c1:D[0]?=some (.int .i64 (f:Int)):=by rw [hD]; rfl
 rw [<- hD] at HX HK HO HC HR1 hs1 ⊢;have C0:=sH c1;have HDD:=sH hD;have HS1:=sH hs1;clear h hr1 hok hX hzn hD c1 hs1;obtain⟨g,hg⟩:∃ g,g=w.heap.size:=⟨_,rfl⟩;obtain⟨g6,hg6⟩:∃ g,g=w.heap.size+1:=⟨_,rfl⟩;go_enter Tryz.func111,Tryz.ntmps111
 go_upto_region 1 with fail
 rw [<- crZ];generalize World.alloc (World.alloc w _) _=w1 at HX HK HO HC HR1 HS1 ⊢;rw [<- hg6] at HO ⊢;rw [<- hg] at HK ⊢;have hs1:=HS1.out;have hgl:g<w1.heap.size:=by omega
 have hgl6:g6<w1.heap.size:=by omega
 have hgg:g≠g6:=by omega
 have hgw:w.heap.size<=g:=by omega
 have hgw6:w.heap.size<=g6:=by omega
 clear HS1 hs1 hg hg6;go_wp2_with (refine Q01 (o:=⟨some 9,_,_,_,_,_⟩) rfl 77 (.tmp 3) rfl g 0 2 rfl 77 _ D _ HK.out zQ rfl rfl hsz (fun _ _=>by rw [zK]; try rfl) ?_)
 refine HC.out.mono ?_;rintro _ w2 ⟨rfl,hb2⟩;have hs2:=hb2.size;have hx:=HX.out.size;have HB2:=sH (HX.out.trans (hb2.mono hx));have HK2:=sH (HK.out.below' hb2);have HO2:=sH (HO.out.below' hb2);have HR2:=sH (HR1.out.below (hb2.mono hx));clear hb2 HC HX HK HO HR1;have HNO:=sH (QbR z w2);by_cases hnode:1<=z/\z<=28
 ·rw [decide_eq_true hnode] at HNO;have hs12:=HB2.out.size;have HH:=sH (Q5J f A n c l o w2 (HR2.out.more hs12) HOK.out);rw [<- HDD.out] at HH;go_wp2_with fail
  refine HNO.out.mono ?_;rintro _ _ ⟨rfl,rfl⟩;go_wp2_with (refine Q01 (o:=⟨some 21,_,_,_,_,_⟩) rfl 77 (.tmp 3) rfl g 0 2 rfl 77 _ D _ HK2.out zQ rfl rfl hsz (fun _ _=>by rw [zK]; try rfl) ?_)
  refine HH.out.mono ?_;rintro _ w3 ⟨rfl,hb3⟩;have hs3:=hb3.size;have HB3:=sH (HB2.out.trans (hb3.mono hs12));have HK3:=sH (HK2.out.below' hb3);have HO3:=sH (HO2.out.below' hb3);have HR3:=sH (HR2.out.below (hb3.mono hs12));clear hb3 HH HB2 HK2 HO2 HR2 HNO;by_cases hin:o∈l
  ·have hs13:=HB3.out.size;have HH:=sH (Q5J f A n c l z w3 (HR3.out.more hs13) HOK.out);rw [<- HDD.out] at HH;rw [decide_eq_true hin];go_wp2_with (first
    | (refine Q01 (o:=⟨some 26,_,_,_,_,_⟩) rfl 77 (.tmp 3) rfl g 0 2 rfl 77 _ D _ HK3.out zQ rfl rfl hsz (fun _ _=>by rw [zK]; try rfl) ?_)
    | (refine Q3d (o:=⟨some 26,_,_,_,_,_⟩) rfl 77 (.tmp 3) rfl g 0 2 rfl 77 _ D _ HK3.out zQ rfl rfl hsz (fun _ _=>by rw [zK]; try rfl) ?_))
   refine HH.out.mono ?_;rintro _ w4 ⟨rfl,hb4⟩;have hs4:=hb4.size;have HB4:=sH (HB3.out.trans (hb4.mono hs13));have HK4:=sH (HK3.out.below' hb4);have HO4:=sH (HO3.out.below' hb4);have HR4:=sH (HR3.out.below (hb4.mono hs13));clear hb4 HH HB3 HK3 HO3 HR3;by_cases hzin:z∈l
   ·rw [decide_eq_true hzin];have hbad:¬ Q22 l o z:=fun h=>h.2.1 hzin
    go_wp2_with (refine Q00 (o:=⟨none,_,_,_,_,_⟩) rfl 77 (.tmp 6) (.tmp 30) rfl g6 0 (crC 0 none 0 0) rfl rfl 77 _ HO4.out (Q1M _ _ _ _) (by simp [crC]) (Q1h _ _ _ _) ?_; intro w7 hT7 hD7; rw [Q3i] at hD7)
    refine bodyPost_ret (Q09 rfl _ _ g6 2 77 _ _ rfl hD7 zQ rfl rfl rfl) rfl ⟨hT7.below HB4.out hgw6,fun h=>absurd h hbad,fun _=>⟨110,by omega,rfl⟩⟩
   rw [decide_eq_false hzin];have hgood:Q22 l o z:=⟨hin,hzin,hnode.1,hnode.2⟩;go_upto_region 8 with fail
   have hs14:=HB4.out.size;have HOT:=sH (fun(W:zA) (hb:Only (fun b=>b=g6) w4 W)=>Qdk f A n c l o W ((HR4.out.below (hb.below hs14 fun b hb' e=>by omega)).more (by have:=hb.size; omega)) HOK.out hin);rw [<- HDD.out] at HOT;have hbs:∀ (ty:TypeId) (W:zA),True:=fun _ _=>trivial
   obtain⟨i0,hi0,hz0,hz1,hz2⟩:=info_parts Q3e;have hdl:(Q28 l o).length+1=n:=by have:=Q5E l o HOK.out.pair hin; have:=HZN.out; omega
   have hok2:=HOK.out.repl hin hzin hnode.1 hnode.2;have hpd:=Q8N o HOK.out.pair;have hnd:¬ z∈Q28 l o:=fun hm=>hzin (Q4y.1 hm).1
   have HOK2:=sH hok2;have HPD:=sH hpd;have HND:=sH hnd;obtain⟨dl,hdle⟩:∃ dl,dl=Q28 l o:=⟨_,rfl⟩;have HDLE:=sH hdle;unfold Q1L at HOK2;rw [<- hdle] at HOT hdl HPD HND HOK2;obtain⟨k,hk⟩:∃ k,k=dl.length:=⟨_,rfl⟩;rw [<- hk] at HOT hdl;have HKK:=sH hk;have HDL:=sH hdl;clear hok2 hpd hnd hdle hk hdl;refine Q1I 13 42 (fun jx W v=>match jx with | 0=>v=.pointer (some ⟨g,0,none⟩) | 1=>v=.int .i64 (f:Int) | 2=>v=.agg D | 3=>v=.int .i64 o | 4=>∃ g2 cap y,v=.slice (some ⟨g2,0,none⟩) k cap/\w4.heap.size<=g2/\RowN W g2 cap (dl++[y]) | 5=>v=.int .i64 z | 6=>∃ g9,v=.slice (some ⟨g9,0,none⟩) 1 1/\w4.heap.size<=g9/\Blk W g9 3 #[.int .i64 z] | 7=>∃ g2 cap,v=.slice (some ⟨g2,0,none⟩) n cap/\w4.heap.size<=g2/\RowN W g2 cap (dl++[z]) | 8=>∃ A' c',v=.tuple #[.agg (crC f A' n c'),.int .i64 0]/\OwnN W w4.heap.size (.slice A' n c') (insL z dl) | 9=>∃ A' c',v=.agg (crC f A' n c')/\OwnN W w4.heap.size (.slice A' n c') (insL z dl) | 10=>v=.int .i64 0 | 11=>True | _=>v=.int .i64 0) (RpSt w4 g6 f n (insL z dl)) (fun W W'=>QcB dl z W W'\/Q0b g6 W W') [7,11] [31,32,33,34,35,36,37,38,39,40,41,7] (by kernel_rfl) (by kernel_rfl) (by kernel_rfl) (by kernel_rfl) (by simp) (by kernel_rfl) (fun jx=>?last) ?lastR (fun s W W' h1 h2=>h1.below h2) ⟨Only.refl _ _,fun _=>HO4.out,fun h=>by omega⟩ ?heads ?_
   case last =>
    match jx with
    | 0 | 1 | 2 | 3 | 5 | 10 | 11 | jx+12=>exact Q15.pure _
    | 4=>exact fun W W' v ⟨g2,cap,y,h1,h2,h3⟩ hb=>⟨g2,cap,y,h1,h2,h3.below hb h3.lt⟩
    | 6=>exact fun W W' v ⟨g9,h1,h2,h3⟩ hb=>⟨g9,h1,h2,h3.below' hb⟩
    | 7=>exact fun W W' v ⟨g2,cap,h1,h2,h3⟩ hb=>⟨g2,cap,h1,h2,h3.below hb h3.lt⟩
    | 8 | 9=>exact fun W W' v ⟨A',c',h1,h2⟩ hb=>⟨A',c',h1,h2.below_ hb⟩
   case lastR =>
    intro s jx W W' v hsl hs hj hp hR;have hg6w:g6<w4.heap.size:=HO4.out.lt;match jx with
    | 0 | 1 | 2 | 3 | 5 | 10 | 11 | jx+12=>exact hp
    | 4 =>
     obtain⟨g2,cap,y,h1,h2,h3⟩:=hp;rcases hR with hR | hR
     ·obtain⟨y',h4⟩:=h3.put hR;exact⟨g2,cap,y',h1,h2,h4⟩
     exact⟨g2,cap,y,h1,h2,h3.keep (hR.block g2 (by omega))⟩
    | 6 =>
     obtain⟨g9,h1,h2,h3⟩:=hp;rcases hR with hR | hR
     ·exact⟨g9,h1,h2,one_put h3 hR⟩
     exact⟨g9,h1,h2,(hR.block g9 (by omega)).trans h3⟩
    | 7 =>
     obtain⟨g2,cap,h1,h2,h3⟩:=hp;rcases hR with hR | hR
     ·exact⟨g2,cap,h1,h2,h3.putz hR⟩
     exact⟨g2,cap,h1,h2,h3.keep (hR.block g2 (by omega))⟩
    | 8 | 9 =>
     obtain⟨A',c',h1,h2⟩:=hp;rcases hR with hR | hR
     ·exact⟨A',c',h1,own_put HND.out h2 hR⟩
     exact⟨A',c',h1,h2.keep_ fun b hb=>hR.block b (fun e=>by have:=h2.ge_ hb; omega)⟩
   case heads =>
    simp only [tT];and_intros;rotate_right;trivial
    all_goals try(rw [if_neg (by decide)];intro s a W hj hkp hd)
    ·have e0:(_:zB)=.pointer (some ⟨g,0,none⟩):=sK hkp 3;exact sV
    ·have e0:=sJ (hd 0) 31;have cc:W.cell? ⟨g,0,none⟩=some (.int .i64 (f:Int)):=((hj.only.blk HK4.out hgg).cell 0).trans C0.out;exact sV
    ·have e0:a.eval (.tmp 3)=.pointer (some ⟨g,0,none⟩):=by have:=hkp.at_ (d:=3) (by kernel_rfl); rw [this]; rfl
     exact Q0j rfl (.agg D) (Q0p 77 (.tmp 3) rfl g 0 2 e0 77 _ D _ (hj.only.blk HK4.out hgg) zQ rfl rfl hsz (fun _ _=>by rw [zK])) rfl
    ·have e0:(_:zB)=.int .i64 o:=sK hkp 1;exact sV
    ·have e0:=sJ (hd 2) 33;have e1:=sJ (hd 3) 34;refine Q0u rfl 146 #[.agg D,.int .i64 o] (by go_simp) ((HOT.out W hj.only).mono ?_);rintro e w' ⟨v,rfl,⟨g2,cap,rfl,hg2,hr⟩,hb⟩;exact⟨_,rfl,hb,g2,cap,0,rfl,by have:=hj.only.size; omega,hr⟩
    ·have e0:(_:zB)=.int .i64 z:=sK hkp 2;exact sV
    ·have e0:=sJ (hd 5) 36;exact Q1X rfl (.slice (some ⟨W.heap.size,0,none⟩) 1 1) (W.alloc (.cells #[.int .i64 z] 3)) (by go_simp) (Q04 _ _) ⟨W.heap.size,rfl,hj.only.size,Blk.new W _ _⟩
    ·rw [if_pos (by decide)];intro s a W hs hj hkp hd;obtain⟨g2,cap,y,e35,hg2,hr2⟩:=(sG (hd 4) 35:);obtain⟨g9,e37,hg9,hr9⟩:=(sG (hd 6) 37:);have e35':a.eval (.tmp 35)=.slice (some ⟨g2,0,none⟩) k cap:=by simpa [Act.eval] using e35
     have e37':a.eval (.tmp 37)=.slice (some ⟨g9,0,none⟩) 1 1:=by simpa [Act.eval] using e37
     have hcp:=hr2.cap.1;rw [zI,List.length_singleton,<- HKK.out] at hcp;have hkn:k+1=n:=HDL.out;have hk2:k<(dl++[y]).length:=by rw [zI,<- HKK.out]; simp
     have happ:∀ ty,(Builtin.append_ #[42,42] ty #[.slice (some ⟨g2,0,none⟩) k cap,.slice (some ⟨g9,0,none⟩) 1 1]).run zH W=.ok (.slice (some ⟨g2,0,none⟩) n cap) (W.setCell ⟨g2,k,none⟩ (.int .i64 z)):=fun ty=>by
      have:=run_append_room_cells (P:=zH) W 42 ty 3 i0 Tryz.underlying42 hi0 g2 0 k cap ⟨g9,0,none⟩ 1 1 [.int .i64 z] (by rw [hz1]; rfl) (fun j u hu=>by
       match j,hu with
       | 0,hu=>rw [<- hu]; exact(hr9.cell 0).trans rfl) (fun u hu=>by rw [List.mem_singleton.1 hu]; rfl) (by omega) (fun j hj=>by
        obtain rfl:j=0:=by simpa using hj
        rw [hz1,zK,Nat.mul_one,Nat.add_zero,hr2.at_ hk2]; rfl) (fun j hj=>hr2.frozen _)
      rw [hz1,zK,Nat.mul_one,hkn] at this;simpa [World.setCells] using this
     have hput:QcB dl z W (W.setCell ⟨g2,k,none⟩ (.int .i64 z)):=⟨g2,cap,y,hr2,by rw [<- HKK.out]⟩;have hset:=hr2.set_ hk2 z;rw [List.set_append,if_neg (by rw [<- HKK.out]; omega),<- HKK.out,Nat.sub_self] at hset;exact Qai rfl (.slice (some ⟨g2,0,none⟩) n cap) (W.setCell ⟨g2,k,none⟩ (.int .i64 z)) (Q7l (s:=.tmp 35) (x:=.tmp 37) rfl e35' e37' (happ _)) (.inl hput) (hj.put (by omega) (by have:=HO4.out.lt; omega) (by have:=(List.getElem?_eq_some_iff.1 hs).1; simp at this; match s,hs,this with | 0,_,_=>rfl | 1,hs,_=>cases hs)) ⟨g2,cap,rfl,hg2,hset⟩
    ·have e0:=sJ (hd 1) 32;obtain⟨g2,cap,e1,hg2,hr2⟩:=(sG (hd 7) 38:);have hlen:(dl++[z]).length=n:=by rw [zI,<- HKK.out]; exact HDL.out
     have hrd:=hr2.reads;rw [hlen] at hrd;refine Q0u rfl 145 #[.int .i64 (f:Int),.slice (some ⟨g2,0,none⟩) n cap] (by go_simp) ((Qdn f (some ⟨g2,0,none⟩) n cap dl z W W.heap.size hrd (Nat.le_refl _) HPD.out HND.out HOK2.out).mono ?_);rintro e w' ⟨A',c',rfl,how,hb⟩;have hln:(insL z dl).length=n:=by rw [Q4g,<- HKK.out]; exact HDL.out
     exact⟨_,rfl,hb,A',c',by rfl,OwnN.more how hj.only.size⟩
    ·obtain⟨A',c',e0,how⟩:=(sG (hd 8) 39:);exact Q0j rfl (.agg (crC f A' n c')) (by go_simp) ⟨A',c',rfl,how⟩
    ·obtain⟨A',c',e0,how⟩:=(sG (hd 8) 39:);exact sV
    ·rw [if_pos (by decide)];intro s a W hs hj hkp hd;obtain⟨A',c',e0,how⟩:=(sG (hd 9) 40:);have e6:a.eval (.tmp 6)=.pointer (some ⟨g6,0,none⟩):=by have:=hkp.at_ (d:=6) (by kernel_rfl); rw [this]; rfl
     have e40:a.eval (.tmp 40)=.agg (crC f A' n c'):=by simpa [Act.eval] using e0
     obtain rfl:s=1:=by
      have:=(List.getElem?_eq_some_iff.1 hs).1;simp at this;match s,hs,this with
      | 0,hs,_=>cases hs
      | 1,_,_=>rfl
     refine Q2x rfl 77 (.tmp 6) (.tmp 40) rfl g6 0 (crC f A' n c') e6 e40 77 _ (hj.zero (by omega)) (Q1M _ _ _ _) (by simp [crC]) (Q1h _ _ _ _) (fun W' hT hD=>⟨.inr hT,?_,trivial⟩);rw [Q3i] at hD;exact⟨hj.only.trans (Only.of_turned hT rfl),fun h=>by omega,fun _=>⟨A',c',hD,how.keep_ fun b hb=>hT.block b (fun e=>by have:=how.ge_ hb; have:=HO4.out.lt; omega)⟩⟩
    have e0:=sJ (hd 10) 41;exact sV
   intro fv W hj hd;have h7:fv 7=.int .i64 0:=hd 12 (by omega) _ 7 rfl rfl;obtain⟨A',c',hB6,how⟩:=hj.done rfl;have HBW:=sH (HB4.out.trans (hj.only.below (B:=w.heap.size) hs14 fun b hb e=>by omega));have HRL:=sH (show insL z dl=Q1L l o z by rw [HDLE.out]; rfl);obtain⟨E,hE⟩:∃ E,E=crC f A' n c':=⟨_,rfl⟩;have hEs:E.size=2:=by rw [hE]; rfl
   rw [<- hE] at hB6;have HB6:=sH hB6;have HOW:=sH how;have HE:=sH hE;simp only [Q0F,List.drop_succ_cons,List.drop_nil,List.drop_zero,h7];clear hd hj hB6 how h7 HOT HK4 HO4 HR4 hE;try simp only [Act.put,sA]
   go_wp2_with fail
   refine bodyPost_ret (Q09 rfl _ _ g6 2 77 _ _ rfl HB6.out zQ rfl rfl hEs) rfl ⟨HBW.out,fun _=>⟨A',n,c',by rw [HE.out]; rfl,?_⟩,fun h=>absurd hgood h⟩;have ho:=HOW.out;rw [HRL.out] at ho;exact OwnN.more ho hs14
  rw [decide_eq_false hin];have hbad:¬ Q22 l o z:=fun h=>hin h.1
  go_wp2_with (refine Q00 (o:=⟨none,_,_,_,_,_⟩) rfl 77 (.tmp 6) (.tmp 30) rfl g6 0 (crC 0 none 0 0) rfl rfl 77 _ HO3.out (Q1M _ _ _ _) (by simp [crC]) (Q1h _ _ _ _) ?_; intro w7 hT7 hD7; rw [Q3i] at hD7)
  refine bodyPost_ret (Q09 rfl _ _ g6 2 77 _ _ rfl hD7 zQ rfl rfl rfl) rfl ⟨hT7.below HB3.out hgw6,fun h=>absurd h hbad,fun _=>⟨110,by omega,rfl⟩⟩
 rw [decide_eq_false hnode] at HNO;have hbad:¬ Q22 l o z:=fun h=>hnode h.2.2
 go_wp2_with fail
 refine HNO.out.mono ?_;rintro _ _ ⟨rfl,rfl⟩;go_wp2_with (refine Q00 (o:=⟨none,_,_,_,_,_⟩) rfl 77 (.tmp 6) (.tmp 19) rfl g6 0 (crC 0 none 0 0) rfl rfl 77 _ HO2.out (Q1M _ _ _ _) (by simp [crC]) (Q1h _ _ _ _) ?_; intro w7 hT7 hD7; rw [Q3i] at hD7)
 refine bodyPost_ret (Q09 rfl _ _ g6 2 77 _ _ rfl hD7 zQ rfl rfl rfl) rfl ⟨hT7.below HB2.out hgw6,fun h=>absurd h hbad,fun _=>⟨2,by omega,rfl⟩⟩
end
section
open Go.RowKit
theorem Q02 {o:Oper} {ops:Array Oper} {tm:Array zB} {j d:Nat} {b:Bool} (hg:o.guard=some (j,b)) (hd:(ops[j]?).bind (·.dst)=some d) (he:tm[d]?.getD undef=.bool b):zE o (yielded ops tm)=true:=by
 unfold zE yielded;rw [hg];simp only [hd,Option.bind_some];cases ht:tm[d]? with
 | none=>rw [ht] at he; simp [undef] at he
 | some v =>
  rw [ht] at he;simp only [Option.getD_some] at he;subst he
  simp
end
section
open Go.RowKit Go.Maps
attribute [local irreducible] wpList Q0h
theorem Q1t {o:Oper} {ops:Array Oper} {tm:Array zB} {j d:Nat} {b b':Bool} (hg:o.guard=some (j,b)) (hd:(ops[j]?).bind (·.dst)=some d) (he:tm[d]?.getD undef=.bool b') (hne:(b' == b)=false):zE o (yielded ops tm)=false:=by
 unfold zE yielded;rw [hg];simp only [hd,Option.bind_some];cases ht:tm[d]? with
 | none=>rw [ht] at he; simp [undef] at he
 | some v =>rw [ht] at he;simp only [Option.getD_some] at he;subst he;simpa using hne
theorem Q8g {o:Oper} {ops:Array Oper} {tm:Array zB} {j d:Nat} {b:Bool} (hg:o.guard=some (j,b)) (hd:(ops[j]?).bind (·.dst)=some d) (he:tm[d]?.getD undef=undef):zE o (yielded ops tm)=false:=by
 unfold zE yielded;rw [hg];simp only [hd,Option.bind_some];cases ht:tm[d]? with
 | none=>simp
 | some v =>rw [ht] at he;simp only [Option.getD_some] at he;subst he;simp [undef]
theorem Q5K (A:Option Addr) (n c:Nat) (zs:List Int) (z:Int) (w:zA) (B:Nat) (h:Q08 w B 1 A n (zs.map vn)) (hn:n<=17592186044416) :
 Calls zH 143 #[.slice A n c,.int .i64 z] w fun e w'=>e=.returned (.bool (decide (z∈zs)))/\w=w':=by
 have hzn:zs.length=n:=by have:=h.1; simpa using this
 have H:=sH h;have HZN:=sH hzn;obtain⟨res,hres⟩:∃ b,b=decide (z∈zs):=⟨_,rfl⟩;rw [<- hres];have HR:=sH (show res=decide (z∈zs.drop 0) by rw [List.drop_zero]; exact hres);clear h hzn hres;go_enter Tryz.func143,Tryz.ntmps143
 go_wp2_with fail
 go_loopw [5] (fun iv wr=>∃ i:Nat,i<=n/\iv=.int .i64 i/\w=wr/\res=decide (z∈zs.drop i)) (fun iv _=>n - (intOf iv).toNat)
 case atStart=>exact⟨0,by omega,rfl,rfl,HR.out⟩
 obtain⟨i,hi,rfl,rfl,hr⟩:=hrel;by_cases hin:i<n
 ·obtain⟨ad,u,hA,hadb,hxi,hcell⟩:=H.out.at_ hin;subst hA;have hil:i<zs.length:=by have:=HZN.out; omega
  have hu:u=.int .i64 zs[i]:=by
   rw [zF,zC hil] at hxi;injection hxi with hxi
   exact hxi.symm
  subst hu;rw [List.drop_eq_getElem_cons hil] at hr;generalize zs[i]=y at hr hcell;clear hxi;by_cases hyz:y=z
  ·have hyb:(y == z)=true:=by simpa using hyz
   have hrt:res=true:=by rw [hr,hyz]; simp
   clear hyz hr;subst hrt;go_wp2_with fail
   go_ret
   exact⟨rfl,rfl⟩
  have hyb:(y == z)=false:=by simpa using hyz
  have HRR:=sH (show res=decide (z∈zs.drop (i+1)) by
   rw [hr];congr 1
   rw [List.mem_cons];exact propext ⟨fun e=>e.resolve_left fun e=>hyz e.symm,.inr⟩)
  clear hyz hr;go_wp2_with fail
  go_roundw
  case rel=>exact⟨i+1,by omega,by go_num,trivial,HRR.out⟩
  case measure=>simp [intOf]; omega
 obtain rfl:i=n:=by omega
 rw [List.drop_of_length_le (by have:=HZN.out; omega)] at hr;have hrf:res=false:=by rw [hr]; simp
 clear hr;subst hrf;go_wp2_with fail
 go_ret
 exact⟨rfl,rfl⟩
theorem Q8W (n:Int) (w:zA):Calls zH 163 #[.int .i64 n] w fun e w'=>e=.returned (.bool (decide (1<=n/\n<=28)))/\w=w':=by
 by_cases h:1<=n
 ·by_cases h2:n<=28
  ·rw [decide_eq_true ⟨h,h2⟩];go_enter Tryz.func163,Tryz.ntmps163
   go_wp2
   go_ret
   exact⟨rfl,rfl⟩
  rw [decide_eq_false fun hh=>h2 hh.2];go_enter Tryz.func163,Tryz.ntmps163
  go_wp2
  go_ret
  exact⟨rfl,rfl⟩
 rw [decide_eq_false fun hh=>h hh.1];go_enter Tryz.func163,Tryz.ntmps163
 go_wp2
 go_ret
 exact⟨rfl,rfl⟩
theorem Q3c (f:Int) (A:Option Addr) (n c:Nat) (zs:List Int) (w:zA) (B:Nat) (h:Q08 w B 1 A n (zs.map vn)) (hB:B<=w.heap.size) (hn:n<=17592186044416) :
 Calls zH 136 #[.agg (crC f A n c)] w fun e w'=>e=.returned (.int .i64 (if okCB f zs=true then 0 else 110))/\Below w.heap.size w w':=by
 have hzn:zs.length=n:=by have:=h.1; simpa using this
 have H:=sH (h.more hB);have HZN:=sH hzn;have HX:=sH (Q04 w (.cells (crC f A n c) 77));have HK:=sH (Blk.newAt rfl:Blk (w.alloc (.cells (crC f A n c) 77)) w.heap.size 77 (crC f A n c));obtain⟨res,hres⟩:∃ b,b=okCB f zs:=⟨_,rfl⟩;rw [<- hres];have HRES:=sH hres;clear h hzn hres hB;obtain⟨g,hg⟩:∃ g,g=w.heap.size:=⟨_,rfl⟩;go_enter Tryz.func136,Tryz.ntmps136
 go_upto_region 1 with fail
 generalize World.alloc w _=w1 at HX HK ⊢;rw [<- hg] at HK ⊢;clear hg;have hbad:¬ (0<=f/\f<=2/\(n:Int)=3*f+1)->res=false:=fun hb=>by rw [HRES.out]; unfold okCB; rw [HZN.out,decide_eq_false hb,Bool.false_and]
 have c0:w1.cell? ⟨g,0,none⟩=some (.int .i64 f):=(HK.out.cell 0).trans rfl;have c1:w1.cell? ⟨g,1,none⟩=some (.slice A n c):=(HK.out.cell 1).trans rfl;by_cases h0:f<0
 ·obtain rfl:=hbad (by omega);clear hbad;go_wp2_with fail
  go_ret
  exact⟨rfl,HX.out⟩
 by_cases h2:2<f
 ·obtain rfl:=hbad (by omega);clear hbad;go_wp2_with fail
  go_ret
  exact⟨rfl,HX.out⟩
 by_cases h3:(n:Int)=3*f+1
 ·have h3b:((n:Int) != 3*f+1)=false:=by simp [h3]
  have HR:=sH (show res=Q1f 0 zs by rw [HRES.out]; unfold okCB; rw [decide_eq_true (by rw [HZN.out]; exact⟨by omega,by omega,h3⟩),Bool.true_and]);have h3w:(IntKind.i64.wrap (IntKind.i64.wrap (3*f)+1))=3*f+1:=by rw [zP,zP]; omega
  have hn7:n<=7:=by omega
  clear hbad HRES;go_wp2_with fail
  clear h3b h3w h3;go_loopw [3] (fun iv wr=>∃ (i:Nat) (last:Int),i<=n/\0<=last/\(0<i->zs[i - 1]?=some last)/\(i=0->last=0)/\iv=.int .i64 i/\Below w.heap.size w wr/\Blk wr g 77 (crC f A n c)/\res=Q1f last (zs.drop i)) (fun iv _=>n - (intOf iv).toNat)
  case atStart=>exact⟨0,0,by omega,by omega,by omega,fun _=>rfl,rfl,HX.out,HK.out,HR.out⟩
  clear HX HK c0 c1 HR
  obtain⟨i,last,hi,hl0,hlst,hl00,rfl,hlow,hblk,hr⟩:=hrel;have HLO:=sH hlow;have HBK:=sH hblk;have hlsz:=hlow.size;have c1:wr.cell? ⟨g,1,none⟩=some (.slice A n c):=(hblk.cell 1).trans rfl;by_cases hin:i<n
  ·obtain⟨ad,u,hA,hadb,hxi,hcell⟩:=(H.out.below hlow).at_ hin;subst hA;have hil:i<zs.length:=by have:=HZN.out; omega
   have hu:u=.int .i64 zs[i]:=by
    rw [zF,zC hil] at hxi;injection hxi with hxi
    exact hxi.symm
   subst hu;have hzi:=zC hil;rw [List.drop_eq_getElem_cons hil] at hr;generalize zs[i]=z at hr hcell hzi;simp only [Q1f] at hr;have HNO:=sH (fun W=>Q8W z W);have hadl:(ad.add i).block<wr.heap.size:=by rw [Q0a]; omega
   have C1:=sH (fun(W:zA) (hb:Below wr.heap.size wr W)=>(hb.cell (p:=⟨g,1,none⟩) hblk.lt).trans c1);have CZ:=sH (fun(W:zA) (hb:Below wr.heap.size wr W)=>(hb.cell hadl).trans hcell);have HIN:=sH (show (i:Int)<(n:Int) by omega);have HLST:=sH hlst;have HZI:=sH hzi;have hrd:=(H.out.below hlow);have HRD:=sH hrd;clear hxi hcell hadl hlow hblk hlst hrd hzi;by_cases hz1:1<=z/\z<=28
   ·rw [decide_eq_true hz1] at HNO;by_cases hi0:i=0
    ·have hl:=hl00 hi0;subst hl;rw [decide_eq_true (by omega),Bool.true_and] at hr;have HRR:=sH hr;have HI:=sH (show i=0 by omega);clear hr hl00 hi0;go_wp2_with fail
     refine Q0m 24 54 (fun jx W v=>match jx with | 0=>v=.pointer (some ⟨g,1,none⟩) | 1=>v=.slice (some ad) n c | 2=>v=.int .i64 (i:Int) | 3=>v=.pointer (some (ad.add i)) | 4=>v=.int .i64 z | 5=>v=.bool true | 6=>v=.bool false | 7=>v=.bool false | 8=>v=.int .i64 (i:Int) | 9=>v=.bool false | 10=>v=.bool false | 11=>v=undef | 12=>v=undef | 13=>v=undef | 14=>v=undef | 15=>v=undef | 16=>v=undef | 17=>v=undef | 18=>v=undef | 19=>v=undef | 20=>v=undef | 21=>v=undef | 22=>v=undef | _=>v=.bool false) [29,30,31,32,33,34,35,36,37,38,39,40,41,42,43,44,45,46,47,48,49,50,51,52] (by kernel_rfl) (by kernel_rfl) (by kernel_rfl) (by simp) (by kernel_rfl) (fun jx=>?last) ?heads ?_
     case last =>
      match jx with
      | 0 | 1 | 2 | 3 | 4 | 5 | 6 | 7 | 8 | 9 | 10 | 11 | 12 | 13 | 14 | 15 | 16 | 17 | 18 | 19 | 20 | 21 | 22 | jx+23=>exact Q15.pure _
     case heads =>
      simp only [tT];and_intros;rotate_right;trivial;all_goals intro a W hb hkp hd
      ·have e0:(_:zB)=.pointer (some ⟨g,0,none⟩):=sK hkp 1;exact sV
      ·have e0:=sJ (hd 0) 29;have cc:=C1.out W hb;exact sV
      ·have e0:(_:zB)=.int .i64 (i:Int):=sK hkp 3;exact sV
      ·have e0:=sJ (hd 1) 30;have e1:=sJ (hd 2) 31;have hlt:=HIN.out;exact sV
      ·have e0:=sJ (hd 3) 32;have cc:=CZ.out W hb;exact sV
      ·have e0:=sJ (hd 4) 33;exact Q0u rfl 163 #[.int .i64 z] (by go_simp) ((HNO.out W).mono fun e w h=>⟨_,h.1,by rw [<- h.2]; exact zJ _ _,rfl⟩)
      ·have e0:=sJ (hd 5) 34;exact sV
      ·have e0:=sJ (hd 6) 35;exact sV
      ·have eg:=sJ (hd 7) 36;have e0:(_:zB)=.int .i64 (i:Int):=sK hkp 3;exact sV (Q02 rfl rfl eg)
      ·have eg:=sJ (hd 7) 36;have e0:=sJ (hd 8) 37;exact Q0j (Q02 rfl rfl eg) (.bool false) (by go_simp; exact HI.out) rfl
      ·have eg:=sJ (hd 7) 36;have e0:=sJ (hd 9) 38;exact sV (Q02 rfl rfl eg)
      iterate 12 ·have eg:=sJ (hd 10) 39;exact Q2n (Q1t rfl rfl eg rfl) rfl
      have eg:=sJ (hd 7) 36;have e0:=sJ (hd 10) 39;have e1:=sJ (hd 22) 51;exact sV (Q02 rfl rfl eg)
     intro f W hbW hd;have hbW2:=hbW;have f36:f 36=.bool false:=hd 7 (by omega) _ 36 rfl rfl;have f52:f 52=.bool false:=hd 23 (by omega) _ 52 rfl rfl;have HLW:=sH (HLO.out.trans (hbW.mono HLO.out.size));clear hd hbW;simp only [Q0F,tU,f36,f52];try simp only [Act.put,sA]
     go_wp2_with fail
     go_roundw
     case rel=>exact⟨i+1,z,by omega,by omega,fun _=>by rw [Nat.add_sub_cancel]; exact HZI.out,by omega,by go_num,HLW.out,HBK.out.below' hbW2,HRR.out⟩
     case measure=>simp [intOf]; omega
    obtain⟨k,hk⟩:∃ k,i=k+1:=⟨i - 1,by omega⟩;have hlk:zs[k]?=some last:=by have:=HLST.out (by omega); rw [hk,Nat.add_sub_cancel] at this; exact this
    have hcp:wr.cell? (ad.add k)=some (.int .i64 last):=by
     obtain⟨ad',e1,e2,e3⟩:=HRD.out.2 (by omega);injection e1 with e1
     subst e1;exact e3 k _ (by rw [zF,hlk]; rfl)
    have CP:=sH (fun(W:zA) (hb:Below wr.heap.size wr W)=>(hb.cell (p:=ad.add k) (by rw [Q0a]; omega)).trans hcp);have HW:=sH (show IntKind.i64.wrap ((i:Int) - 1)=(k:Int) by rw [zP]; omega);have HKN:=sH (show (k:Int)<(n:Int) by omega);have HI:=sH (show 0<i by omega);obtain⟨b,hb⟩:∃ b,b=decide (z<=last):=⟨_,rfl⟩;have HLE:=sH hb.symm;obtain⟨p,hp⟩:∃ p,p=last:=⟨_,rfl⟩;rw [<- hp] at CP HLE;have HB':=sH hb;clear hb hcp hlk hk hi0 hl00 hp;go_wp2_with fail
    refine Q0m 24 54 (fun jx W v=>match jx with | 0=>v=.pointer (some ⟨g,1,none⟩) | 1=>v=.slice (some ad) n c | 2=>v=.int .i64 (i:Int) | 3=>v=.pointer (some (ad.add i)) | 4=>v=.int .i64 z | 5=>v=.bool true | 6=>v=.bool false | 7=>v=.bool false | 8=>v=.int .i64 (i:Int) | 9=>v=.bool true | 10=>v=.bool true | 11=>v=.pointer (some ⟨g,1,none⟩) | 12=>v=.slice (some ad) n c | 13=>v=.int .i64 (i:Int) | 14=>v=.pointer (some (ad.add i)) | 15=>v=.int .i64 z | 16=>v=.pointer (some ⟨g,1,none⟩) | 17=>v=.slice (some ad) n c | 18=>v=.int .i64 (i:Int) | 19=>v=.int .i64 (k:Int) | 20=>v=.pointer (some (ad.add k)) | 21=>v=.int .i64 p | 22=>v=.bool b | _=>v=.bool b) [29,30,31,32,33,34,35,36,37,38,39,40,41,42,43,44,45,46,47,48,49,50,51,52] (by kernel_rfl) (by kernel_rfl) (by kernel_rfl) (by simp) (by kernel_rfl) (fun jx=>?last) ?heads ?_
    case last =>
     match jx with
     | 0 | 1 | 2 | 3 | 4 | 5 | 6 | 7 | 8 | 9 | 10 | 11 | 12 | 13 | 14 | 15 | 16 | 17 | 18 | 19 | 20 | 21 | 22 | jx+23=>exact Q15.pure _
    case heads =>
     simp only [tT];and_intros;rotate_right;trivial;all_goals intro a W hb hkp hd
     ·have e0:(_:zB)=.pointer (some ⟨g,0,none⟩):=sK hkp 1;exact sV
     ·have e0:=sJ (hd 0) 29;have cc:=C1.out W hb;exact sV
     ·have e0:(_:zB)=.int .i64 (i:Int):=sK hkp 3;exact sV
     ·have e0:=sJ (hd 1) 30;have e1:=sJ (hd 2) 31;have hlt:=HIN.out;exact sV
     ·have e0:=sJ (hd 3) 32;have cc:=CZ.out W hb;exact sV
     ·have e0:=sJ (hd 4) 33;exact Q0u rfl 163 #[.int .i64 z] (by go_simp) ((HNO.out W).mono fun e w h=>⟨_,h.1,by rw [<- h.2]; exact zJ _ _,rfl⟩)
     ·have e0:=sJ (hd 5) 34;exact sV
     ·have e0:=sJ (hd 6) 35;exact sV
     ·have eg:=sJ (hd 7) 36;have e0:(_:zB)=.int .i64 (i:Int):=sK hkp 3;exact sV (Q02 rfl rfl eg)
     ·have eg:=sJ (hd 7) 36;have e0:=sJ (hd 8) 37;exact Q0j (Q02 rfl rfl eg) (.bool true) (by go_simp; exact HI.out) rfl
     ·have eg:=sJ (hd 7) 36;have e0:=sJ (hd 9) 38;exact sV (Q02 rfl rfl eg)
     ·have eg:=sJ (hd 10) 39;have e0:(_:zB)=.pointer (some ⟨g,0,none⟩):=sK hkp 1;exact sV (Q02 rfl rfl eg)
     ·have eg:=sJ (hd 10) 39;have e0:=sJ (hd 11) 40;have cc:=C1.out W hb;exact sV (Q02 rfl rfl eg)
     ·have eg:=sJ (hd 10) 39;have e0:(_:zB)=.int .i64 (i:Int):=sK hkp 3;exact sV (Q02 rfl rfl eg)
     ·have eg:=sJ (hd 10) 39;have e0:=sJ (hd 12) 41;have e1:=sJ (hd 13) 42;have hlt:=HIN.out;exact sV (Q02 rfl rfl eg)
     ·have eg:=sJ (hd 10) 39;have e0:=sJ (hd 14) 43;have cc:=CZ.out W hb;exact sV (Q02 rfl rfl eg)
     ·have eg:=sJ (hd 10) 39;have e0:(_:zB)=.pointer (some ⟨g,0,none⟩):=sK hkp 1;exact sV (Q02 rfl rfl eg)
     ·have eg:=sJ (hd 10) 39;have e0:=sJ (hd 16) 45;have cc:=C1.out W hb;exact sV (Q02 rfl rfl eg)
     ·have eg:=sJ (hd 10) 39;have e0:(_:zB)=.int .i64 (i:Int):=sK hkp 3;exact sV (Q02 rfl rfl eg)
     ·have eg:=sJ (hd 10) 39;have e0:=sJ (hd 18) 47;have hw:=HW.out;exact sV (Q02 rfl rfl eg)
     ·have eg:=sJ (hd 10) 39;have e0:=sJ (hd 17) 46;have e1:=sJ (hd 19) 48;have hlt:=HKN.out;exact sV (Q02 rfl rfl eg)
     ·have eg:=sJ (hd 10) 39;have e0:=sJ (hd 20) 49;have cc:=CP.out W hb;exact sV (Q02 rfl rfl eg)
     ·have eg:=sJ (hd 10) 39;have e0:=sJ (hd 15) 44;have e1:=sJ (hd 21) 50;have hle:=HLE.out;exact sV (Q02 rfl rfl eg)
     have eg:=sJ (hd 7) 36;have e0:=sJ (hd 10) 39;have e1:=sJ (hd 22) 51;exact sV (Q02 rfl rfl eg)
    intro f W hbW hd;have hbW2:=hbW;have f36:f 36=.bool false:=hd 7 (by omega) _ 36 rfl rfl;have f52:f 52=.bool b:=hd 23 (by omega) _ 52 rfl rfl;have HLW:=sH (HLO.out.trans (hbW.mono HLO.out.size));clear hd hbW;simp only [Q0F,tU,f36,f52];try simp only [Act.put,sA]
    cases b with
    | true =>
     have hle:z<=last:=of_decide_eq_true HB'.out.symm;rw [decide_eq_false (by omega),Bool.false_and] at hr;subst hr;go_wp2_with fail
     go_ret
     exact⟨rfl,HLW.out⟩
    | false =>
     have hle:¬ z<=last:=of_decide_eq_false HB'.out.symm;rw [decide_eq_true (by omega),Bool.true_and] at hr;have HRR:=sH hr;clear hr;go_wp2_with fail
     go_roundw
     case rel=>exact⟨i+1,z,by omega,by omega,fun _=>by rw [Nat.add_sub_cancel]; exact HZI.out,by omega,by go_num,HLW.out,HBK.out.below' hbW2,HRR.out⟩
     case measure=>simp [intOf]; omega
   rw [decide_eq_false hz1] at HNO;rw [decide_eq_false (by omega),Bool.false_and] at hr;subst hr;clear hl00;go_wp2_with fail
   refine Q0m 24 54 (fun jx W v=>match jx with | 0=>v=.pointer (some ⟨g,1,none⟩) | 1=>v=.slice (some ad) n c | 2=>v=.int .i64 (i:Int) | 3=>v=.pointer (some (ad.add i)) | 4=>v=.int .i64 z | 5=>v=.bool false | 6=>v=.bool true | 7=>v=.bool true | 8=>v=undef | 9=>v=undef | 10=>v=undef | 11=>v=undef | 12=>v=undef | 13=>v=undef | 14=>v=undef | 15=>v=undef | 16=>v=undef | 17=>v=undef | 18=>v=undef | 19=>v=undef | 20=>v=undef | 21=>v=undef | 22=>v=undef | _=>v=undef) [29,30,31,32,33,34,35,36,37,38,39,40,41,42,43,44,45,46,47,48,49,50,51,52] (by kernel_rfl) (by kernel_rfl) (by kernel_rfl) (by simp) (by kernel_rfl) (fun jx=>?last) ?heads ?_
   case last =>
    match jx with
    | 0 | 1 | 2 | 3 | 4 | 5 | 6 | 7 | 8 | 9 | 10 | 11 | 12 | 13 | 14 | 15 | 16 | 17 | 18 | 19 | 20 | 21 | 22 | jx+23=>exact Q15.pure _
   case heads =>
    simp only [tT];and_intros;rotate_right;trivial;all_goals intro a W hb hkp hd
    ·have e0:(_:zB)=.pointer (some ⟨g,0,none⟩):=sK hkp 1;exact sV
    ·have e0:=sJ (hd 0) 29;have cc:=C1.out W hb;exact sV
    ·have e0:(_:zB)=.int .i64 (i:Int):=sK hkp 3;exact sV
    ·have e0:=sJ (hd 1) 30;have e1:=sJ (hd 2) 31;have hlt:=HIN.out;exact sV
    ·have e0:=sJ (hd 3) 32;have cc:=CZ.out W hb;exact sV
    ·have e0:=sJ (hd 4) 33;exact Q0u rfl 163 #[.int .i64 z] (by go_simp) ((HNO.out W).mono fun e w h=>⟨_,h.1,by rw [<- h.2]; exact zJ _ _,rfl⟩)
    ·have e0:=sJ (hd 5) 34;exact sV
    ·have e0:=sJ (hd 6) 35;exact sV
    iterate 3 ·have eg:=sJ (hd 7) 36;exact Q2n (Q1t rfl rfl eg rfl) rfl
    iterate 12 ·have eg:=sJ (hd 10) 39;exact Q2n (Q8g rfl rfl eg) rfl
    have eg:=sJ (hd 7) 36;exact Q2n (Q1t rfl rfl eg rfl) rfl
   intro f W hbW hd;have f36:f 36=.bool true:=hd 7 (by omega) _ 36 rfl rfl;have HLW:=sH (HLO.out.trans (hbW.mono HLO.out.size));clear hd hbW;simp only [Q0F,tU,f36];try simp only [Act.put,sA]
   go_wp2_with fail
   go_ret
   exact⟨rfl,HLW.out⟩
  obtain rfl:i=n:=by omega
  rw [List.drop_of_length_le (by have:=HZN.out; omega)] at hr;subst hr;clear hl00 hlst;go_wp2_with fail
  go_ret
  exact⟨rfl,HLO.out⟩
 have h3b:((n:Int) != 3*f+1)=true:=by simp [h3]
 obtain rfl:=hbad (by omega);clear hbad;go_wp2_with fail
 go_ret
 exact⟨rfl,HX.out⟩
end
section
open Go.RowKit
def Qeo (md:zM) (ops:Array Oper) (n:Nat) (lo:List Nat) (dead:Nat->List Nat):Bool :=(zG lo.length).all fun k=>(dead k).all fun j=>(zG n).all fun i=>!Region.waitsFor md ops i j || i == lo.getD k 0 || Q2L md ops ops.size (lo.getD k 0) i
theorem Q8T {md:zM} {ops:Array Oper} {n:Nat} {lo:List Nat} {dead:Nat->List Nat} (h:Qeo md ops n lo dead=true) {k x j i:Nat} (hk:lo[k]?=some x) (hj:j∈dead k) (hi:i<n) (hw:zN md ops i j=true):i=x\/Q2L md ops ops.size x i=true:=by have hkl:=(List.getElem?_eq_some_iff.1 hk).1;have h1:=List.all_eq_true.1 (List.all_eq_true.1 (List.all_eq_true.1 h k (List.mem_range.2 hkl)) j hj) i (List.mem_range.2 hi);rw [hw,List.getD_eq_getElem?_getD,hk] at h1;simpa using h1
def QdM (md:zM) (ops:Array Oper) (n:Nat) (lo:List Nat) (late:Nat->List Nat):Bool :=(zG lo.length).all fun k=>(late k).all fun j=>decide (j<n) && Q2L md ops ops.size j (lo.getD k 0)
theorem Q8A {md:zM} {ops:Array Oper} {n:Nat} {lo:List Nat} {late:Nat->List Nat} (h:QdM md ops n lo late=true) {k x j:Nat} (hk:lo[k]?=some x) (hj:j∈late k):j<n/\Q2L md ops ops.size j x=true:=by have hkl:=(List.getElem?_eq_some_iff.1 hk).1;have h1:=List.all_eq_true.1 (List.all_eq_true.1 h k (List.mem_range.2 hkl)) j hj;rw [List.getD_eq_getElem?_getD,hk] at h1;simpa using h1
section
variable {P:Program} {md:zM} {ops:Array Oper}
theorem Q7q {n:Nat} {ps:Nat->zA->zB->Prop} {J:Nat->zA->Prop} {R:zA->zA->Prop} {lo:List Nat} {dead late:Nat->List Nat} {a0:Act} {Q':Exit->Act->zA->Prop} (hn:n<=ops.size) (hsc:n=ops.size\/(Region.sinkB md ops n=true/\Region.chainB md ops n=true)) (hd:Q9b ops n=true) (hbk:QcQ md ops n=true)
 (hlo:Q56 md ops n lo=true) (hdd:Qeo md ops n lo dead=true) (hlt:QdM md ops n lo late=true)
 (hl:∀ j,Q15 (ps j)) (hR:∀ s j w w' v,s<lo.length->j∉dead s->j∉late s->(∀ s',s<=s'->lo[s']?≠some j)->J s w->ps j w v->R w w'->ps j w' v) (hJ:∀ s w w',J s w->Below w.heap.size w w'->J s w')
 (hop:∀ i o,i<n->ops[i]?=some o->i∉lo->∀ s a w,J s w->Kept ops n a0 a->(∀ j,zN md ops i j=true->Q23 ops ps j w a)->Q59 P ops o a w (ps i))
 (hop2:∀ i o,i<n->ops[i]?=some o->∀ s a w,lo[s]?=some i->J s w->Kept ops n a0 a->(∀ j,zN md ops i j=true->Q23 ops ps j w a)->Q4m P ops o a w R (J (s+1)) (ps i))
 (hL:∀ a w,J lo.length w->Kept ops n a0 a->(∀ j,j<n->(∀ k,k<lo.length->j∉dead k)->Q23 ops ps j w a)->wpAny P md ops Q' (ops.size - n) (Q0Y ops.size n) a w)
 (hsz:∀ (i:Nat) (o:Oper) (d:Tmp),i<n->ops[i]?=some o->o.dst=some d->d<a0.tmps.size) :
 ∀ (f:Nat) (listed:Array Bool) (s:Nat) (a:Act) (w:zA),((zG n).filter fun i=>!listed.getD i false).length=f->HeadInv md ops n listed->s<=lo.length->(∀ k x,lo[k]?=some x->(listed.getD x false=true <-> k<s))->J s w->Kept ops n a0 a->(∀ j,j<n->listed.getD j false=true->(∀ k,k<s->j∉dead k)->Q23 ops ps j w a)->wpAny P md ops Q' (f+(ops.size - n)) listed a w
 | 0,listed,s,a,w,hf,inv,hsl,hph,hb,hk,hp=>by
  have hall:∀ j,j<n->listed.getD j false=true:=fun j hj=>by
   cases hx:listed.getD j false with
   | true=>rfl
   | false =>
    have:j∈(zG n).filter fun i=>!listed.getD i false:=List.mem_filter.2 ⟨List.mem_range.2 hj,by rw [hx]; rfl⟩
    rw [List.eq_nil_of_length_eq_zero hf] at this;cases this
  have hls:listed=Q0Y ops.size n:=by
   apply Array.ext
   ·rw [inv.size]; simp [Q0Y]
   intro i h1 h2;have hi:i<ops.size:=by rw [<- inv.size]; exact h1
   have e1:listed[i]=listed.getD i false:=by simp [h1]
   have e2:(Q0Y ops.size n)[i]=(Q0Y ops.size n).getD i false:=by simp [h2]
   rw [e1,e2,Q47 _ _ _ _ hi];by_cases hin:i<n
   ·rw [hall i hin,decide_eq_true hin]
   rw [decide_eq_false hin];exact getD_both (inv.tail i (by omega) hi)
  have hsE:s=lo.length:=by
   rcases Nat.lt_or_ge s lo.length with h1 | h1
   ·have h2:=hph s lo[s] (zC h1);have h3:=h2.1 (hall _ (Q48 hlo _ (List.getElem_mem h1)));omega
   omega
  subst hsE;rw [zK,hls];exact hL a w hb hk fun j hj hjd=>hp j hj (hall j hj) hjd
 | f+1,listed,s,a,w,hf,inv,hsl,hph,hb,hk,hp=>by
  have hex:∃ i,i<n/\listed.getD i false=false:=by
   cases hx:(zG n).filter fun i=>!listed.getD i false with
   | nil=>rw [hx] at hf; cases hf
   | cons i t =>
    have:i∈(zG n).filter fun i=>!listed.getD i false:=by rw [hx]; exact List.mem_cons_self
    obtain⟨h1,h2⟩:=List.mem_filter.1 this;exact⟨i,List.mem_range.1 h1,by simpa using h2⟩
  obtain⟨m,hm,hmf,hmb⟩:=Q4k (fun i=>listed.getD i false) n hex;have hin:∀ k,k<n->listed.getD k false=false->listed.getD k true=false:=fun k hk h=>getD_in (by rw [inv.size]; omega) h
  rw [show f+1+(ops.size - n)=(f+(ops.size - n))+1 by omega];refine⟨fun h0=>?_,fun i hi=>?_⟩
  ·exfalso
   have:m∈Region.ready md ops listed:=by refine mem_ready.2 ⟨hin m hm hmf,ops[m],zL (by omega),fun e he hbd=>?_⟩;have h1:=List.all_eq_true.1 hbk m (List.mem_range.2 hm);rw [zL (show m<ops.size by omega)] at h1;have h2:=Array.all_eq_true_iff_forall_mem.1 h1 e he;rw [hbd] at h2;simp at h2;exact hmb e.on h2
   rw [h0] at this;cases this
  have hin':i<n:=by
   rcases Nat.lt_or_ge i n with h | h
   ·exact h
   rcases Nat.lt_or_ge n ops.size with hn' | hn'
   ·have hsc':=hsc.resolve_left (by omega);exact absurd hi (tail_waits hsc'.1 hsc'.2 hn' inv _ m rfl hm (hin m hm hmf) i h)
   obtain⟨_,o,ho,_⟩:=mem_ready.1 hi;have:=(Array.getElem?_eq_some_iff.1 ho).1;omega
  obtain⟨hun,o,ho,hall⟩:=mem_ready.1 hi;have hdep:∀ j,zN md ops i j=true->Q23 ops ps j w a:=fun j hj=>by
   obtain⟨oj,hoj,e,he,hbd,hon⟩:=Region.waitsFor_spec hj;have:oj=o:=zO (hoj.symm.trans ho);subst this;have h1:=hall e he hbd;rw [hon] at h1;have h2:=List.all_eq_true.1 hbk i (List.mem_range.2 hin');rw [ho] at h2;have h3:=Array.all_eq_true_iff_forall_mem.1 h2 e he;rw [hbd] at h3;simp at h3;exact hp j (by omega) h1 fun k hks hjd=>by
    have hkl:k<lo.length:=by omega
    have hk:=zC hkl;have hlx:=(hph k _ hk).2 hks;have hil:listed.getD i false=true:=by
     rcases Q8T hdd hk hjd hin' hj with e | e
     ·rw [e]; exact hlx
     have hxn:=Q48 hlo _ (List.getElem_mem hkl);have hxo:ops[lo[k]]?=some ops[lo[k]]:=zL (by omega);exact Q1l inv i _ _ _ e hxo (inv.closed _ _ hxo hlx)
    rw [getD_both hun] at hil;cases hil
  have hcnt:((zG n).filter fun k=>!(listed.setIfInBounds i true).getD k false).length=f:=by
   have hmem:i∈(zG n).filter fun i=>!listed.getD i false:=List.mem_filter.2 ⟨List.mem_range.2 hin',by rw [getD_both hun]; rfl⟩
   have hnd:((zG n).filter fun i=>!listed.getD i false).Nodup:=List.Pairwise.filter _ List.nodup_range;have he:((zG n).filter fun k=>!(listed.setIfInBounds i true).getD k false)=((zG n).filter fun i=>!listed.getD i false).erase i:=by
    rw [hnd.erase_eq_filter,List.filter_filter];apply List.filter_congr
    intro k hk;by_cases hki:i=k
    ·subst hki;have hlt:i<listed.size:=by rw [inv.size]; omega
     simp [hlt]
    rw [getD_set_ne false hki];simp [Ne.symm hki]
   rw [he,List.length_erase_of_mem hmem,hf];rfl
  have hon:(listed.setIfInBounds i true).getD i false=true:=by
   have hlt:i<listed.size:=by rw [inv.size]; omega
   simp [hlt]
  have hfin:∀ s' v w',s'<=lo.length->(∀ k x,lo[k]?=some x->((listed.setIfInBounds i true).getD x false=true <-> k<s'))->J s' w'->(s<=s')->(∀ j,listed.getD j false=true->(∀ k,k<s'->j∉dead k)->∀ u,ps j w u->ps j w' u)->ps i w' v->wpAny P md ops Q' (f+(ops.size - n)) (listed.setIfInBounds i true) (a.put o.dst v) w':=fun s' v w' hs' hph' hj' hss hlast hpv=>by
   refine Q7q hn hsc hd hbk hlo hdd hlt hl hR hJ hop hop2 hL hsz f _ s' _ w' hcnt (inv.set hi hin') hs' hph' hj' ⟨?_,by rw [Q2X]; exact hk.size,fun d hfree=>?_⟩ fun j hj hlj hjd oj d hoj hdj=>?_
   ·rw [<- hk.defers]; unfold Act.put; split <;> rfl
   ·rw [Q1w (hfree i o hin' ho)]; exact hk.tmps d hfree
   by_cases hji:j=i
   ·subst hji;have:oj=o:=zO (hoj.symm.trans ho);subst this;have hds:d<a.tmps.size:=by rw [hk.size]; exact hsz j oj d hin' hoj hdj
    have he:(a.put oj.dst v).eval (.tmp d)=v:=by rw [hdj];simp [Act.put,Act.eval,hds]
    rw [he];exact hpv
   have hl2:listed.getD j false=true:=by rw [getD_set_ne false (Ne.symm hji)] at hlj; exact hlj
   have he:(a.put o.dst v).eval (.tmp d)=a.eval (.tmp d):=by have:=Q1w (a:=a) (v:=v) (Q2j hd hj hin' hji hoj ho hdj);simp [Act.eval,this]
   rw [he];exact hlast j hl2 hjd _ (hp j hj hl2 (fun k hk=>hjd k (by omega)) oj d hoj hdj)
  unfold wpOp;simp only [ho];by_cases hil:i∈lo
  ·obtain⟨k,hki⟩:=List.mem_iff_getElem?.1 hil;have hnl:listed.getD i false=false:=getD_both hun;have h1:=hph k i hki;have hks:¬ k<s:=fun h2=>by rw [h1.2 h2] at hnl; cases hnl
   have hsk:s=k:=by
    rcases Nat.eq_zero_or_pos k with e | e
    ·omega
    have hpl:k - 1<lo.length:=by have:=(List.getElem?_eq_some_iff.1 hki).1; omega
    have h2:=Q32 hlo (k - 1) lo[k - 1] i (zC hpl) (by rw [show k - 1+1=k by omega]; exact hki);have h3:=Q1l inv _ _ i o h2.2 ho hall;have h4:=(hph (k - 1) _ (zC hpl)).1 h3;omega
   subst hsk;have hrel:=hop2 i o hin' ho s a w hki hb hk hdep (wpAny P md ops Q' (f+(ops.size - n)) (listed.setIfInBounds i true)) Q' (fun v w' hr hj hpv=>hfin (s+1) v w' (by have:=(List.getElem?_eq_some_iff.1 hki).1; omega) (fun k' x hx=>by
    by_cases hxi:x=i
    ·subst hxi;have:=Q7N hlo hx hki;rw [hon]
     simp; omega
    rw [getD_set_ne false (Ne.symm hxi),hph k' x hx];have:k'≠s:=fun e=>hxi (by subst e; rw [hx] at hki; exact zO hki)
    omega) hj (by omega) (fun j hlj hjd u hu=>hR s j _ _ _ (by have:=(List.getElem?_eq_some_iff.1 hki).1; omega) (hjd s (by omega)) (fun hjl=>by
    have h5:=Q8A hlt hki hjl;have hjo:ops[j]?=some ops[j]:=zL (by omega);have h6:=Q1l inv i _ _ _ h5.2 hjo (inv.closed _ _ hjo hlj);rw [hnl] at h6;cases h6) (fun s' hs' e=>by have:=(hph s' j e).1 hlj; omega) hb hu hr) hpv)
   split
   ·rename_i hwt;rw [if_pos hwt] at hrel;exact .inl hrel
   rename_i hwt;rw [if_neg hwt] at hrel;exact hrel
  have hrel:=hop i o hin' ho hil s a w hb hk hdep (wpAny P md ops Q' (f+(ops.size - n)) (listed.setIfInBounds i true)) Q' (fun v w' hbw hpv=>hfin s v w' hsl (fun k' x hx=>by
   have hxi:x≠i:=fun e=>hil (e▸List.mem_of_getElem? hx)
   rw [getD_set_ne false (Ne.symm hxi)];exact hph k' x hx) (hJ s w w' hb hbw) (Nat.le_refl _) (fun j _ _ u hu=>hl j _ _ _ hu hbw) hpv)
  split
  ·rename_i hwt;rw [if_pos hwt] at hrel;exact .inl hrel
  rename_i hwt;rw [if_neg hwt] at hrel;exact hrel
end
theorem Q4w {P:Program} {id:Nat} {Q:Exit->Act->zA->Prop} {a:Act} {w:zA} {l:List Oper} (n m:Nat) (ps:Nat->zA->zB->Prop) (J:Nat->zA->Prop) (R:zA->zA->Prop) (lo:List Nat) (dead late:Nat->List Nat) (ds:List Nat) (hm:P.follows .mixedOrders=true) (hB:QcS .any l.toArray n=true) (hlo:Q56 .any l.toArray n lo=true) (hdd:Qeo .any l.toArray n lo dead=true) (hlt:QdM .any l.toArray n lo late=true) (hsz:Qdj l.toArray n m=true) (ha:a.tmps.size=m) (hds:Q6y l.toArray n=ds)
 (hl:∀ j,Q15 (ps j)) (hR:∀ s j w w' v,s<lo.length->j∉dead s->j∉late s->(∀ s',s<=s'->lo[s']?≠some j)->J s w->ps j w v->R w w'->ps j w' v) (hJ:∀ s w w',J s w->Below w.heap.size w w'->J s w') (hJ0:J 0 w) (hop:Q3B P l.toArray n ps J R lo a 0 (l.take n))
 (h:∀ (f:Nat->zB) w',J lo.length w'->(∀ j,j<n->(∀ k,k<lo.length->j∉dead k)->∀ o d,l.toArray[j]?=some o->o.dst=some d->ps j w' (f d))->wpList P l.toArray Q (l.drop n) (Q0F a ds f) w'):(Code.region id l.toArray true).wp P Q a w:=by
 simp only [QcS,Bool.and_eq_true,Bool.or_eq_true,decide_eq_true_eq] at hB;obtain⟨⟨⟨⟨hn,hsc⟩,hd⟩,hbk⟩,hsq⟩:=hB;have inv0:HeadInv .any l.toArray n (Array.replicate l.toArray.size false) :=⟨by simp,fun j oj _ hl=>(by rw [getD_replicate_false] at hl; cases hl),fun t _ ht=>getD_in (by simpa using ht) (getD_replicate_false _ _)⟩
 have hdl:(l.drop n).length=l.toArray.size - n:=by simp
 refine wp_region_any hm ?_;have:=Q7q (Q':=Q) (md:=.any) (P:=P) (ops:=l.toArray) (n:=n) (ps:=ps) (J:=J) (R:=R) (lo:=lo) (a0:=a) hn hsc hd hbk hlo hdd hlt hl hR hJ (fun i o hi ho hni s a' w' h1 h2 h3=>by
  have:=Q3B.spec (l.take n) 0 hop i o (by rw [List.getElem?_take,if_pos hi]; simpa using ho);simp only [zK] at this;rw [if_neg hni] at this;exact this s a' w' h1 h2 h3)
  (fun i o hi ho s a' w' hlos h1 h2 h3=>by have:=Q3B.spec (l.take n) 0 hop i o (by rw [List.getElem?_take,if_pos hi]; simpa using ho);simp only [zK] at this;rw [if_pos (List.mem_of_getElem? hlos)] at this;exact this s a' w' hlos h1 h2 h3)
  (fun a' w' h1 h2 h3=>by
   have:=wpAny_of_seq (md:=.any) (ops:=l.toArray) (Q':=Q) (l.drop n) n (Q0Y l.toArray.size n) a' w' (fun j=>by simp [List.getElem?_drop]) (by rw [hdl]; exact hsq) (by rw [h2.puts (by rw [ha]; exact hsz),hds];exact h _ w' h1 fun j hj hjd o d ho hd=>(h3 j hj hjd).get d ho hd)
   rw [hdl] at this;exact this)
  (fun i o d hi ho hdst=>by have:=List.all_eq_true.1 hsz i (List.mem_range.2 hi);simp only [ho,hdst,decide_eq_true_eq] at this;rw [ha]; exact this)
  n (Array.replicate l.toArray.size false) 0 a w.drew (by
   rw [List.filter_eq_self.2 (fun i _=>by rw [getD_replicate_false]; rfl)]
   simp) inv0 (Nat.zero_le _) (fun k x _=>by rw [getD_replicate_false]; simp) (hJ 0 _ _ hJ0 (zJ _ w).drew) ⟨rfl,rfl,fun _ _=>rfl⟩ (fun j _ hj=>by rw [getD_replicate_false] at hj; cases hj)
 rw [show n+(l.toArray.size - n)=l.toArray.size by omega] at this;exact this
end
end Go.Proofs.YtcpngeiahgoacaaGreat
