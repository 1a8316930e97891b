/- Parts of the proof, in one text: RefE, NoteBook, RkA, RkB. -/
import Derived.Test.YtcpngeiahgoacaaGreatD19
import Derived.Test.YtcpngeiahgoacaaGreatD3
import Derived.Test.YtcpngeiahgoacaaGreatD8
import Derived.Test.YtcpngeiahgoacaaGreatD4
import Derived.Test.YtcpngeiahgoacaaGreatD6
namespace Go.Proofs.YtcpngeiahgoacaaGreat
set_option linter.unusedVariables false
set_option linter.unusedSimpArgs false
set_option maxRecDepth 100000
set_option maxHeartbeats 16000000
section
open Go.RowKit
attribute [local go_sem] Q8x Q5X Q8V Q63 Q9G w_or Q8j Q96 Q7n Q66 Q4e Q85 Q5A Q7u Q5s Q3S Q3n Q4S Q4r
theorem bRow_rng (l:List UInt8) (n:Nat) (h:l.length=n):bRow l=rng n (fun j=>vb (l.getD j 0)):=by
 refine Q40 (by rw [Q1j,h]) fun j hj=>?_
 rw [bRow,List.getElem?_toArray,List.getElem?_map,Q1Q _ _ (by omega)]; rfl
def Q3N (l:List UInt8) (n k:Nat):Array Value:=rng n (fun j=>if j<k then vb (l.getD j 0) else .int .u8 0)
theorem Q5P (l:List UInt8) (n:Nat):Q3N l n 0=Array.replicate n (.int .u8 0):=(Q40 (by simp) fun j hj=>by simp [hj]).symm
theorem Q5R (l:List UInt8) (n:Nat) (h:l.length=n):Q3N l n n=bRow l:=by
 rw [bRow_rng l n h]; exact Q1n fun j hj=>by rw [if_pos hj]
theorem Q7W (l:List UInt8) (n k:Nat) (h:k<n):(Q3N l n k)[k]?=some (.int .u8 0):=by
 unfold Q3N; rw [Q1z _ _ _ h,if_neg (by omega)]
theorem Q5V (l:List UInt8) (n k:Nat):(Q3N l n k).setIfInBounds k (vb (l.getD k 0))=Q3N l n (k+1):=by
 unfold Q3N;rw [Q2f];refine Q1n fun j hj=>?_
 by_cases h1:j=k
 ·subst h1; rw [if_pos rfl,if_pos (by omega)]
 ·rw [if_neg h1];by_cases h2:j<k
  ·rw [if_pos h2,if_pos (by omega)]
  ·rw [if_neg h2,if_neg (by omega)]
theorem acc_step (p:List UInt8) (k:Nat) (S:St) (h:acc (p.take (64*k))=(S,[])) (hk:64*k+64<=p.length):acc (p.take (64*(k+1)))=(Q0x S ((p.drop (64*k)).take 64),[]):=by
 have e:p.take (64*(k+1))=p.take (64*k)++(p.drop (64*k)).take 64:=by
  rw [show 64*(k+1)=64*k+64 by omega,List.take_add]
 rw [e,Q5z,h,Q4g S [] _ (by simp; omega) (by simp)]
 simp
theorem Q7b (p:List UInt8) (o j:Nat) (hj:j<64) (hl:o+64<=p.length):p[o+j]?=some (((p.drop o).take 64).getD j 0):=by
 rw [List.getD_eq_getElem?_getD,List.getElem?_take,if_pos hj,List.getElem?_drop,List.getElem?_eq_getElem (by omega)]; rfl
theorem Qdg:Array.replicate 64 (Value.int .u8 0)=#[.int .u8 0,.int .u8 0,.int .u8 0,.int .u8 0,.int .u8 0,.int .u8 0,.int .u8 0,.int .u8 0,.int .u8 0,.int .u8 0,.int .u8 0,.int .u8 0,.int .u8 0,.int .u8 0,.int .u8 0,.int .u8 0,.int .u8 0,.int .u8 0,.int .u8 0,.int .u8 0,.int .u8 0,.int .u8 0,.int .u8 0,.int .u8 0,.int .u8 0,.int .u8 0,.int .u8 0,.int .u8 0,.int .u8 0,.int .u8 0,.int .u8 0,.int .u8 0,.int .u8 0,.int .u8 0,.int .u8 0,.int .u8 0,.int .u8 0,.int .u8 0,.int .u8 0,.int .u8 0,.int .u8 0,.int .u8 0,.int .u8 0,.int .u8 0,.int .u8 0,.int .u8 0,.int .u8 0,.int .u8 0,.int .u8 0,.int .u8 0,.int .u8 0,.int .u8 0,.int .u8 0,.int .u8 0,.int .u8 0,.int .u8 0,.int .u8 0,.int .u8 0,.int .u8 0,.int .u8 0,.int .u8 0,.int .u8 0,.int .u8 0,.int .u8 0]:=rfl
theorem Q8R:Array.replicate 32 (Value.int .u8 0)=#[.int .u8 0,.int .u8 0,.int .u8 0,.int .u8 0,.int .u8 0,.int .u8 0,.int .u8 0,.int .u8 0,.int .u8 0,.int .u8 0,.int .u8 0,.int .u8 0,.int .u8 0,.int .u8 0,.int .u8 0,.int .u8 0,.int .u8 0,.int .u8 0,.int .u8 0,.int .u8 0,.int .u8 0,.int .u8 0,.int .u8 0,.int .u8 0,.int .u8 0,.int .u8 0,.int .u8 0,.int .u8 0,.int .u8 0,.int .u8 0,.int .u8 0,.int .u8 0]:=rfl
theorem Qck (A:Option Addr) (n c:Nat) (xs:List UInt8) (w:World) (B:Nat) (h:Q0d w B 1 A n (xs.map vb)) (hB:B<=w.heap.size) (hn:n<=140737488355200) :
 Calls Tryz.prog 212 #[.slice A n c] w fun e w'=>e=.returned (.agg (bRow (Q14 xs)))/\Below w.heap.size w w':=by
 have hxn:xs.length=n:=by have:=h.1; simpa using this
 have HXN:=Lib.hid hxn;clear hxn;go_enter Tryz.func212,Tryz.ntmps212
 go_wp2_with fail
 have hWr:=Blk.new w 60 (Array.replicate 32 (.int .u8 0));have hWs:(w.alloc (.cells (Array.replicate 32 (.int .u8 0)) 60)).heap.size=w.heap.size+1:=by simp
 have hWb:=(Below.refl w.heap.size w).alloc (Nat.le_refl _) (.cells (Array.replicate 32 (.int .u8 0)) 60);have hWh:=h.alloc hB (.cells (Array.replicate 32 (.int .u8 0)) 60);rw [Q8R] at hWr hWs hWb hWh;generalize w.alloc _=W at hWr hWs hWb hWh ⊢;refine(Q8O A n c xs W B hWh (by omega) hn).mono ?_;rintro _ w1 ⟨v1,rfl,hO1,hb1⟩;have hs1:=hb1.size;have hlen:(Q4h xs).length % 64=0:=Qc4 xs;have hacc:=Qbv xs;have hsha:Q14 xs=outB (Q29 (acc xs).1 (acc xs).2 xs.length):=rfl;have hpl:(Q4h xs).length<=n+100:=by
  have:=HXN.out;have:=QcY xs.length;simp [Q4h,Q2D]; omega
 generalize Q4h xs=p at hO1 hlen hacc hpl;generalize Q29 (acc xs).1 (acc xs).2 xs.length=SL at hacc hsha;have hR1:=hWr.below hb1 (by omega);have hE1:=hWb.trans (hb1.mono (by omega));obtain⟨A1,c1,rfl,hc1,hc2,hrd,hge⟩:=Q0p hO1;unfold maxLen at hc2;have HA:=Lib.hid hacc;have HSH:=Lib.hid hsha;have HLEN:=Lib.hid hlen;have HRD:=Lib.hid hrd;have HR1:=Lib.hid hR1;have HE1:=Lib.hid hE1;obtain⟨m,hm⟩:∃ m,m=p.length:=⟨_,rfl⟩;have HM:=Lib.hid hm;rw [<- hm] at hc1 hpl ⊢;clear hacc hsha hlen hR1 hE1 hO1 hge hrd hWr hWb hWh h hm hb1;go_wp2_with fail
 refine(Q9q w1).mono ?_;rintro _ w2 ⟨rfl,hb2⟩;have hs2:=hb2.size;have HRD2:=Lib.hid (HRD.out.below hb2);have HR2:=Lib.hid (HR1.out.below hb2 HR1.out.lt);have HE2:=Lib.hid (HE1.out.trans (hb2.mono (by omega)));clear hb2;have HV:=Lib.hid (Q39 h0);have HZ:=Lib.hid (Q0X h0);generalize hv0:h0.vals=v0 at HV HZ ⊢;have HV0:=Lib.hid hv0;clear hv0;go_wp2_with (refine Q01 rfl 274 (.tmp 4) (.tmp 12) rfl w2.heap.size 0 v0 rfl rfl 274 _ (Blk.newAt rfl) (by rw [HZ.out]; rfl) (by rw [HZ.out]; simp) HV.out ?_; intro W3 hT3 hB3; rw [Q08 _ _ (by rw [HZ.out]; simp)] at hB3)
 have hR3:=hT3.blk (HR2.out.alloc _) (Nat.ne_of_lt HR2.out.lt);have hE3:=hT3.below (HE2.out.alloc HE2.out.size _) HE2.out.size;have hRD3:Q0d W3 w1.heap.size 1 A1 p.length (p.map vb):=by
  have h1:=HRD2.out.alloc hs2 (.cells #[Value.int .u32 0,Value.int .u32 0,Value.int .u32 0,Value.int .u32 0,Value.int .u32 0,Value.int .u32 0,Value.int .u32 0,Value.int .u32 0] 274);exact h1.keep fun q hq=>hT3.cell (by omega)
 obtain⟨g4,hg4⟩:∃ g4,g4=w2.heap.size:=⟨_,rfl⟩;rw [<- hg4] at hB3 hT3 ⊢;have hg4w:w1.heap.size<=g4:=by omega
 have hg4r:w.heap.size<g4:=by omega
 have hg4l:=hB3.lt;rw [<- HV0.out] at hB3;have HB3:=Lib.hid hB3;have HR3:=Lib.hid hR3;have HE3:=Lib.hid hE3;have HRD3:=Lib.hid hRD3;clear hT3 hB3 hR3 hE3 hRD3 hg4;go_loopw [5] (fun i wr=>∃ (k:Nat) (S:St),64*k<=m/\i=.int .i64 (64*(k:Int))/\Hid (acc (p.take (64*k))=(S,[]))/\Blk wr g4 274 S.vals/\W3.grownBy wr (some g4)) (fun i _=>m - (intOf i).toNat)
 case atStart=>exact⟨0,h0,by omega,rfl,by rw [Nat.mul_zero,List.take_zero]; exact(rfl:acc []=(h0,[])),HB3.out,World.grownBy.refl _ _⟩
 case round =>
  obtain⟨k,S,hk,rfl,hS,hB4,hgr⟩:=hrel;have HB4:=Lib.hid hB4;have HGR:=Lib.hid hgr;have hrs:=hgr.size;clear hB4 hgr;by_cases hlt:64*k<m
  ·have hlt2:64*k+64<=m:=by have:=HLEN.out; have:=HM.out; omega
   have hpl2:0<p.length:=by have:=HM.out; omega
   obtain⟨ad,rfl,hadb,hadc⟩:=HRD3.out.2 hpl2;have HC:=Lib.hid hadc;clear hadc;generalize hb:(p.drop (64*k)).take 64=blk;have hbl:blk.length=64:=by have:=HM.out; rw [<- hb]; simp; omega
   have hget:∀ j,j<64->p[64*k+j]?=some (blk.getD j 0):=fun j hj=>by rw [<- hb]; exact Q7b p _ j hj (by have:=HM.out; omega)
   have HBK:=Lib.hid hb;have HGET:=Lib.hid hget;have HBL:=Lib.hid hbl;clear hb hget hbl;go_wp2_with fail
   have hW4:=Blk.newAt (w:=wr) (t:=275) (cs:=Array.replicate 64 (.int .u8 0)) rfl;have hW4b:=(HB4.out).alloc (.cells (Array.replicate 64 (.int .u8 0)) 275);have hW4g:=Q4p HGR.out (.cells (Array.replicate 64 (.int .u8 0)) 275);have hW4s:(wr.alloc (.cells (Array.replicate 64 (.int .u8 0)) 275)).heap.size=wr.heap.size+1:=by simp
   rw [Qdg] at hW4 hW4b hW4g hW4s;obtain⟨g6,hg6⟩:∃ g6,g6=wr.heap.size:=⟨_,rfl⟩;rw [<- hg6] at hW4 hW4s hrs ⊢;have hg4':=HB4.out.lt;rw [<- hg6] at hg4';clear hg6;generalize wr.alloc _=W5 at hW4 hW4b hW4g hW4s ⊢;rw [<- Qdg,<- Q5P blk 64] at hW4;have HW4b:=Lib.hid hW4b;have HW4g:=Lib.hid hW4g;have HW4:=Lib.hid hW4;clear hW4 hW4b hW4g;go_wp2_with fail
   go_loopw [7] (fun i wr=>∃ j:Nat,j<=64/\i=.int .i64 j/\Blk wr g6 275 (Q3N blk 64 j)/\Q0c g6 W5 wr) (fun i _=>64 - (intOf i).toNat)
   case atStart=>exact⟨0,by omega,rfl,HW4.out,Q0c.refl _ _⟩
   case round =>
    obtain⟨j,hj,rfl,hBj,hTj⟩:=hrel;by_cases hj1:j<64
    ·have e1:((64*(k:Int)+(j:Int))).toNat=64*k+j:=by omega
     have hsrc:wr.cell? (ad.add (64*k+j))=some (.int .u8 (bi (blk.getD j 0))):=by
      have h1:=HC.out (64*k+j) (vb (blk.getD j 0)) (by rw [List.getElem?_map,HGET.out j hj1]; rfl);have hne:(ad.add (64*k+j)).block≠g6:=by rw [Q0e]; omega
      rw [hTj.cell hne,World.cell?_of_block (HW4g.out.block _ (by rw [Q0e]; omega) (by rw [Q0e]; intro e; injection e with e; omega))];exact h1
     have hdst:=(hBj.cell j).trans (Q7W blk 64 j hj1);have hfz:=hBj.frozen j;have HBj:=Lib.hid hBj;have HTj:=Lib.hid hTj;clear hBj hTj
     go_wp2
     go_roundw
     case rel =>
      have h2:=HBj.out.set_ j (vb (blk.getD j 0));rw [Q5V] at h2;exact⟨j+1,by omega,by go_num,h2,HTj.out.trans (Q0c.setCell _ ⟨g6,j,none⟩ _)⟩
     case measure=>simp [intOf]; omega
    ·obtain rfl:j=64:=by omega
     rw [Q5R blk 64 HBL.out] at hBj;have hB4:=hTj.blk HW4b.out (by omega);have hgr:=Q60 HW4g.out hTj (by omega);have hbs:(bRow blk).size=64:=by rw [Q1j,HBL.out]
     have HR:=Lib.hid (fun W=>Q9B S blk HBL.out W);have HBS:=Lib.hid hbs;have HB6:=Lib.hid hBj;have HB4:=Lib.hid hB4;have HGR:=Lib.hid hgr;have HVZ:=Lib.hid (Q0X S);have HCZ:=Lib.hid (Q0X (Q0x S blk));have HCA:=Lib.hid (Q39 (Q0x S blk));clear hbs hBj hB4 hgr hTj;generalize bRow blk=br at HBS HB6 HR;generalize S.vals=sv at HB4 HVZ HR;generalize hcv:(Q0x S blk).vals=cv at HCZ HCA HR;have HCV:=Lib.hid hcv;clear hcv;go_wp2_with (first
      | (refine Q03 rfl 274 (.tmp 4) rfl g4 0 8 rfl 274 _ sv _ HB4.out Tryz.underlying274 rfl rfl HVZ.out (fun _ _=>by rw [Nat.zero_add]) ?_)
      | (refine Q03 rfl 275 (.tmp 6) rfl g6 0 64 rfl 275 _ br _ HB6.out Tryz.underlying275 rfl rfl HBS.out (fun _ _=>by rw [Nat.zero_add]) ?_)
      | fail)
     refine(HR.out _).mono ?_;rintro _ w6 ⟨rfl,hb6⟩;have hB46:=HB4.out.below hb6 HB4.out.lt;have hgr6:=HGR.out.trans (Q0O hb6 (some g4));have HB46:=Lib.hid hB46;have HGR6:=Lib.hid hgr6;clear hB46 hgr6 hb6;go_wp2_with (refine Q01 rfl 274 (.tmp 4) (.tmp 33) rfl g4 0 cv rfl rfl 274 _ HB46.out (by rw [HCZ.out]; rfl) (by rw [HCZ.out,HVZ.out]; omega) HCA.out ?_; intro W7 hT7 hB7; rw [Q08 _ _ (by rw [HCZ.out,HVZ.out])] at hB7)
     go_roundw
     case rel =>
      rw [<- HCV.out] at hB7;refine⟨k+1,Q0x S blk,by omega,by go_num,?_,hB7,HGR6.out.trans hT7.grown⟩;have:=acc_step p k S hS (by have:=HM.out; omega);rw [HBK.out] at this;exact this
     case measure=>simp [intOf]; omega
  ·have hSL:S=SL:=by
    have h1:acc (p.take (64*k))=(S,[]):=hS;have h2:=HA.out;rw [List.take_of_length_le (by have:=HM.out; omega),h2] at h1;injection h1 with h1
    exact h1.symm
   subst hSL;have hR:=HR3.out.grown HGR.out (by intro e; injection e with e; omega);have hE:=Q0k HE3.out HE3.out.size HGR.out (fun b hb=>by injection hb with hb; omega);have HR:=Lib.hid hR;have HE:=Lib.hid hE;have hsz:=hE.size;clear hR hE;go_wp2_with fail
   have hD:=Blk.newAt (w:=wr) (t:=60) (cs:=Array.replicate 32 (.int .u8 0)) rfl;have hs6:=(HB4.out).alloc (.cells (Array.replicate 32 (.int .u8 0)) 60);have hr6:=(HR.out).alloc (.cells (Array.replicate 32 (.int .u8 0)) 60);have hE6:=(HE.out).alloc hsz (.cells (Array.replicate 32 (.int .u8 0)) 60);rw [Q8R] at hD hs6 hr6 hE6;obtain⟨gd,hgd⟩:∃ gd,gd=wr.heap.size:=⟨_,rfl⟩;have hgs:=HB4.out.lt;have hgr:=HR.out.lt;rw [<- hgd] at hD hgs hgr hsz ⊢;clear hgd;generalize wr.alloc _=W6 at hD hs6 hr6 hE6 ⊢;rw [<- Q8R,<- Q5P (outB S) 32] at hD;have HD:=Lib.hid hD;have HS6:=Lib.hid hs6;have HR6:=Lib.hid hr6;have HE6:=Lib.hid hE6;clear hD hs6 hr6 hE6;go_wp2_with fail
   go_loopw [9] (fun i wr=>∃ k:Nat,k<=32/\i=.int .i64 k/\Blk wr gd 60 (Q3N (outB S) 32 k)/\Q0c gd W6 wr) (fun i _=>32 - (intOf i).toNat)
   case atStart=>exact⟨0,by omega,rfl,HD.out,Q0c.refl _ _⟩
   case round =>
    obtain⟨k,hk,rfl,hBk,hTk⟩:=hrel;by_cases hk8:k<32
    ·have e1:((k:Int) / 4).toNat=k / 4:=by omega
     have e2:((24:Int) - 8*((k:Int) % 4)).toNat=24 - 8*(k % 4):=by omega
     have cs0:=((hTk.blk HS6.out (by omega)).cell (k / 4)).trans (Qb1 S (k / 4) (by omega));have cd0:=(hBk.cell k).trans (Q7W _ _ k hk8);have fd0:=hBk.frozen k;have HBk:=Lib.hid hBk;have HTk:=Lib.hid hTk;clear hBk hTk
     go_wp2
     go_roundw
     case rel =>
      have h2:=HBk.out.set_ k (vb ((outB S).getD k 0));rw [Q5V,Qbh _ k hk8] at h2;exact⟨k+1,by omega,by go_num,h2,HTk.out.trans (Q0c.setCell wr ⟨gd,k,none⟩ _)⟩
     case measure=>simp [intOf]; omega
    ·obtain rfl:k=32:=by omega
     rw [Q5R _ 32 (Q55 _),<- HSH.out] at hBk;have hr7:=hTk.blk HR6.out (by omega);have hE7:=hTk.below HE6.out hsz;have hbs:=Q1j (Q14 xs);rw [Q2A] at hbs;have HBk:=Lib.hid hBk;have HR7:=Lib.hid hr7;have HE7:=Lib.hid hE7;have HON:=Lib.hid (Q0K (Q14 xs));have HBS:=Lib.hid hbs;clear hBk hTk hr7 hE7 hbs;generalize hd:bRow (Q14 xs)=d at HBk HON HBS;have HDD:=Lib.hid hd;clear hd;go_wp2_with (first
      | (refine Q03 rfl 60 (.tmp 8) rfl gd 0 32 rfl 60 _ d _ HBk.out Tryz.underlying60 rfl rfl HBS.out (fun _ _=>by rw [Nat.zero_add]) ?_)
      | (refine Q01 rfl 60 (.tmp 2) (.tmp 50) rfl w.heap.size 0 d rfl rfl 60 _ HR7.out (by rw [HBS.out]; rfl) (by rw [HBS.out]; simp) HON.out ?_; intro W8 hT8 hB8; rw [Q08 _ _ (by rw [HBS.out]; simp)] at hB8))
     refine bodyPost_ret (Q0h rfl _ _ w.heap.size 32 60 _ _ rfl hB8 Tryz.underlying60 rfl rfl HBS.out) rfl ⟨by rw [HDD.out],hT8.below HE7.out (Nat.le_refl _)⟩
end
section
open Go.RowKit Go.Maps
def Held (lv:Value) (vs:List Value) (b:Nat):Prop:=lv.ownBlock=some b\/∃ v,v∈vs/\v.ownBlock=some b
def Q4W (lv:Value) (many:Nat):Array Value:=#[lv,.int .i64 (many:Int)]
structure Q15 (w:World) (r B:Nat) (lv:Value) (vs:List Value) (l:List (List UInt8)) (many:Nat):Prop where
 lt:r<B
 cells:Blk w r 186 (Q4W lv many)
 row:w.ownsRow B 22 1 lv l.length vs
 each:∀ (j:Nat) (x:List UInt8),l[j]?=some x->∃ v,vs[j]?=some v/\OwnB w B v x/\(∀ b,v.ownBlock=some b->lv.ownBlock≠some b)
theorem Q15.len {w:World} {r B many:Nat} {lv:Value} {vs:List Value} {l:List (List UInt8)} (h:Q15 w r B lv vs l many):vs.length=l.length:=by have:=h.row.1; omega
theorem Q15.row_lt {w:World} {r B many:Nat} {lv:Value} {vs:List Value} {l:List (List UInt8)} (h:Q15 w r B lv vs l many) {b:Nat} (hb:lv.ownBlock=some b):B<=b/\b<w.heap.size:=by
 rcases h.row.2 with⟨rfl,_⟩ | ⟨g,cap,cur,rfl,hg,hh,_⟩
 ·simp [Value.ownBlock] at hb
 ·simp [Value.ownBlock] at hb; subst hb;refine⟨hg,?_⟩;rcases Nat.lt_or_ge g w.heap.size with h | h
  ·exact h
  ·rw [Array.getElem?_eq_none h] at hh; cases hh
theorem Q15.held {w:World} {r B many:Nat} {lv:Value} {vs:List Value} {l:List (List UInt8)} (h:Q15 w r B lv vs l many) {b:Nat} (hb:Held lv vs b):B<=b/\b<w.heap.size:=by
 rcases hb with hb | ⟨v,hv,hb⟩
 ·exact h.row_lt hb
 ·obtain⟨j,hj,hj2⟩:=List.getElem_of_mem hv;have hl:=h.len;obtain⟨v',hv',ho,_⟩:=h.each j l[j] (List.getElem?_eq_getElem (by omega));rw [List.getElem?_eq_getElem hj,hj2] at hv';injection hv' with hv'
  subst hv';exact⟨ho.ge hb,ho.lt hb⟩
theorem Q6e {w w':World} {B:Nat} {e:TypeId} {s n:Nat} {lv:Value} {vs:List Value} (h:w.ownsRow B e s lv n vs) (hk:∀ b,lv.ownBlock=some b->w'.heap[b]?=w.heap[b]?):w'.ownsRow B e s lv n vs:=by
 refine⟨h.1,?_⟩;rcases h.2 with h0 | ⟨g,cap,cur,rfl,hg,hh,h1⟩
 ·exact .inl h0
 ·exact .inr ⟨g,cap,cur,rfl,hg,(hk g rfl).trans hh,h1⟩
theorem Q15.keep {w w':World} {r B many:Nat} {lv:Value} {vs:List Value} {l:List (List UInt8)} (h:Q15 w r B lv vs l many) (hr:w'.heap[r]?=w.heap[r]?) (hk:∀ b,Held lv vs b->w'.heap[b]?=w.heap[b]?):Q15 w' r B lv vs l many :=
 ⟨h.lt,hr.trans h.cells,Q6e h.row fun b hb=>hk b (.inl hb),fun j x hx=>by
  obtain⟨v,h1,h2,h3⟩:=h.each j x hx;exact⟨v,h1,h2.keep fun b hb=>hk b (.inr ⟨v,List.mem_of_getElem? h1,hb⟩),h3⟩⟩
theorem Q15.below {w w':World} {r B many:Nat} {lv:Value} {vs:List Value} {l:List (List UInt8)} (h:Q15 w r B lv vs l many) (hb:Below w.heap.size w w'):Q15 w' r B lv vs l many :=
 h.keep (hb.block r h.cells.lt) fun b hh=>hb.block b (h.held hh).2
theorem Q15.at_ {w:World} {r B many:Nat} {lv:Value} {vs:List Value} {l:List (List UInt8)} (h:Q15 w r B lv vs l many) {j:Nat} {x:List UInt8} (hj:l[j]?=some x) :
 ∃ ad cap A m c,lv=.slice (some ad) l.length cap/\w.cell? (ad.add j)=some (.slice A m c)/\m<=c/\c<=maxLen/\Q0d w w.heap.size 1 A m (x.map vb)/\ad.block<w.heap.size:=by
 have hlt:j<l.length:=by
  rcases Nat.lt_or_ge j l.length with h | h
  ·exact h
  ·rw [List.getElem?_eq_none h] at hj; cases hj
 obtain⟨v,hv,ho,_⟩:=h.each j x hj;obtain⟨g,cap,hlv,hg,hgl⟩:=h.row.form (by omega);obtain⟨A,c,rfl,h1,h2,h3,h4⟩:=Q0p ho;have hrow:=h.row;rw [hlv] at hrow;exact⟨_,cap,A,x.length,c,hlv,hrow.cells (g:=g) rfl j _ hv,h1,h2,h3,hgl⟩
structure Q1e (r:Nat) (lv:Value) (w w':World):Prop where
 os:w'.os=w.os
 tape:w'.tape=w.tape
 output:w'.output=w.output
 size:w.heap.size<=w'.heap.size
 block:∀ i,i<w.heap.size->i≠r->lv.ownBlock≠some i->w'.heap[i]?=w.heap[i]?
theorem Q1e.trans_below {r:Nat} {lv:Value} {a b c:World} (h:Q1e r lv a b) (h':Below b.heap.size b c):Q1e r lv a c :=
 ⟨h'.os.trans h.os,h'.tape.trans h.tape,h'.output.trans h.output,Nat.le_trans h.size h'.size,fun i hi h1 h2=>(h'.block i (Nat.lt_of_lt_of_le hi h.size)).trans (h.block i hi h1 h2)⟩
theorem Q1e.of_below {r:Nat} {lv:Value} {b c:World} (h':Below b.heap.size b c):Q1e r lv b c :=
 ⟨h'.os,h'.tape,h'.output,h'.size,fun i hi h1 h2=>h'.block i hi⟩
theorem Q1e.set {r:Nat} {lv:Value} {a b:World} (h:Q1e r lv a b) (i:Nat) (u:Value):Q1e r lv a (b.setCell ⟨r,i,none⟩ u) :=
 ⟨h.os,h.tape,h.output,by simpa [World.setCell] using h.size,fun j hj h1 h2=>(Below.heap_setCell b ⟨r,i,none⟩ u j h1).trans (h.block j hj h1 h2)⟩
theorem Q1e.grown {r:Nat} {lv:Value} {a b c:World} (h:Q1e r lv a b) (h':b.grownBy c lv.ownBlock):Q1e r lv a c :=
 ⟨h'.os.trans h.os,h'.tape.trans h.tape,h'.output.trans h.output,Nat.le_trans h.size h'.size,fun i hi h1 h2=>(h'.block i (Nat.lt_of_lt_of_le hi h.size) (fun e=>h2 e.symm)).trans (h.block i hi h1 h2)⟩
theorem Q1e.later {r g:Nat} {lv:Value} {a b c:World} (h:Q1e r lv a b) (h':Q0c g b c) (hg:a.heap.size<=g):Q1e r lv a c :=
 ⟨h'.os.trans h.os,h'.tape.trans h.tape,h'.output.trans h.output,by have:=h'.size; have:=h.size; omega,fun i hi h1 h2=>(h'.block i (by omega)).trans (h.block i hi h1 h2)⟩
theorem QaG (w:World):Calls Tryz.prog 74 #[] w fun e w'=>∃ r,e=.returned (.pointer (some ⟨r,0,none⟩))/\w.heap.size<=r/\r<w'.heap.size/\Blk w' r 186 (Q4W (.slice none 0 0) 0)/\Below w.heap.size w w':=by
 go_enter Tryz.func74,Tryz.ntmps74
 go_wp2
 go_ret
 exact⟨w.heap.size,rfl,Nat.le_refl _,by simp,Blk.newAt rfl,(Below.refl _ _).alloc (Nat.le_refl _) _⟩
theorem Q15.start {w:World} {r B:Nat} (h:Blk w r 186 (Q4W (.slice none 0 0) 0)) (hB:r<B):Q15 w r B (.slice none 0 0) [] [] 0 :=
 ⟨hB,h,⟨rfl,.inl ⟨rfl,rfl⟩⟩,fun j x hx=>by simp at hx⟩
theorem Q15.shape {w:World} {r B many:Nat} {lv:Value} {vs:List Value} {l:List (List UInt8)} (h:Q15 w r B lv vs l many):∃ A cap,lv=.slice A l.length cap:=by
 rcases h.row.2 with⟨rfl,h0⟩ | ⟨g,cap,cur,rfl,_⟩
 ·exact⟨none,0,by rw [h0]⟩
 ·exact⟨_,cap,rfl⟩
theorem QbA (r:Nat) (A:Option Addr) (n c:Nat) (w:World) (hn:65536<n) (hc:n<=c) (hcm:c<=maxLen) :
 Calls Tryz.prog 192 #[.pointer (some ⟨r,0,none⟩),.slice A n c] w fun e w'=>e=.returned (.tuple #[.agg inkZ,.int .i64 5])/\Below w.heap.size w w':=by
 have hz:inkZ.size=32:=by simp [inkZ,bRow]
 have ho:inkZ.all (·.oneCell')=true:=Q0K _;have he:inkZ=#[.int .u8 0,.int .u8 0,.int .u8 0,.int .u8 0,.int .u8 0,.int .u8 0,.int .u8 0,.int .u8 0,.int .u8 0,.int .u8 0,.int .u8 0,.int .u8 0,.int .u8 0,.int .u8 0,.int .u8 0,.int .u8 0,.int .u8 0,.int .u8 0,.int .u8 0,.int .u8 0,.int .u8 0,.int .u8 0,.int .u8 0,.int .u8 0,.int .u8 0,.int .u8 0,.int .u8 0,.int .u8 0,.int .u8 0,.int .u8 0,.int .u8 0,.int .u8 0]:=by kernel_rfl
 have HZ:=Lib.hid hz;have HO:=Lib.hid ho;have HE:=Lib.hid he;clear hz ho he;generalize inkZ=zd at HZ HO HE ⊢;have hX:Below w.heap.size w (w.alloc (.cells zd 60)):=(Below.refl _ _).alloc (Nat.le_refl _) _;have HX:=Lib.hid hX;unfold maxLen at hcm;clear hX;go_enter Tryz.func192,Tryz.ntmps192
 go_wp2_with (refine Q01 rfl 60 (.tmp 4) _ rfl w.heap.size 0 zd rfl (by rw [HE.out]; rfl) 60 zd (by rw [HE.out]; exact Blk.newAt rfl) (by rw [HZ.out]; rfl) (by rw [HZ.out]; simp) HO.out ?_; intro W5 hT5 hB5; rw [Q08 _ _ rfl] at hB5)
 refine bodyPost_ret (Q0b rfl _ _ w.heap.size 32 60 _ _ rfl hB5 Tryz.underlying60 rfl rfl HZ.out) rfl ⟨rfl,?_⟩;have:=HX.out;rw [HE.out] at this;exact hT5.below this (Nat.le_refl _)
theorem QcH {wr w6:World} {B:Nat} {e:TypeId} {s n:Nat} {lv:Value} {vs:List Value} (h:wr.ownsRow B e s lv n vs) (hb:Below wr.heap.size wr w6) (o:Obj):(w6.alloc o).ownsRow B e s lv n vs :=
 Q6e h fun b hv=>by
  have hlt:b<wr.heap.size:=by
   rcases h.2 with⟨rfl,_⟩ | ⟨g,cap,cur,rfl,hg,hh,_⟩
   ·simp [Value.ownBlock] at hv
   ·simp [Value.ownBlock] at hv; subst hv;rcases Nat.lt_or_ge g wr.heap.size with h | h
    ·exact h
    ·rw [Array.getElem?_eq_none h] at hh; cases hh
  exact(Below.heap_alloc w6 o b (by have:=hb.size; omega)).trans (hb.block b hlt)
theorem QcF (w:World) (x:Value) (t:TypeId):Q0d (w.alloc (.cells #[x] t)) (w.heap.size+1) 1 (some ⟨w.heap.size,0,none⟩) 1 [x] :=
 ⟨rfl,fun _=>⟨_,rfl,Nat.lt_succ_self _,cell_one_new w x t⟩⟩
theorem Qdr {w:World} {B:Nat} {e:TypeId} {s n:Nat} {v:Value} {vs:List Value} (h:w.ownsRow B e s v n vs):∃ A c,v=.slice A n c:=by
 rcases h.2 with⟨rfl,h0⟩ | ⟨g,cap,cur,rfl,_⟩
 ·exact⟨none,0,by rw [h0]⟩
 ·exact⟨_,cap,rfl⟩
theorem Q15.row_ne {w:World} {r B many:Nat} {lv:Value} {vs:List Value} {l:List (List UInt8)} (h:Q15 w r B lv vs l many):lv.ownBlock≠some r:=fun e=>by have:=h.row_lt e; have:=h.lt; omega
theorem Q15.snoc {wr w6 w8:World} {r B many:Nat} {lv v v8:Value} {vs:List Value} {l:List (List UInt8)} {xs:List UInt8} {o:Obj} (h:Q15 wr r B lv vs l many) (hb6:Below wr.heap.size wr w6) (hov:OwnB w6 wr.heap.size v xs)
 (hown8:w8.ownsRow B 22 1 v8 (l.length+1) (vs++[v])) (hg8:(w6.alloc o).grownBy w8 lv.ownBlock) (hor8:v8.ownBlock=lv.ownBlock\/v8.ownBlock=some (w6.alloc o).heap.size) (hB:B<=wr.heap.size) :
 Q15 (w8.setCell ⟨r,0,none⟩ v8) r B v8 (vs++[v]) (l++[xs]) many:=by
 have hs6:=hb6.size;have hsa:(w6.alloc o).heap.size=w6.heap.size+1:=by simp
 have hbo:=fun b (hb:v8.ownBlock=some b)=>(show (lv.ownBlock=some b\/b=w6.heap.size+1) by
  rcases hor8 with e | e
  ·exact .inl (e▸hb)
  ·rw [e,hsa] at hb; injection hb with hb; exact .inr hb.symm)
 have hrs:=h.cells.lt;have hlt:=h.lt;have hne:v8.ownBlock≠some r:=fun e=>by
  rcases hbo r e with e | e
  ·exact h.row_ne e
  ·omega
 refine⟨hlt,?_,?_,fun j x hj=>?_⟩
 ·exact((((h.cells.below' hb6).alloc o).grown hg8 (fun e=>h.row_ne e.symm)).set_ 0 v8)
 ·rw [List.length_append];exact Q6e hown8 fun b hb=>Below.heap_setCell w8 ⟨r,0,none⟩ v8 b (fun e=>hne (by rw [hb]; exact congrArg some e))
 ·rcases Nat.lt_or_ge j l.length with hjl | hjl
  ·rw [List.getElem?_append_left hjl] at hj;obtain⟨u,hu,ho,hd⟩:=h.each j x hj;have hul:j<vs.length:=by rw [h.len]; exact hjl
   refine⟨u,by rw [List.getElem?_append_left hul]; exact hu,?_,fun b hb e=>?_⟩
   ·refine ho.keep fun b hb=>?_
    have h1:=ho.lt hb;have h2:=ho.ge hb;exact(Below.heap_setCell w8 ⟨r,0,none⟩ v8 b (by show b≠r; omega)).trans ((hg8.block b (by omega) (fun e=>hd b hb e.symm)).trans ((Below.heap_alloc w6 o b (by omega)).trans (hb6.block b h1)))
   ·have h1:=ho.lt hb;rcases hbo b e with e | e
    ·exact hd b hb e
    ·omega
  ·rw [List.getElem?_append_right hjl] at hj;have hj0:j - l.length=0:=by
    rcases Nat.eq_zero_or_pos (j - l.length) with h | h
    ·exact h
    ·rw [List.getElem?_eq_none (by simp; omega)] at hj; cases hj
   rw [hj0] at hj;simp at hj;subst hj;have hul:vs.length<=j:=by rw [h.len]; exact hjl
   refine⟨v,by rw [List.getElem?_append_right hul,h.len,hj0]; rfl,?_,fun b hb e=>?_⟩
   ·refine(hov.more hB).keep fun b hb=>?_
    have h1:=hov.lt hb;have h2:=hov.ge hb;exact(Below.heap_setCell w8 ⟨r,0,none⟩ v8 b (by show b≠r; omega)).trans ((hg8.block b (by omega) (fun e=>by have:=h.row_lt e.symm; omega)).trans (Below.heap_alloc w6 o b (by omega)))
   ·have h1:=hov.lt hb;have h2:=hov.ge hb;rcases hbo b e with e | e
    ·have:=h.row_lt e; omega
    ·omega
theorem Q15.snoc_held {wr w6:World} {r B many:Nat} {lv v v8:Value} {vs:List Value} {l:List (List UInt8)} {xs:List UInt8} {o:Obj} (h:Q15 wr r B lv vs l many) (hb6:Below wr.heap.size wr w6) (hov:OwnB w6 wr.heap.size v xs)
 (hor8:v8.ownBlock=lv.ownBlock\/v8.ownBlock=some (w6.alloc o).heap.size):∀ b,Held v8 (vs++[v]) b->Held lv vs b\/wr.heap.size<=b:=by
 have hs6:=hb6.size;have hsa:(w6.alloc o).heap.size=w6.heap.size+1:=by simp
 rintro b (hb | ⟨u,hu,hb⟩)
 ·rcases hor8 with e | e
  ·exact .inl (.inl (e▸hb))
  ·rw [e,hsa] at hb; injection hb with hb; exact .inr (by omega)
 ·rcases List.mem_append.1 hu with hu | hu
  ·exact .inl (.inr ⟨u,hu,hb⟩)
  ·rw [List.mem_singleton] at hu;subst hu;exact .inr (hov.ge hb)
theorem Qal {l:List (List UInt8)} {x:List UInt8} (h:x∈l):Q10 l x=l:=by unfold Q10; rw [if_pos h]
theorem Qc6 {l:List (List UInt8)} {x:List UInt8} (h:x∉l):Q10 l x=l++[x]:=by unfold Q10; rw [if_neg h]
theorem Q15.asked {w:World} {r B many:Nat} {lv:Value} {vs:List Value} {l:List (List UInt8)} (h:Q15 w r B lv vs l many):Q15 (w.setCell ⟨r,1,none⟩ (.int .i64 ((many+1:Nat):Int))) r B lv vs l (many+1) :=
 ⟨h.lt,h.cells.set_ 1 _,Q6e h.row fun b hb=>Below.heap_setCell w ⟨r,1,none⟩ _ b (by have:=h.row_lt hb; have:=h.lt; show b≠r; omega),fun j x hx=>by
  obtain⟨v,h1,h2,h3⟩:=h.each j x hx;exact⟨v,h1,h2.keep fun b hb=>Below.heap_setCell w ⟨r,1,none⟩ _ b (by have:=h2.ge hb; have:=h.lt; show b≠r; omega),h3⟩⟩
theorem Qby (r B many:Nat) (lv:Value) (vs:List Value) (l:List (List UInt8)) (A:Option Addr) (n c:Nat) (xs:List UInt8) (w:World) (Bx:Nat) (h:Q15 w r B lv vs l many) (hr:Q0d w Bx 1 A n (xs.map vb)) (hB:Bx<=w.heap.size)
 (hBB:B<=w.heap.size) (hx:∀ a,0<n->A=some a->a.block≠r) (hn:n<=65536) (hl:l.length<=1000000) (hm:many<=1000000) :
 Calls Tryz.prog 192 #[.pointer (some ⟨r,0,none⟩),.slice A n c] w fun e w'=>∃ lv' vs',e=.returned (.tuple #[.agg (bRow (Q14 xs)),.int .i64 0])/\Q15 w' r B lv' vs' (Q10 l xs) (many+1)/\(∀ b,Held lv' vs' b->Held lv vs b\/w.heap.size<=b)/\Q1e r lv w w':=by
 have hxn:xs.length=n:=by have:=hr.1; simpa using this
 have HXN:=Lib.hid hxn;have HK:=Lib.hid hx;have HN:=Lib.hid h;have HRD:=Lib.hid hr;have hrs:=h.cells.lt;clear h hr hxn hx;go_enter Tryz.func192,Tryz.ntmps192
 go_upto_region 3 with fail
 have hW:=Blk.new w 60 (Array.replicate 32 (.int .u8 0));have hX1:Below w.heap.size w (w.alloc (.cells (Array.replicate 32 (.int .u8 0)) 60)):=(Below.refl _ _).alloc (Nat.le_refl _) _;have hS1:(w.alloc (.cells (Array.replicate 32 (.int .u8 0)) 60)).heap.size=w.heap.size+1:=by simp
 have HN1:=Lib.hid (HN.out.below hX1);have HRD1:=Lib.hid (HRD.out.below (hX1.mono hB));rw [QaN] at hW hX1 hS1 HN1 HRD1;obtain⟨gd,hgd⟩:∃ g,g=w.heap.size:=⟨_,rfl⟩;rw [<- hgd] at hW hS1 ⊢;generalize w.alloc _=W1 at hW hX1 hS1 HN1 HRD1 ⊢;have HGD:=Lib.hid hgd;rw [<- hgd] at hrs;have hgB:Bx<=gd:=by omega
 have hgBB:B<=gd:=by omega
 clear hgd;have HD1:=Lib.hid hW;have HX1:=Lib.hid hX1;clear hW hX1;have c1:W1.cell? ⟨r,1,none⟩=some (.int .i64 (many:Int)):=(HN1.out.cells.cell 1).trans rfl;have f1:=HN1.out.cells.frozen 1;go_wp2_with fail
 rw [show ((many:Int)+1)=((many+1:Nat):Int) by omega];have HT2:=Lib.hid (Q0c.setCell W1 ⟨r,1,none⟩ (.int .i64 ((many+1:Nat):Int)));have HN2:=Lib.hid HN1.out.asked;have HO2:=Lib.hid ((Q1e.of_below (r:=r) (lv:=lv) HX1.out).set 1 (.int .i64 ((many+1:Nat):Int)));generalize W1.setCell _ _=W2 at HT2 HN2 HO2 ⊢;have hs2:=HT2.out.size;clear c1 f1;have hrd2:Q0d W2 Bx 1 A n (xs.map vb):=HRD1.out.keepAt (fun a h0 ha p hp=>HT2.out.cell (by have:=HK.out a h0 ha; show p.block≠r; omega));refine(Qck A n c xs W2 Bx hrd2 (by omega) (by omega)).mono ?_;rintro _ W3 ⟨rfl,hb3⟩;have HN3:=Lib.hid (HN2.out.below hb3);have HRD3:=Lib.hid (hrd2.below (hb3.mono (by omega)));have HD3:=Lib.hid ((HT2.out.blk HD1.out (by show gd≠r; omega)).below hb3 (by omega));have HO3:=Lib.hid (HO2.out.trans_below hb3);have hs3:=hb3.size;clear hb3 hrd2;have hdl:=Q2A xs;have hds:(bRow (Q14 xs)).size=32:=by rw [Q1j,hdl]
 have HDS:=Lib.hid hds;have HDO:=Lib.hid (Q0K (Q14 xs));clear hdl hds;generalize hd:bRow (Q14 xs)=D at HDS HDO ⊢;have HDD:=Lib.hid hd;clear hd;go_upto_region 5 with(refine Q01 rfl 60 (.tmp 6) (.tmp 21) rfl W3.heap.size 0 D rfl rfl 60 _ (Blk.newAt rfl) (by rw [HDS.out]; rfl) (by rw [HDS.out]; simp) HDO.out ?_; intro W4 hT4 hB4; rw [Q08 _ _ (by rw [HDS.out]; simp)] at hB4)
 have hX4:Below W3.heap.size W3 W4:=hT4.below ((Below.refl _ _).alloc (Nat.le_refl _) _) (Nat.le_refl _);have HN4:=Lib.hid (HN3.out.below hX4);have HRD4:=Lib.hid (HRD3.out.below (hX4.mono (by omega)));have HD4:=Lib.hid (HD3.out.below' hX4);have HO4:=Lib.hid (HO3.out.trans_below hX4);have hs4:=hX4.size;obtain⟨ge,hge⟩:∃ g,g=W3.heap.size:=⟨_,rfl⟩;rw [<- hge] at hB4 ⊢;have hgel:gd<ge:=by omega
 have HB4:=Lib.hid hB4;clear hT4 hX4 hB4 hge;go_wp2_with fail
 go_loopw [7] (fun jv wr=>∃ j:Nat,j<=l.length/\jv=.int .i64 j/\(∀ k y,k<j->l[k]?=some y->y≠xs)/\Below W4.heap.size W4 wr) (fun jv _=>l.length - (intOf jv).toNat)
 case atStart=>exact⟨0,by omega,rfl,by omega,Below.refl _ _⟩
 case round =>
  obtain⟨j,hj,rfl,hno,hE⟩:=hrel;have HNO:=Lib.hid hno;have HE:=Lib.hid hE;have hse:=hE.size;clear hE hno;have HNE:=Lib.hid (HN4.out.below HE.out);obtain⟨LA,Lc,hlv⟩:=HNE.out.shape;have c0:wr.cell? ⟨r,0,none⟩=some (.slice LA l.length Lc):=by rw [<- hlv]; exact(HNE.out.cells.cell 0).trans rfl
  by_cases hjl:j<l.length
  ·obtain⟨ad,cap,Aj,mj,cj,hlv',hcell,hmc,hcm,hrj,hadb⟩:=HNE.out.at_ (List.getElem?_eq_getElem hjl);rw [hlv] at hlv';injection hlv' with h1 h2 h3
   subst h1;subst h3;have hrde:=HRD4.out.below (HE.out.mono (by omega));have hmj:l[j].length=mj:=by have:=hrj.1; simpa using this
   have heq:=Q34 Aj A mj n cj c l[j] xs wr _ _ hrj hrde (by unfold maxLen at hcm ⊢; omega) (by unfold maxLen; omega);by_cases hyx:l[j]=xs
   ·rw [decide_eq_true hyx] at heq;have hadd:Q10 l xs=l:=Qal (hyx▸List.getElem_mem hjl);have HAD:=Lib.hid hadd;clear hadd;go_wp2_with fail
    refine heq.mono ?_;rintro _ W5 ⟨rfl,q,hq⟩;have hb5:Below wr.heap.size wr W5:=hq▸Q0z (Below.refl _ _) q;have HN5:=Lib.hid (HNE.out.below hb5);have hEb:=HE.out.trans (hb5.mono hse);have HD5:=Lib.hid (HD4.out.below' hEb);have HB5:=Lib.hid (HB4.out.below' hEb);have HO5:=Lib.hid (HO4.out.trans_below hEb);clear hq hb5 hEb;go_wp2_with (first
     | (refine Q03 rfl 60 (.tmp 6) rfl ge 0 32 rfl 60 _ D _ HB5.out Tryz.underlying60 rfl rfl HDS.out (fun _ _=>by rw [Nat.zero_add]) ?_)
     | (refine Q01 rfl 60 (.tmp 4) (.tmp 40) rfl gd 0 D rfl rfl 60 _ HD5.out (by rw [HDS.out]; rfl) (by rw [HDS.out]; simp) HDO.out ?_; intro W8 hT8 hB8; rw [Q08 _ _ (by rw [HDS.out]; rfl)] at hB8))
    refine bodyPost_ret (Q0b rfl _ _ gd 32 60 _ _ rfl hB8 Tryz.underlying60 rfl rfl HDS.out) rfl ⟨lv,vs,by rw [HDD.out]; rfl,?_,fun b hb=>.inl hb,?_⟩
    ·rw [HAD.out];exact HN5.out.keep (hT8.block r (by omega)) fun b hb=>hT8.block b (by have:=HN4.out.held hb; have:=HN.out.held hb; have:=HGD.out; omega)
    ·exact HO5.out.later hT8 (by have:=HGD.out; omega)
   ·rw [decide_eq_false hyx] at heq;go_wp2_with fail
    refine heq.mono ?_;rintro _ W5 ⟨rfl,q,hq⟩;have hb5:Below wr.heap.size wr W5:=hq▸Q0z (Below.refl _ _) q;have HE5:=Lib.hid (HE.out.trans (hb5.mono hse));clear hq hb5;go_wp2_with fail
    go_roundw
    case rel =>
     refine⟨j+1,by omega,by go_num,fun k y hk hy=>?_,HE5.out⟩;rcases Nat.lt_or_ge k j with h | h
     ·exact HNO.out k y h hy
     ·obtain rfl:k=j:=by omega
      rw [List.getElem?_eq_getElem hjl] at hy;injection hy with hy
      exact hy▸hyx
    case measure=>simp [intOf]; omega
  ·obtain rfl:j=l.length:=by omega
   have hadd:Q10 l xs=l++[xs]:=Qc6 (fun hm=>by obtain⟨k,hk,hk2⟩:=List.getElem_of_mem hm; exact HNO.out k _ hk (List.getElem?_eq_getElem hk) hk2);have HAD:=Lib.hid hadd;have HCB:=Lib.hid (Q3W A n c xs wr.drew Bx (HRD4.out.below (HE.out.mono (by omega))).drew (by show Bx<=wr.heap.size; omega) (by omega));clear hadd;have HRW:=Lib.hid (fun W (hb:Below wr.heap.size wr W)=>(HNE.out.below hb));obtain⟨i0,hi0,hz0,hz1,hz2⟩:=info_parts (show (Tryz.prog.info? 22).map (fun i=>(i.zero,i.size,i.bytes))=some (some (.slice none 0 0),1,24) by kernel_rfl);go_upto_region 10 with fail
   go_region_law (first
    | (go_simp; go_at_call 8; refine HCB.out.mono ?_; rintro _ w6 ⟨v,rfl,hov,hb6'⟩; have hb6:Below wr.heap.size wr w6:=⟨hb6'.os,hb6'.tape,hb6'.output,hb6'.size,hb6'.block⟩; clear hb6'; obtain⟨Av,cv,rfl,hvc,hvm,hvr,hvB⟩:=Q0p hov; have c6:=(hb6.cell (show (⟨r,0,none⟩:Addr).block<wr.heap.size from HNE.out.cells.lt)).trans c0; have c7:=fun o=>(World.cell?_alloc_lt w6 o ⟨r,0,none⟩ (by have:=hb6.size; have:=HNE.out.cells.lt; show r<_; omega)).trans c6)
    | (refine Q6G _ rfl (.tmp 45) (.tmp 48) 23 rfl B 22 i0 _ 1 24 Tryz.underlying23 hi0 hz0 hz1 hz2 rfl (by omega) (.slice LA l.length Lc) l.length vs (rfl) (by rw [<- hlv]; exact QcH HNE.out.row hb6 _) (w6.heap.size+1) (some ⟨w6.heap.size,0,none⟩) 1 1 [.slice Av xs.length cv] (rfl) (QcF _ _ _) (by simp [Value.oneCell']) (by unfold maxLen; omega) (by omega) (by have:=hb6.size; simp; have:wr.drew.heap.size=wr.heap.size:=rfl; omega) ?_; intro v8 w8 hown8 hg8 hor8; obtain⟨A8,C8,rfl⟩:=Qdr hown8; have HB8:=((HNE.out.cells.below' hb6).alloc _).grown hg8 (by rw [<- hlv]; exact fun e=>HNE.out.row_ne e.symm); have c8:w8.cell? ⟨r,0,none⟩=some lv:=(HB8.cell 0).trans rfl; have f8:=HB8.frozen 0))
   all_goals
    have hrw:(w6.alloc (.cells #[.slice Av xs.length cv] 22)).grownBy w8 lv.ownBlock:=hlv▸hg8
    have hor:(Value.slice A8 (l.length+1) C8).ownBlock=lv.ownBlock\/(Value.slice A8 (l.length+1) C8).ownBlock=some (w6.alloc (.cells #[.slice Av xs.length cv] 22)).heap.size:=hlv▸hor8
    have hB6:B<=wr.heap.size:=by omega
    have HN9:=Lib.hid (HNE.out.snoc hb6 (hov.more (Nat.le_refl wr.heap.size)) hown8 hrw hor hB6)
    have HH9:=Lib.hid (HNE.out.snoc_held hb6 (hov.more (Nat.le_refl wr.heap.size)) hor)
    have HO9:=Lib.hid ((((HO4.out.trans_below HE.out).trans_below hb6).trans_below ((Below.refl _ w6).alloc (Nat.le_refl _) (.cells #[.slice Av xs.length cv] 22))).grown hrw |>.set 0 (.slice A8 (l.length+1) C8))
    have hB6:=HE.out.trans (hb6.mono hse)
    have HD9:=Lib.hid ((((HD4.out.below' hB6).alloc (.cells #[.slice Av xs.length cv] 22)).grown hrw (fun e=>by have:=HN4.out.row_lt e.symm; have:=HN.out.row_lt e.symm; have:=HGD.out; omega)).far (p:=⟨r,0,none⟩) (by show gd≠r; omega) (.slice A8 (l.length+1) C8))
    have HB9:=Lib.hid ((((HB4.out.below' hB6).alloc (.cells #[.slice Av xs.length cv] 22)).grown hrw (fun e=>by have:=HN.out.row_lt e.symm; have:=HGD.out; omega)).far (p:=⟨r,0,none⟩) (by show ge≠r; omega) (.slice A8 (l.length+1) C8))
    clear hrw hor hB6 hov hb6 hown8 hg8 hor8 c8 f8 HB8 c6 c7 hvc hvm hvr hvB
    generalize w8.setCell _ _=W9 at HN9 HO9 HD9 HB9 ⊢
    go_wp2_with (first
     | (refine Q03 rfl 60 (.tmp 6) rfl ge 0 32 rfl 60 _ D _ HB9.out Tryz.underlying60 rfl rfl HDS.out (fun _ _=>by rw [Nat.zero_add]) ?_)
     | (refine Q01 rfl 60 (.tmp 4) (.tmp 52) rfl gd 0 D rfl rfl 60 _ HD9.out (by rw [HDS.out]; rfl) (by rw [HDS.out]; simp) HDO.out ?_; intro W10 hT10 hB10; rw [Q08 _ _ (by rw [HDS.out]; rfl)] at hB10))
    refine bodyPost_ret (Q0b rfl _ _ gd 32 60 _ _ rfl hB10 Tryz.underlying60 rfl rfl HDS.out) rfl ⟨.slice A8 (l.length+1) C8,vs++[.slice Av xs.length cv],by rw [HDD.out]; rfl,?_,?_,HO9.out.later hT10 (by have:=HGD.out; omega)⟩
    ·rw [HAD.out];exact HN9.out.keep (hT10.block r (by omega)) fun b hb=>hT10.block b (by
      rcases HH9.out b hb with h | h
      ·have:=HN.out.held h; have:=HGD.out; omega
      ·omega)
    ·intro b hb;rcases HH9.out b hb with h | h
     ·exact .inl h
     ·exact .inr (by have:=HGD.out; omega)
theorem QbQ (r B many:Nat) (lv:Value) (vs:List Value) (l:List (List UInt8)) (A:Option Addr) (n c:Nat) (xs:List UInt8) (w:World) (Bx:Nat) (h:Q15 w r B lv vs l many) (hr:Q0d w Bx 1 A n (xs.map vb)) (hB:Bx<=w.heap.size)
 (hBB:B<=w.heap.size) (hx:∀ a,0<n->A=some a->a.block≠r) (hc:n<=c) (hcm:c<=maxLen) (hl:l.length<=1000000) (hm:many<=1000000) :
 Calls Tryz.prog 192 #[.pointer (some ⟨r,0,none⟩),.slice A n c] w fun e w'=>∃ D code lv' vs',e=.returned (.tuple #[.agg D,.int .i64 code])/\OfAns D code xs/\Q15 w' r B lv' vs' (Q8A l xs) (Qci many xs)/\(∀ b,Held lv' vs' b->Held lv vs b\/w.heap.size<=b)/\Q1e r lv w w':=by
 have hxn:xs.length=n:=by have:=hr.1; simpa using this
 by_cases hn:n<=65536
 ·refine(Qby r B many lv vs l A n c xs w Bx h hr hB hBB hx hn hl hm).mono ?_;rintro e w' ⟨lv',vs',rfl,h1,h2,h3⟩;have hx:xs.length<=65536:=by omega
  refine⟨_,_,lv',vs',rfl,⟨by rw [Q1j,Q2A],Q0K _,fun _=>⟨rfl,rfl⟩,fun hh=>absurd hh (by omega)⟩,?_,h2,h3⟩;unfold Q8A Qci;rw [if_pos hx,if_pos hx];exact h1
 ·refine(QbA r A n c w (by omega) hc hcm).mono ?_;rintro e w' ⟨rfl,hb⟩;have hx:¬ xs.length<=65536:=by omega
  refine⟨_,_,lv,vs,rfl,⟨by simp [inkZ,bRow],Q0K _,fun hh=>absurd hh hx,fun _=>⟨rfl,rfl⟩⟩,?_,fun b hb=>.inl hb,Q1e.of_below hb⟩;unfold Q8A Qci;rw [if_neg hx,if_neg hx];exact h.below hb
end
section
open Go.RowKit Go.Maps
attribute [local irreducible] wpList Q0i
structure RBk (w:World) (r:Nat) (N:Nat->Prop) (k:Nat):Prop where
 ex:∃ B lv vs l many,Q15 w r B lv vs l many/\B<=w.heap.size/\(∀ b,Held lv vs b->¬ N b)/\l.length<=k/\many<=k
def RM (r:Nat) (N:Nat->Prop) (b:Nat):Prop:=b=r\/¬ N b
theorem RBk.below {w w':World} {r k:Nat} {N:Nat->Prop} (h:RBk w r N k) (hb:Below w.heap.size w w'):RBk w' r N k:=by
 obtain⟨B,lv,vs,l,many,h1,h2,h3,h4,h5⟩:=h.ex;exact⟨B,lv,vs,l,many,h1.below hb,by have:=hb.size; omega,h3,h4,h5⟩
theorem RBk.later {w w':World} {r k:Nat} {N:Nat->Prop} (h:RBk w r N k) (hb:Below w.heap.size w w'):RBk w' r (fun b=>N b\/(w.heap.size<=b/\b<w'.heap.size)) k:=by
 obtain⟨B,lv,vs,l,many,h1,h2,h3,h4,h5⟩:=h.ex;exact⟨B,lv,vs,l,many,h1.below hb,by have:=hb.size; omega,fun b hb hn=>by
  have:=(h1.held hb).2;rcases hn with hn | hn
  ·exact h3 b hb hn
  ·omega,h4,h5⟩
theorem RBk.less {w:World} {r k k':Nat} {N N':Nat->Prop} (h:RBk w r N k) (hk:k<=k') (hN:∀ b,N' b->N b):RBk w r N' k':=by
 obtain⟨B,lv,vs,l,many,h1,h2,h3,h4,h5⟩:=h.ex;exact⟨B,lv,vs,l,many,h1,h2,fun b hb hn=>h3 b hb (hN b hn),by omega,by omega⟩
theorem RBk.start {w:World} {r:Nat} (h:Blk w r 186 (Q4W (.slice none 0 0) 0)) (N:Nat->Prop):RBk w r N 0 :=
 ⟨w.heap.size,_,_,_,_,Q15.start h h.lt,Nat.le_refl _,(fun b hb=>by
  rcases hb with e | ⟨v,hv,_⟩
  ·cases e
  ·cases hv),by simp,Nat.le_refl _⟩
theorem RBk.lt {w:World} {r k:Nat} {N:Nat->Prop} (h:RBk w r N k):r<w.heap.size:=by
 obtain⟨B,lv,vs,l,many,h1,_⟩:=h.ex;exact h1.cells.lt
theorem RM.mono {r:Nat} {N N':Nat->Prop} (h:∀ b,N b->N' b) {b:Nat} (hb:RM r N' b):RM r N b:=hb.imp id fun hn e=>hn (h b e)
theorem Qbg (w:World) (r k:Nat) (N:Nat->Prop) (A:Option Addr) (n c:Nat) (xs:List UInt8) (h:RBk w r N k) (hk:k<=900000) (hr:Q0d w w.heap.size 1 A n (xs.map vb)) (hx:∀ a,0<n->A=some a->a.block≠r) (hN:∀ b,N b->b<w.heap.size) (hc:n<=c) (hcm:c<=maxLen) (hn:n<=65536) :
 Calls Tryz.prog 192 #[.pointer (some ⟨r,0,none⟩),.slice A n c] w fun e w'=>e=.returned (.tuple #[.agg (bRow (Q14 xs)),.int .i64 0])/\RBk w' r N (k+1)/\Only (RM r N) w w':=by
 obtain⟨B,lv,vs,l,many,h1,h2,h3,h4,h5⟩:=h.ex;have hxl:xs.length=n:=by have:=hr.1; simpa using this
 refine(QbQ r B many lv vs l A n c xs w w.heap.size h1 hr (Nat.le_refl _) h2 hx hc hcm (by omega) (by omega)).mono ?_;rintro e w' ⟨D,code,lv',vs',rfl,ha,hn',hh,ho⟩;obtain⟨hc0,rfl⟩:=ha.small (by omega);subst hc0;refine⟨rfl,⟨B,lv',vs',_,_,hn',by have:=ho.size; omega,fun b hb hn=>?_,?_,?_⟩,ho.os,ho.tape,ho.output,ho.size,fun i hi hm=>ho.block i hi (fun e=>hm (.inl e)) fun e=>?_⟩
 ·rcases hh b hb with q | q
  ·exact h3 b q hn
  ·have:=hN b hn; omega
 ·unfold Q8A;split
  ·have:=Q4v l xs; omega
  ·omega
 ·have:=noteN_le many xs; omega
 ·exact hm (.inr (h3 i (.inl e)))
theorem RBk.kept {w w':World} {r k:Nat} {N:Nat->Prop} (h:RBk w r N k) (hs:w.heap.size<=w'.heap.size) (hk:∀ b,b<w.heap.size->RM r N b->w'.heap[b]?=w.heap[b]?):RBk w' r N k:=by
 obtain⟨B,lv,vs,l,many,h1,h2,h3,h4,h5⟩:=h.ex;exact⟨B,lv,vs,l,many,h1.keep (hk r h1.cells.lt (.inl rfl)) fun b hb=>hk b (h1.held hb).2 (.inr (h3 b hb)),by omega,h3,h4,h5⟩
theorem RBk.turned {w w':World} {r k g:Nat} {N:Nat->Prop} (h:RBk w r N k) (hT:Q0c g w w') (hg:N g) (hr:g≠r):RBk w' r N k :=
 h.kept (by rw [hT.size]; exact Nat.le_refl _) fun b _ hb=>hT.block b fun e=>by
  subst e;rcases hb with e | e
  ·exact hr e
  ·exact e hg
theorem Blk.type_eq {w:World} {g:Nat} {t t':TypeId} {cs cs':Array Value} (h:Blk w g t cs) (h':Blk w g t' cs'):t=t':=by
 refine Classical.byContradiction fun hne=>?_
 exact(Blk.ne_ (t:=t) h h' hne) rfl
theorem RBk.hold {w:World} {r k:Nat} {N N':Nat->Prop} (h:RBk w r N k) (hN:∀ b,N' b->N b\/w.heap.size<=b\/∃ t cs,Blk w b t cs/\t≠22/\t≠5):RBk w r N' k:=by
 obtain⟨B,lv,vs,l,many,h1,h2,h3,h4,h5⟩:=h.ex;refine⟨B,lv,vs,l,many,h1,h2,fun b hb hn=>?_,h4,h5⟩;have hbl:=h1.held hb;rcases hN b hn with q | q | ⟨t,cs,q,q1,q2⟩
 ·exact h3 b hb q
 ·omega
 rcases hb with e | ⟨v,hv,e⟩
 ·rcases h1.row.2 with⟨rfl,_⟩ | ⟨g,cap,cur,rfl,hg,hh',_⟩
  ·cases e
  ·have:b=g:=by simpa [Value.ownBlock] using e.symm
   subst this;exact q1 (q.type_eq hh')
 ·obtain⟨j,hj,hj2⟩:=List.getElem_of_mem hv;have hl:=h1.len;obtain⟨v',hv',ho,_⟩:=h1.each j l[j] (List.getElem?_eq_getElem (by omega));rw [List.getElem?_eq_getElem hj,hj2] at hv';injection hv' with hv'
  subst hv';obtain⟨cur,hcur⟩:=QaM ho e;exact q2 (q.type_eq hcur)
theorem Qd1 (w:World) (u:UInt8) (B:Nat) (hB:B<=w.heap.size):(w.alloc (.cells #[vb u] 5)).ownsRow B 5 1 (.slice (some ⟨w.heap.size,0,none⟩) 1 1) 1 [vb u] :=
 ⟨rfl,.inr ⟨w.heap.size,1,#[vb u],rfl,hB,Blk.newAt rfl,Nat.le_refl _,by unfold maxLen; omega,rfl,rfl⟩⟩
theorem QaI (w:World) (r k:Nat) (N:Nat->Prop) (A:Option Addr) (n c:Nat) (xs:List UInt8) (h:RBk w r N k) (hk:k<=900000) (hr:Q0d w w.heap.size 1 A n (xs.map vb)) (hN:∀ b,N b->b<w.heap.size) (hn:n<65536) :
 Calls Tryz.prog 176 #[.pointer (some ⟨r,0,none⟩),.slice A n c] w fun e w'=>e=.returned (.tuple #[.agg (bRow (Q1A xs)),.int .i64 0])/\RBk w' r N (k+1)/\Only (RM r N) w w':=by
 have hxl:xs.length=n:=by have:=hr.1; simpa using this
 have hX:=Q07 w (.cells inkZ 60);have hk0:Blk (w.alloc (.cells inkZ 60)) w.heap.size 60 inkZ:=Blk.newAt rfl;have HX:=Lib.hid hX;have HK:=Lib.hid hk0;have HB:=Lib.hid h;have HR:=Lib.hid hr;have HNN:=Lib.hid hN;have HXL:=Lib.hid hxl;have HZ:=Lib.hid Q1T;have HZS:=Lib.hid (show inkZ.size=32 by simp [inkZ,bRow]);have hds:(bRow (Q1A xs)).size=32:=Q0E (Q2j xs);have hdo:=Q0K (Q1A xs);obtain⟨D,hD⟩:∃ D,D=bRow (Q1A xs):=⟨_,rfl⟩;rw [<- hD] at hds hdo ⊢;have HDE:=Lib.hid hD;have HDS:=Lib.hid hds;have HDO:=Lib.hid hdo;obtain⟨g4,hg4⟩:∃ g,g=w.heap.size:=⟨_,rfl⟩;have hgw:w.heap.size<=g4:=by omega
 have hnI:¬ (65536:Int)<=(n:Int):=by omega
 obtain⟨i0,hi0,hz0,hz1,hz2⟩:=info_parts Q1O;have hrl:=h.lt;clear h hr hN hX hk0 hxl hds hdo hD;go_enter Tryz.func176,Tryz.ntmps176
 go_upto_region 1 with fail
 rw [<- HZ.out];generalize World.alloc w _=w1 at HX HK ⊢;rw [<- hg4] at HK ⊢;have hl4:=HK.out.lt;have hs1:=HX.out.size;clear hg4;have hal:=Q07 w1 (.cells #[vb 0] 5);have HOW:=Lib.hid (Qd1 w1 0 w1.heap.size (Nat.le_refl _));have HR1:=Lib.hid (((HR.out.below HX.out).more hs1).below hal);have HAL:=Lib.hid hal;clear hal;go_wp2_with (at_builtin; go_must (refine Q06 _ rfl (.tmp 11) (.tmp 12) 22 rfl w1.heap.size 5 i0 _ 1 1 Tryz.underlying22 hi0 hz0 hz1 hz2 rfl (by omega) _ 1 [vb 0] rfl HOW.out w1.heap.size A n c (xs.map vb) rfl HR1.out ?c1 ?c2 ?c3 ?c4 ?_))
 case c1=>intro z hz; rfl
 case c2=>unfold maxLen; omega
 case c3=>omega
 intro v3 w3 hown3 hg3 hor3;have hb3:Below w1.heap.size w1 w3:=Q0k HAL.out (by simp) hg3 (fun b hb=>by simp [Value.ownBlock] at hb; omega);have ho3:OwnB w3 w1.heap.size v3 (Q2l xs):=by
  unfold OwnB Q2l;rw [List.length_cons,HXL.out,List.map_cons,Nat.add_comm];exact hown3
 obtain⟨A3,c3,hv,q1,q2,q3,q4⟩:=Q0p ho3;obtain⟨n3,hn3⟩:∃ k,k=(Q2l xs).length:=⟨_,rfl⟩;have hn3b:n3<=65536:=by rw [hn3]; unfold Q2l; rw [List.length_cons,HXL.out]; omega
 rw [<- hn3] at hv q1 q3;subst hv;have hs3:=hb3.size;have hx3:Below w.heap.size w w3:=HX.out.trans (hb3.mono hs1);have hg4:g4<w3.heap.size:=by omega
 have HOF:=Lib.hid (Qbg w3 r k (fun b=>N b\/(w.heap.size<=b/\b<w3.heap.size)) A3 n3 c3 (Q2l xs) (HB.out.later hx3) hk q3 (fun a _ ha e=>by have:=q4 a ha; omega) (fun b hb=>by
  rcases hb with hb | hb
  ·have:=HNN.out b hb; omega
  ·exact hb.2) q1 q2 hn3b)
 rw [show bRow (Q14 (Q2l xs))=D from HDE.out.symm] at HOF;have HK3:=Lib.hid (HK.out.below' hb3);have HX3:=Lib.hid hx3;clear hown3 hg3 hor3 hb3 ho3 hn3 q1 q2 q3 q4 HOW HR1 HAL hx3;go_wp2_with fail
 refine HOF.out.mono ?_;rintro _ w4 ⟨rfl,hb4,ho4⟩;have h4k:¬ RM r (fun b=>N b\/(w.heap.size<=b/\b<w3.heap.size)) g4:=by
  rintro (e | h)
  ·omega
  ·exact h (.inr ⟨hgw,hg4⟩)
 have HK4:=Lib.hid (ho4.blk HK3.out h4k);have HB4:=Lib.hid hb4;have HO4:=Lib.hid ((Only.of_below HX3.out).trans (ho4.mono fun b _=>RM.mono (N:=N) fun b=>.inl));have hs4:=ho4.size;clear hb4 ho4 h4k HOF;go_wp2_with (refine Q01 (o:=⟨none,_,_,_,_,_⟩) rfl 60 (.tmp 4) (.tmp 15) rfl g4 0 D rfl rfl 60 inkZ HK4.out (by rw [HDS.out]; rfl) (by rw [HDS.out,HZS.out]; omega) HDO.out ?_; intro w5 hT5 hD5; rw [Q08 _ _ (by rw [HDS.out,HZS.out])] at hD5)
 refine bodyPost_ret (Q0b rfl _ _ g4 32 60 _ _ rfl hD5 Tryz.underlying60 rfl rfl HDS.out) rfl ⟨rfl,?_,?_⟩
 ·exact(HB4.out.turned hT5 (.inr ⟨hgw,hg4⟩) (by omega)).less (Nat.le_refl _) fun b=>.inl
 ·exact⟨hT5.os.trans HO4.out.os,hT5.tape.trans HO4.out.tape,hT5.output.trans HO4.out.output,by rw [hT5.size]; exact HO4.out.size,fun i hi hn=>(hT5.block i (by omega)).trans (HO4.out.block i hi hn)⟩
end
section
open Go.RowKit Go.Maps
attribute [local irreducible] wpList Q0i
theorem reads_u8 (w:World) (u:UInt8):Q0d (w.alloc (.cells #[vb u] 5)) (w.heap.size+1) 1 (some ⟨w.heap.size,0,none⟩) 1 [vb u]:=Q73 _ _ _
theorem Qcs (w:World) (r k:Nat) (N:Nat->Prop) (A:Option Addr) (n c:Nat) (ds:List (List UInt8)) (h:RBk w r N k) (hk:k<=900000) (hr:Q0d w w.heap.size 32 A n (Q0q ds)) (hd:Digs ds) (hN:∀ b,N b->b<w.heap.size) (h1:1<=n) (h4:n<=4) :
 Calls Tryz.prog 177 #[.pointer (some ⟨r,0,none⟩),.slice A n c] w fun e w'=>e=.returned (.tuple #[.agg (bRow (upD ds)),.int .i64 0])/\RBk w' r N (k+1)/\Only (RM r N) w w':=by
 have hxn:ds.length=n:=by have h2:=hr.1; rw [Q1W hd] at h2; omega
 obtain⟨ad,rfl,hadb,hcell⟩:=hr.2 (by omega);have hX:=Q07 w (.cells inkZ 60);have hk0:Blk (w.alloc (.cells inkZ 60)) w.heap.size 60 inkZ:=Blk.newAt rfl;have HX:=Lib.hid hX;have HK:=Lib.hid hk0;have HBK:=Lib.hid h;have HNN:=Lib.hid hN;have HXN:=Lib.hid hxn;have HDS:=Lib.hid hd;have HC:=Lib.hid hcell;have HZ:=Lib.hid Q1T;have HZS:=Lib.hid (show inkZ.size=32 by simp [inkZ,bRow]);have hul:=Q4P ds;have hds:=Q0E hul;have hdo:=Q0K (upD ds);obtain⟨D,hD⟩:∃ D,D=bRow (upD ds):=⟨_,rfl⟩;rw [<- hD] at hds hdo ⊢;have HDE:=Lib.hid hD;have HDZ:=Lib.hid hds;have HDO:=Lib.hid hdo;obtain⟨g4,hg4⟩:∃ g,g=w.heap.size:=⟨_,rfl⟩;have hgw:w.heap.size<=g4:=by omega
 have hnn:¬ (n:Int)<1:=by omega
 have hnn4:¬ (4:Int)<(n:Int):=by omega
 obtain⟨i0,hi0,hz0,hz1,hz2⟩:=info_parts Q1O;have hrl:=h.lt;clear h hr hN hX hk0 hxn hds hdo hD hd hcell hul;go_enter Tryz.func177,Tryz.ntmps177
 go_upto_region 1 with fail
 rw [<- HZ.out];generalize World.alloc w _=w1 at HX HK ⊢;rw [<- hg4] at HK ⊢;have hl4:=HK.out.lt;have hs1:=HX.out.size;clear hg4;have hal:=Q07 w1 (.cells #[vb 1] 5);have HO1:=Lib.hid (show OwnB (w1.alloc (.cells #[vb 1] 5)) w1.heap.size (.slice (some ⟨w1.heap.size,0,none⟩) 1 1) (upIn (ds.take 0)) from Qd1 w1 1 w1.heap.size (Nat.le_refl _));have HX1:=Lib.hid (HX.out.trans (hal.mono hs1));have HA1:=Lib.hid hal;have hsz1:=hal.size;have HSZ:=Lib.hid hsz1;clear hal hsz1;go_wp2_with fail
 go_loopw [6,7] (fun ov iv wr=>∃ i:Nat,i<=n/\iv=.int .i64 i/\OwnB wr w1.heap.size ov (upIn (ds.take i))/\Below w1.heap.size w1 wr) (fun _ iv _=>n - (intOf iv).toNat)
 case atStart=>exact⟨0,by omega,rfl,HO1.out,HA1.out⟩
 case round =>
  obtain⟨i,hi,rfl,hov,hbel⟩:=hrel;have HOV:=Lib.hid hov;have HB:=Lib.hid hbel;have hsz:=hbel.size;clear hov hbel;by_cases hin:i<n
  ·have hil:i<ds.length:=by have:=HXN.out; omega
   have hcs:=Q9E HDS.out hil HC.out;have hlen:(upIn (ds.take i)).length=1+i*32:=by
    rw [Q8S (fun d hd=>HDS.out d (List.mem_of_mem_take hd)),List.length_take,Nat.min_eq_left (by omega)];omega
   have htk:upIn (ds.take (i+1))=upIn (ds.take i)++ds[i]:=by
    unfold upIn;rw [List.take_succ_eq_append_getElem hil,List.flatten_append]
    simp
   have hdl:ds[i].length=32:=HDS.out _ (List.getElem_mem hil);obtain⟨d,hdd⟩:∃ d,d=ds[i]:=⟨_,rfl⟩;rw [<- hdd] at hcs htk hdl;obtain⟨xb,hxb⟩:∃ xb,xb=upIn (ds.take i):=⟨_,rfl⟩;rw [<- hxb] at hlen htk HOV;have HCS:=Lib.hid hcs;have HTK:=Lib.hid htk;have HLN:=Lib.hid hlen;have HDL:=Lib.hid hdl;clear hcs htk hdd hdl hxb hlen;have hinI:(i:Int)<(n:Int):=by omega
   go_wp2_with fail
   go_loopw [6,8] (fun ov jv wr=>∃ j:Nat,j<=32/\jv=.int .i64 j/\OwnB wr w1.heap.size ov (xb++d.take j)/\Below w1.heap.size w1 wr) (fun _ jv _=>32 - (intOf jv).toNat)
   case atStart=>exact⟨0,by omega,rfl,(by rw [List.take_zero,List.append_nil]; exact HOV.out),HB.out⟩
   case round =>
    obtain⟨j,hj,rfl,hoj,hbj⟩:=hrel;have HOJ:=Lib.hid hoj;have HBJ:=Lib.hid hbj;have hszj:=hbj.size;clear hoj hbj;by_cases hjn:j<32
    ·have hjl:j<d.length:=by have:=HDL.out; omega
     have hcl:wr.cell? ((ad.add (i*32)).add j)=some (vb d[j]):=by
      have h2:((ad.add (i*32)).add j).block<w.heap.size:=by rw [Q0e,Q0e]; omega
      have h3:=HCS.out j (vb d[j]) (by simp [bRow,hjl]);exact(HBJ.out.cell (by have:=HX.out.size; omega)).trans ((HX.out.cell h2).trans h3)
     have hnext:xb++d.take (j+1)=(xb++d.take j)++[d[j]]:=by rw [List.take_succ_eq_append_getElem hjl,List.append_assoc]
     have hlx:(xb++d.take j).length=1+i*32+j:=by rw [List.length_append,List.length_take,HLN.out,HDL.out,Nat.min_eq_left (by omega)]
     obtain⟨u,hu⟩:∃ u,u=d[j]:=⟨_,rfl⟩;rw [<- hu] at hcl hnext;obtain⟨xc,hxc⟩:∃ xc,xc=xb++d.take j:=⟨_,rfl⟩;rw [<- hxc] at hnext hlx HOJ;have HNX:=Lib.hid hnext;have HLX:=Lib.hid hlx;have HWN:=Lib.hid (show wr.ownsRow w1.heap.size 5 1 _ xc.length (xc.map vb) from HOJ.out);have HR1:=Lib.hid (reads_u8 wr u);have hjI:(j:Int)<32:=by omega
     unfold vb at hcl;clear hnext hlx hu hxc;go_wp2_with (at_builtin; go_must (refine Q06 _ rfl (.tmp 29) (.tmp 36) 22 rfl w1.heap.size 5 i0 _ 1 1 Tryz.underlying22 hi0 hz0 hz1 hz2 rfl (by omega) _ _ _ rfl (HWN.out.alloc _) (wr.heap.size+1) (some ⟨wr.heap.size,0,none⟩) 1 1 [.int .u8 (u.toNat:Int)] rfl HR1.out (by simp [Value.oneCell']) ?c1 ?c2 ?c3 ?_))
     case c1=>have:=HLX.out; unfold maxLen; omega
     case c2=>have:=HLX.out; omega
     case c3=>simp; omega
     intro v3 w3 hown3 hg3 hor3;have hb3:=Q0k (HBJ.out.trans ((Q07 wr (.cells #[vb u] 5)).mono hszj)) (by simp; omega) hg3 (fun b hb=>HOJ.out.ge hb);have HB3:=Lib.hid hb3;have HO3:=Lib.hid (show OwnB w3 w1.heap.size v3 (xb++d.take (j+1)) by
      unfold OwnB;rw [HNX.out,List.length_append,List.map_append,List.length_singleton,List.map_singleton];exact hown3)
     clear hb3 hown3 hg3 hor3;go_wp2_with fail
     go_roundw
     case rel=>exact⟨j+1,by omega,by go_num,HO3.out,HB3.out⟩
     case measure=>simp [intOf]; omega
    ·obtain rfl:j=32:=by omega
     have hjI:¬ ((32:Nat):Int)<32:=by omega
     have HF:=Lib.hid (show OwnB wr w1.heap.size _ (upIn (ds.take (i+1))) by
      have:=HOJ.out;rw [List.take_of_length_le (by have:=HDL.out; omega),<- HTK.out] at this;exact this)
     go_wp2_with fail
     go_roundw
     case rel=>exact⟨i+1,by omega,by go_num,HF.out,HBJ.out⟩
     case measure=>simp [intOf]; omega
  ·obtain rfl:i=n:=by omega
   have hinI:¬ (i:Int)<(i:Int):=by omega
   have hov:=HOV.out;rw [List.take_of_length_le (by have:=HXN.out; omega)] at hov;obtain⟨A3,c3,hv,q1,q2,q3,q4⟩:=Q0p hov;have hul:=Q8S HDS.out;obtain⟨n3,hn3⟩:∃ k,k=(upIn ds).length:=⟨_,rfl⟩;have hn3b:n3<=65536:=by rw [hn3,hul]; have:=HXN.out; omega
   rw [<- hn3] at hv q1 q3;subst hv;have hs3:=HB.out.size;have hx3:Below w.heap.size w wr:=HX.out.trans (HB.out.mono hs1);have hg4:g4<wr.heap.size:=by omega
   have HOF:=Lib.hid (Qbg wr r k (fun b=>N b\/(w.heap.size<=b/\b<wr.heap.size)) A3 n3 c3 (upIn ds) (HBK.out.later hx3) hk q3 (fun a _ ha e=>by have:=q4 a ha; omega) (fun b hb=>by
    rcases hb with hb | hb
    ·have:=HNN.out b hb; omega
    ·exact hb.2) q1 q2 hn3b)
   rw [show bRow (Q14 (upIn ds))=D from HDE.out.symm] at HOF;have HK3:=Lib.hid (HK.out.below' HB.out);have HX3:=Lib.hid hx3;clear hov hn3 q1 q2 q3 q4 hul hx3;go_wp2_with fail
   refine HOF.out.mono ?_;rintro _ w4 ⟨rfl,hb4,ho4⟩;have h4k:¬ RM r (fun b=>N b\/(w.heap.size<=b/\b<wr.heap.size)) g4:=by
    rintro (e | h)
    ·omega
    ·exact h (.inr ⟨hgw,hg4⟩)
   have HK4:=Lib.hid (ho4.blk HK3.out h4k);have HB4:=Lib.hid hb4;have HO4:=Lib.hid ((Only.of_below HX3.out).trans (ho4.mono fun b _=>RM.mono (N:=N) fun b=>.inl));have hs4:=ho4.size;clear hb4 ho4 h4k HOF;go_wp2_with (refine Q01 (o:=⟨none,_,_,_,_,_⟩) rfl 60 (.tmp 4) (.tmp 41) rfl g4 0 D rfl rfl 60 inkZ HK4.out (by rw [HDZ.out]; rfl) (by rw [HDZ.out,HZS.out]; omega) HDO.out ?_; intro w5 hT5 hD5; rw [Q08 _ _ (by rw [HDZ.out,HZS.out])] at hD5)
   refine bodyPost_ret (Q0b rfl _ _ g4 32 60 _ _ rfl hD5 Tryz.underlying60 rfl rfl HDZ.out) rfl ⟨rfl,?_,?_⟩
   ·exact(HB4.out.turned hT5 (.inr ⟨hgw,hg4⟩) (by omega)).less (Nat.le_refl _) fun b=>.inl
   ·exact⟨hT5.os.trans HO4.out.os,hT5.tape.trans HO4.out.tape,hT5.output.trans HO4.out.output,by rw [hT5.size]; exact HO4.out.size,fun i hi hn=>(hT5.block i (by omega)).trans (HO4.out.block i hi hn)⟩
end
end Go.Proofs.YtcpngeiahgoacaaGreat
