/- Parts of the proof, in one text: TreeM, NumMath, BinNum, BinJoin, Slice, Rel, BinTake, BinFix, WishVal, WishBytes, VaultM, VoM, Reader, Parse, WishMath, Batch. -/
import Derived.Test.YtcpngeiahgoacaaGreatD4
import Derived.Test.YtcpngeiahgoacaaGreatD1
import Derived.Test.YtcpngeiahgoacaaGreatD3
import Derived.Lib.SliceRun
import Derived.Deep.DeepCutAuto
import Derived.Laws.OwnMore
import Derived.Deep.RegionLaw
namespace Go.Proofs.YtcpngeiahgoacaaGreat
set_option linter.unusedVariables false
set_option linter.unusedSimpArgs false
set_option maxRecDepth 100000
set_option maxHeartbeats 16000000
section
def Q2l (x:List UInt8):List UInt8:=0 :: x
def Q1A (x:List UInt8):List UInt8:=Q14 (Q2l x)
def upIn (ds:List (List UInt8)):List UInt8:=1 :: ds.flatten
def upD (ds:List (List UInt8)):List UInt8:=Q14 (upIn ds)
def grp (ds:List (List UInt8)) (p:Nat):List (List UInt8):=(ds.drop (4*p)).take 4
def grps (n:Nat):Nat:=(n+3) / 4
def Q2m (ds:List (List UInt8)):List (List UInt8):=(List.range (grps ds.length)).map fun p=>upD (grp ds p)
def Digs (ds:List (List UInt8)):Prop:=∀ d,d∈ds->d.length=32
theorem Q2j (x:List UInt8):(Q1A x).length=32:=Q2A _
theorem Q4P (ds:List (List UInt8)):(upD ds).length=32:=Q2A _
theorem Q2S (ds:List (List UInt8)):(Q2m ds).length=grps ds.length:=by simp [Q2m]
theorem Q74 (ds:List (List UInt8)):Digs (Q2m ds):=fun d hd=>by
 obtain⟨p,_,rfl⟩:=List.mem_map.1 hd;exact Q4P _
theorem Qa9 (ls:List (List UInt8)):Digs (ls.map Q1A):=fun d hd=>by
 obtain⟨p,_,rfl⟩:=List.mem_map.1 hd;exact Q2j _
theorem Q89 {ds:List (List UInt8)} (h:Digs ds) (p:Nat):Digs (grp ds p):=fun d hd=>h d (List.mem_of_mem_drop (List.mem_of_mem_take hd))
theorem Q5c:∀ {ds:List (List UInt8)},Digs ds->ds.flatten.length=32*ds.length
 | [],_=>rfl
 | d :: t,h=>by
  have h1:=h d (List.mem_cons_self ..);have h2:=Q5c (ds:=t) fun e he=>h e (List.mem_cons_of_mem _ he)
  simp only [List.flatten_cons,List.length_append,List.length_cons];omega
theorem Q8S {ds:List (List UInt8)} (h:Digs ds):(upIn ds).length=1+32*ds.length:=by
 unfold upIn;rw [List.length_cons,Q5c h];omega
theorem Digs.set {ds:List (List UInt8)} (h:Digs ds) (i:Nat) {d:List UInt8} (hd:d.length=32):Digs (ds.set i d):=fun e he=>by
 rcases List.mem_or_eq_of_mem_set he with h1 | rfl
 ·exact h e h1
 ·exact hd
theorem Qd5 (ds:List (List UInt8)) (p j:Nat):(grp ds p)[j]?=if j<4 then ds[4*p+j]? else none:=by
 unfold grp;rw [List.getElem?_take];split <;> simp
theorem Q6Y (ds:List (List UInt8)) (i p:Nat) (d:List UInt8) (h:p≠i / 4):grp (ds.set i d) p=grp ds p:=by
 apply List.ext_getElem?
 intro j;rw [Qd5,Qd5];split
 ·rename_i hj;rw [List.getElem?_set];rw [if_neg (by omega)]
 ·rfl
theorem Q7Y (ds:List (List UInt8)) (p:Nat):(Q2m ds)[p]?=if p<grps ds.length then some (upD (grp ds p)) else none:=by
 unfold Q2m;rw [List.getElem?_map];split
 ·rename_i h; rw [List.getElem?_range h]; rfl
 ·rename_i h; rw [List.getElem?_eq_none (by simpa using h)]; rfl
theorem QbO (ds:List (List UInt8)) (i:Nat) (d:List UInt8) (h:i<ds.length):Q2m (ds.set i d)=(Q2m ds).set (i / 4) (upD (grp (ds.set i d) (i / 4))):=by
 apply List.ext_getElem?
 intro p;rw [List.getElem?_set,Q7Y,Q7Y,List.length_set];by_cases hp:i / 4=p
 ·subst hp;rw [if_pos rfl,if_pos (by unfold grps; omega),Q2S,if_pos (by unfold grps; omega)]
 ·rw [if_neg hp,Q6Y _ _ _ _ (fun e=>hp e.symm)]
def lv (ls:List (List UInt8)):Nat->List (List UInt8)
 | 0=>ls.map Q1A
 | n+1=>Q2m (lv ls n)
def Q2o (ls:List (List UInt8)):List UInt8:=(lv ls 2).getD 0 []
theorem Q2C (ls:List (List UInt8)):∀ n,Digs (lv ls n)
 | 0=>Qa9 ls
 | n+1=>Q74 _
theorem Q6l (ls:List (List UInt8)):(lv ls 0).length=ls.length:=by simp [lv]
theorem Q71 (ls:List (List UInt8)):(lv ls 1).length=grps ls.length:=by
 show (Q2m (lv ls 0)).length=_;rw [Q2S,Q6l]
theorem QcM (ls:List (List UInt8)):(lv ls 2).length=grps (grps ls.length):=by
 show (Q2m (lv ls 1)).length=_;rw [Q2S,Q71]
theorem Q9H (ls:List (List UInt8)) (h1:5<=ls.length) (h2:ls.length<=16):lv ls 2=[Q2o ls]/\(Q2o ls).length=32:=by
 have h:=QcM ls;have hl:(lv ls 2).length=1:=by rw [h]; unfold grps; omega
 obtain⟨d,hd⟩:=List.length_eq_one_iff.1 hl;have hr:Q2o ls=d:=by unfold Q2o; rw [hd]; rfl
 rw [hr];exact⟨hd,Q2C ls 2 d (by rw [hd]; exact List.mem_singleton.2 rfl)⟩
theorem Qdi (ls:List (List UInt8)) (i:Nat) (x:List UInt8):lv (ls.set i x) 0=(lv ls 0).set i (Q1A x):=by
 simp [lv,List.map_set]
structure Q1X (L:List (List UInt8)) (ls:List (List UInt8)):Prop where
 leaf:∀ x,x∈ls->Q2l x∈L
 one:∀ p,p<grps ls.length->upIn (grp (lv ls 0) p)∈L
 two:upIn (lv ls 1)∈L
theorem Q1X.more {L L' ls:List (List UInt8)} (h:Q1X L ls) (hs:∀ x,x∈L->x∈L'):Q1X L' ls:=⟨fun x hx=>hs _ (h.leaf x hx),fun p hp=>hs _ (h.one p hp),hs _ h.two⟩
theorem Q1X.set {L L' ls:List (List UInt8)} {i:Nat} {x:List UInt8} (h:Q1X L ls) (hi:i<ls.length) (hs:∀ y,y∈L->y∈L') (h0:Q2l x∈L') (h1:upIn (grp (lv (ls.set i x) 0) (i / 4))∈L') (h2:upIn (lv (ls.set i x) 1)∈L'):Q1X L' (ls.set i x):=by
 refine⟨fun y hy=>?_,fun p hp=>?_,h2⟩
 ·rcases List.mem_or_eq_of_mem_set hy with hm | rfl
  ·exact hs _ (h.leaf y hm)
  ·exact h0
 ·by_cases he:p=i / 4
  ·subst he; exact h1
  ·rw [Qdi,Q6Y _ _ _ _ he];rw [List.length_set] at hp;exact hs _ (h.one p hp)
end
section
def nd (n:Nat):Nat:=if h:n=0 then 0 else nd (n / 256)+1
theorem Qcx:nd 0=0:=by unfold nd; simp
theorem nd_pos {n:Nat} (h:n≠0):nd n=nd (n / 256)+1:=by rw [nd]; simp [h]
theorem nd_gt (n:Nat):∀ j,(0<n / 256 ^ j <-> j<nd n):=by
 induction n using Nat.strongRecOn with
 | _ n ih =>
  intro j;by_cases h:n=0
  ·subst h; simp [Qcx]
  ·rw [nd_pos h];cases j with
   | zero=>simp; omega
   | succ j =>
    rw [Nat.pow_succ,Nat.mul_comm,<- Nat.div_div_eq_div_mul,ih (n / 256) (by omega) j];omega
theorem nd_le {n k:Nat} (h:n<256 ^ k):nd n<=k:=by
 rcases Nat.lt_or_ge k (nd n) with h1 | h1
 ·have:=(nd_gt n k).2 h1;rw [Nat.div_eq_of_lt h] at this;omega
 ·exact h1
def dig (n k i:Nat):UInt8:=UInt8.ofNat (n / 256 ^ (k - 1 - i) % 256)
def digs (n k:Nat):List UInt8:=(List.range k).map (dig n k)
theorem Q6d (n k:Nat):(digs n k).length=k:=by simp [digs]
theorem Qcl (n k:Nat):digs n (k+1)=digs (n / 256) k++[UInt8.ofNat (n % 256)]:=by
 unfold digs;rw [List.range_succ,List.map_append];congr 1
 ·apply List.map_congr_left
  intro i hi;have hi:=List.mem_range.1 hi;unfold dig;rw [show k+1 - 1 - i=(k - 1 - i)+1 by omega,Nat.pow_succ,Nat.mul_comm,<- Nat.div_div_eq_div_mul]
 ·simp [dig]
def numB (n:Nat):List UInt8:=UInt8.ofNat (nd n) :: digs n (nd n)
def valB (l:List UInt8):Nat:=l.foldl (fun a b=>a*256+b.toNat) 0
def maxN:Nat:=9007199254740991
theorem Q9p {n:Nat} (h:n<=maxN):nd n<=7:=nd_le (by unfold maxN at h; omega)
def takeN (b:List UInt8):Except Nat (Nat×List UInt8) :=
 match b with
 | []=>.error 3
 | m :: r =>
  if 7<m.toNat then .error 4
  else if r.length<m.toNat then .error 3
  else if 0<m.toNat/\r.head?=some 0 then .error 4
  else if maxN<valB (r.take m.toNat) then .error 9
  else .ok (valB (r.take m.toNat),r.drop m.toNat)
theorem Qcw {n:Nat} (h:n<=maxN):(UInt8.ofNat (nd n)).toNat=nd n:=by
 have:=Q9p h;rw [UInt8.toNat_ofNat',Nat.mod_eq_of_lt (by omega)]
theorem Q2N {n:Nat} (h:n<=maxN):1<=(numB n).length/\(numB n).length<=8:=by
 have:=Q9p h;unfold numB;simp [Q6d];omega
def takeF (b:List UInt8) (n:Nat):Except Nat (List UInt8×List UInt8):=if b.length<n then .error 3 else .ok (b.take n,b.drop n)
def takeS (b:List UInt8) (most:Nat):Except Nat (List UInt8×List UInt8) :=
 match takeN b with
 | .error e=>.error e
 | .ok (n,r)=>if min most 65536<n then .error 5 else takeF r n
def strB (s:List UInt8):List UInt8:=numB s.length++s
end
section
open Go.RowKit
theorem Q73 (w:World) (x:Value) (t:TypeId):Q0d (w.alloc (.cells #[x] t)) (w.heap.size+1) 1 (some ⟨w.heap.size,0,none⟩) 1 [x] :=
 ⟨rfl,fun _=>⟨_,rfl,Nat.lt_succ_self _,cell_one_new w x t⟩⟩
theorem QaH (n j:Nat):(n:Int) / 2 ^ (8*j)=((n / 256 ^ j:Nat):Int):=by
 rw [Nat.pow_mul 2 8 j |> fun h=>(show (2:Int) ^ (8*j)=((2 ^ (8*j):Nat):Int) by simp)];rw [Nat.pow_mul]
 simp
theorem Q7T (n:Nat) (hn:n<=maxN) (w:World) :
 Calls Tryz.prog 132 #[.int .i64 (n:Int)] w fun e w'=>∃ v,e=.returned (.tuple #[v,.int .i64 0])/\OwnB w' w.heap.size v (numB n)/\Below w.heap.size w w':=by
 have h7:=Q9p hn;unfold maxN at hn;obtain⟨i0,hi0,hz0,hz1,hz2⟩:=info_parts Q1O;go_enter Tryz.func132,Tryz.ntmps132
 go_wp2_with fail
 go_loopw [4] (fun mv wr=>∃ j:Nat,j<=nd n/\mv=.int .i64 j/\w=wr) (fun mv _=>8 - (intOf mv).toNat)
 case atStart=>exact⟨0,by omega,rfl,rfl⟩
 case round =>
  obtain⟨j,hj,rfl,rfl⟩:=hrel;by_cases hjn:j<nd n
  ·have hsh:(0:Int)<(n:Int) / 2 ^ (8*j):=by rw [QaH]; have:=(nd_gt n j).2 hjn; omega
   go_wp2_with fail
   go_roundw
   case rel=>exact⟨j+1,by omega,by go_num,trivial⟩
   case measure=>simp [intOf]; omega
  ·obtain rfl:j=nd n:=by omega
   have hsh:¬ (0:Int)<(n:Int) / 2 ^ (8*nd n):=by rw [QaH]; have:=(nd_gt n (nd n)); omega
   go_wp2_with fail
   clear hsh;have hX:Below w.heap.size w (w.alloc (.cells #[.int .u8 (nd n:Int)] 5)):=(Below.refl _ _).alloc (Nat.le_refl _) _;have hb0:vb (UInt8.ofNat (nd n))=.int .u8 (nd n:Int):=by unfold vb bi; rw [Qcw hn]
   have ho:OwnB (w.alloc (.cells #[.int .u8 (nd n:Int)] 5)) w.heap.size (.slice (some ⟨w.heap.size,0,none⟩) 1 1) ((numB n).take 1):=by
    rw [<- hb0];exact⟨rfl,.inr ⟨w.heap.size,1,_,rfl,Nat.le_refl _,heap_alloc_new w _,Nat.le_refl _,by unfold maxLen; omega,rfl,rfl⟩⟩
   have HO:=Lib.hid ho;have HX:=Lib.hid hX;clear ho hX hb0;go_loopw [5,24] (fun ov iv w2=>∃ (i:Nat),i<=nd n/\iv=.int .i64 i/\OwnB w2 w.heap.size ov ((numB n).take (i+1))/\Below w.heap.size w w2) (fun _ iv _=>nd n - (intOf iv).toNat)
   case atStart=>exact⟨0,by omega,rfl,HO.out,HX.out⟩
   case round =>
    obtain⟨i,hi,rfl,hov,hbel⟩:=hrel;have hown:=hov;unfold OwnB at hown;have HOV:=Lib.hid hov;have HWN:=Lib.hid hown;have HB:=Lib.hid hbel;have hsz:=hbel.size;clear hov hown hbel;have hlen:(numB n).length=nd n+1:=by simp [numB,Q6d]
    by_cases hin:i<nd n
    ·have hd:vb (dig n (nd n) i)=.int .u8 ((n:Int) / 2 ^ (8*(nd n - 1 - i)) % 256):=by
      rw [QaH]; unfold vb bi dig; rw [UInt8.toNat_ofNat']; congr 1; omega
     have hnext:(numB n).take (i+1+1)=(numB n).take (i+1)++[dig n (nd n) i]:=by
      rw [List.take_succ_eq_append_getElem (by omega)];simp [numB,digs]
     have HD:=Lib.hid hd;have HNX:=Lib.hid hnext;have hti:((numB n).take (i+1)).length=i+1:=by rw [List.length_take]; omega
     have HTI:=Lib.hid hti;clear hd hnext hlen hti;go_wp2_with (at_builtin; go_must (refine Q06 _ rfl (.tmp 27) (.tmp 36) 22 rfl w.heap.size 5 i0 _ 1 1 Tryz.underlying22 hi0 hz0 hz1 hz2 rfl (by omega) _ _ _ rfl (HWN.out.alloc _) (wr.heap.size+1) (some ⟨wr.heap.size,0,none⟩) 1 1 [.int .u8 ((n:Int) / 2 ^ (8*(nd n - 1 - i)) % 256)] rfl (Q73 _ _ _) (by simp [Value.oneCell']) ?c1 ?c2 ?c3 ?_))
     case c1=>have:=HTI.out; unfold maxLen; omega
     case c2=>have:=HTI.out; omega
     case c3=>simp; omega
     intro v3 w3 hown3 hg3 hor3;have hb3:=Q0k (HB.out.trans ((Below.refl _ _).alloc (Nat.le_refl _) (.cells #[.int .u8 ((n:Int) / 2 ^ (8*(nd n - 1 - i)) % 256)] 5) |>.mono hsz)) (by simp; omega) hg3 (fun b hb=>HOV.out.ge hb);have HB3:=Lib.hid hb3;have HO3:=Lib.hid (show OwnB w3 w.heap.size v3 ((numB n).take (i+1+1)) by
      unfold OwnB;rw [HNX.out,List.length_append,List.map_append,List.length_singleton,List.map_singleton,HD.out];simpa [List.map_take] using hown3)
     clear hb3 hown3 hg3 hor3;go_wp2_with fail
     go_roundw
     case rel=>exact⟨i+1,by omega,by go_num,HO3.out,HB3.out⟩
     case measure=>simp [intOf]; omega
    ·obtain rfl:i=nd n:=by omega
     go_wp2_with fail
     go_ret2
     refine⟨_,rfl,?_,HB.out⟩;have:=HOV.out;rw [List.take_of_length_le (by omega)] at this;exact this
end
section
open Go.RowKit
theorem OwnB.row {w:World} {B:Nat} {v:Value} {xs:List UInt8} (h:OwnB w B v xs):w.ownsRow B 5 1 v xs.length (xs.map vb):=h
def Q4w (w:World) (B:Nat) (A:Option Addr) (n:Nat) (xss:List (List UInt8)):Prop :=
 xss.length=n/\(0<n->∃ ad,A=some ad/\ad.block<B/\∀ (k:Nat) (x:List UInt8),xss[k]?=some x->∃ Ak mk ck,w.cell? (ad.add k)=some (.slice Ak mk ck)/\Q0d w B 1 Ak mk (x.map vb))
theorem Q4w.below {w w':World} {B n:Nat} {A:Option Addr} {xss:List (List UInt8)} (h:Q4w w B A n xss) (hb:Below B w w'):Q4w w' B A n xss :=
 ⟨h.1,fun h0=>by
  obtain⟨ad,hA,hB,hc⟩:=h.2 h0;exact⟨ad,hA,hB,fun k x hx=>by
   obtain⟨Ak,mk,ck,h1,h2⟩:=hc k x hx;exact⟨Ak,mk,ck,(hb.cell (by rw [Q0e]; exact hB)).trans h1,h2.below hb⟩⟩⟩
theorem join_any (A:Option Addr) (n c:Nat) (xss:List (List UInt8)) (w:World) (B:Nat) (h:Q4w w B A n xss) (hB:B<=w.heap.size) (hn:n<=1000000) (hl:xss.flatten.length<=100000000) :
 Calls Tryz.prog 128 #[.slice A n c] w fun e w'=>∃ v,e=.returned v/\OwnB w' w.heap.size v xss.flatten/\Below w.heap.size w w':=by
 have H:=Lib.hid h;have hxn:=h.1;have HXN:=Lib.hid hxn;clear h hxn;obtain⟨i0,hi0,hz0,hz1,hz2⟩:=info_parts Q1O;go_enter Tryz.func128,Tryz.ntmps128
 go_wp2_with fail
 go_loopw [3,8] (fun ov iv wr=>∃ i:Nat,i<=n/\iv=.int .i64 i/\OwnB wr w.heap.size ov (xss.take i).flatten/\Below w.heap.size w wr) (fun _ iv _=>n - (intOf iv).toNat)
 case atStart=>exact⟨0,by omega,rfl,OwnB.nil _ _,Below.refl _ _⟩
 case round =>
  obtain⟨i,hi,rfl,hov,hbel⟩:=hrel;have HOV:=Lib.hid hov;have HB:=Lib.hid hbel;have hsz:=hbel.size;clear hov hbel;by_cases hin:i<n
  ·obtain⟨ad,hA,hadb,hcell⟩:=H.out.2 (by omega);subst hA;have hxi:i<xss.length:=by have:=HXN.out; omega
   obtain⟨Ak,mk,ck,hck,hrk⟩:=hcell i xss[i] (List.getElem?_eq_getElem hxi);have hck':=(HB.out.cell (show (ad.add i).block<w.heap.size by rw [Q0e]; omega)).trans hck;have hrk':=hrk.below (HB.out.mono hB);have hmk:xss[i].length=mk:=by have:=hrk.1; simpa using this
   obtain⟨ys,hys⟩:∃ ys,ys=(xss.take i).flatten:=⟨_,rfl⟩;have htk:(xss.take (i+1)).flatten=(xss.take i).flatten++xss[i]:=by rw [List.take_succ_eq_append_getElem hxi,List.flatten_append]; simp only [List.flatten_cons,List.flatten_nil,List.append_nil]
   have htl:(xss.take (i+1)).flatten.length<=xss.flatten.length:=by
    conv=>rhs; rw [<- List.take_append_drop (i+1) xss,List.flatten_append,List.length_append]
    omega
   rw [htk,List.length_append] at htl;rw [<- hys] at HOV htk htl;have HTK:=Lib.hid htk;have HYS:=Lib.hid hys;clear hys;have HWN:=Lib.hid HOV.out.row;have HRK:=Lib.hid hrk';generalize xss[i]=x at HTK HRK hmk htl;have HMK:=Lib.hid hmk;clear hcell hck hrk hrk' hmk htk;go_wp2_with (at_builtin; go_must (refine Q06 _ rfl (.tmp 12) (.tmp 13) 22 rfl w.heap.size 5 i0 _ 1 1 Tryz.underlying22 hi0 hz0 hz1 hz2 rfl (by omega) _ _ _ rfl HWN.out B Ak mk ck (x.map vb) rfl HRK.out ?c1 ?c2 ?c3 ?c4 ?_))
   case c1=>intro u hu; obtain⟨y,_,rfl⟩:=List.mem_map.1 hu; rfl
   case c2=>have:=HMK.out; unfold maxLen; omega
   case c3=>have:=HMK.out; omega
   case c4=>omega
   intro v3 w3 hown3 hg3 hor3;have HB3:=Lib.hid (Q0k HB.out hsz hg3 (fun b hb=>HOV.out.ge hb));have HO3:=Lib.hid (show OwnB w3 w.heap.size v3 (xss.take (i+1)).flatten by
    unfold OwnB;rw [HTK.out,List.length_append,List.map_append,HMK.out];exact hown3)
   clear hown3 hg3 hor3;go_wp2_with fail
   go_roundw
   case rel=>exact⟨i+1,by omega,by go_num,HO3.out,HB3.out⟩
   case measure=>simp [intOf]; omega
  ·obtain rfl:i=n:=by omega
   go_wp2_with fail
   go_ret
   refine⟨_,rfl,?_,HB.out⟩;have:=HOV.out;rw [List.take_of_length_le (by have:=HXN.out; omega)] at this;exact this
theorem Qd8 {w:World} {t:TypeId} {A A':Option Addr} {n n' c c':Nat} {xs ys:List UInt8} (h:Q0d w w.heap.size 1 A n (xs.map vb)) (h':Q0d w w.heap.size 1 A' n' (ys.map vb)) :
 Q4w (w.alloc (.cells #[.slice A n c,.slice A' n' c'] t)) (w.heap.size+1) (some ⟨w.heap.size,0,none⟩) 2 [xs,ys]:=by
 have hb:Below w.heap.size w (w.alloc (.cells #[.slice A n c,.slice A' n' c'] t)):=(Below.refl _ _).alloc (Nat.le_refl _) _;have hk:Blk (w.alloc (.cells #[.slice A n c,.slice A' n' c'] t)) w.heap.size t #[.slice A n c,.slice A' n' c']:=Blk.newAt rfl;refine⟨rfl,fun _=>⟨_,rfl,Nat.lt_succ_self _,fun k x hx=>?_⟩⟩;match k,hx with
 | 0,hx=>simp at hx; subst hx; exact⟨_,_,_,(hk.cell 0).trans rfl,(h.below hb).more (by omega)⟩
 | 1,hx=>simp at hx; subst hx; exact⟨A',n',c',(by rw [show ((⟨w.heap.size,0,none⟩:Addr).add 1)=⟨w.heap.size,1,none⟩ from rfl]; exact(hk.cell 1).trans rfl),(h'.below hb).more (by omega)⟩
theorem str_any (A:Option Addr) (n c:Nat) (xs:List UInt8) (w:World) (B:Nat) (h:Q0d w B 1 A n (xs.map vb)) (hB:B<=w.heap.size) (hn:n<=65536) :
 Calls Tryz.prog 84 #[.slice A n c] w fun e w'=>∃ v,e=.returned (.tuple #[v,.int .i64 0])/\OwnB w' w.heap.size v (strB xs)/\Below w.heap.size w w':=by
 have hxn:xs.length=n:=by have:=h.1; simpa using this
 have H:=Lib.hid h;have HXN:=Lib.hid hxn;clear h hxn;go_enter Tryz.func84,Tryz.ntmps84
 go_wp2_with fail
 refine(Q7T n (by unfold maxN; omega) w).mono ?_;rintro _ w2 ⟨v,rfl,hov2,hb2⟩;obtain⟨Av,cv,rfl,hvc,hvm,hvr,hvB⟩:=Q0p hov2;have hx8:=Q2N (show n<=maxN by unfold maxN; omega);have hs2:=hb2.size;have hrow:=Qd8 (t:=22) (c:=cv) (c':=c) hvr ((H.out.below (hb2.mono hB)).more (by omega));have HROW:=Lib.hid hrow;have HB2:=Lib.hid hb2;obtain⟨xb,hxb⟩:∃ xb,xb=numB n:=⟨_,rfl⟩;rw [<- hxb] at hx8 HROW ⊢;have HXB:=Lib.hid hxb;clear hov2 hb2 hvr hxb hrow hvc;go_wp2_with fail
 refine(join_any _ 2 2 _ _ _ HROW.out (by simp) (by omega) (by simp; have:=HXN.out; omega)).mono ?_;rintro _ w3 ⟨v3,rfl,ho3,hb3⟩;have HB3:=Lib.hid ((HB2.out.trans (((Below.refl _ w2).alloc (Nat.le_refl _) _).mono hs2)).trans (hb3.mono (by simp; omega)));have HO3:=Lib.hid ho3;clear ho3 hb3;go_wp2_with fail
 go_ret2
 refine⟨_,rfl,?_,HB3.out⟩;have:=HO3.out.more (B':=w.heap.size) (by simp; omega);unfold strB;rw [HXN.out,<- HXB.out];simpa using this
end
section
open Go.RowKit
theorem Blk.under {w w':World} {g:Nat} {t:TypeId} {cs:Array Value} (h:Blk w g t cs) (hb:Below w.heap.size w w'):Blk w' g t cs:=h.below hb h.lt
def Q16 (p:World->Value->Prop):Prop:=∀ w w' v,p w v->Below w.heap.size w w'->p w' v
theorem Q16.pure (q:Value->Prop):Q16 fun _ v=>q v:=fun _ _ _ h _=>h
def Q26 (ops:Array Oper) (ps:Nat->World->Value->Prop) (j:Nat) (w:World) (a:Act):Prop:=∀ o d,ops[j]?=some o->o.dst=some d->ps j w (a.eval (.tmp d))
structure Kept (ops:Array Oper) (n:Nat) (a0 a:Act):Prop where
 defers:a.defers=a0.defers
 size:a.tmps.size=a0.tmps.size
 tmps:∀ d:Nat,(∀ (i:Nat) (o:Oper),i<n->ops[i]?=some o->o.dst≠some d)->a.tmps[d]?=a0.tmps[d]?
def freeB (ops:Array Oper) (n d:Nat):Bool:=(List.range n).all fun i=>match ops[i]? with
 | none=>true
 | some o=>o.dst != some d
theorem QbS {ops:Array Oper} {n d:Nat} (h:freeB ops n d=true):∀ (i:Nat) (o:Oper),i<n->ops[i]?=some o->o.dst≠some d:=fun i o hi ho=>by
 have:=List.all_eq_true.1 h i (List.mem_range.2 hi);simp only [ho,bne_iff_ne] at this;exact this
theorem Kept.at_ {ops:Array Oper} {n:Nat} {a0 a:Act} (h:Kept ops n a0 a) {d:Nat} (hd:freeB ops n d=true):a.eval (.tmp d)=a0.eval (.tmp d):=by
 have:=h.tmps d (QbS hd);simp [Act.eval,this]
theorem Kept.get {ops:Array Oper} {n:Nat} {a0 a:Act} (h:Kept ops n a0 a) {d:Nat} (hd:freeB ops n d=true) {v:Value} (hv:a0.eval (.tmp d)=v):a.tmps[d]?.getD undef=v:=by
 have:=h.at_ hd;rw [hv] at this;simpa [Act.eval] using this
theorem Q26.get {ops:Array Oper} {ps:Nat->World->Value->Prop} {j:Nat} {w:World} {a:Act} (h:Q26 ops ps j w a) {o:Oper} (d:Nat) (ho:ops[j]?=some o) (hd:o.dst=some d):ps j w (a.tmps[d]?.getD undef):=by
 have:=h o d ho hd;simpa [Act.eval] using this
def Q5g (P:Program) (ops:Array Oper) (o:Oper) (a:Act) (w:World) (p:World->Value->Prop):Prop :=
 ∀ (K:Act->World->Prop) (Q':Exit->Act->World->Prop),(∀ v w',Below w.heap.size w w'->p w' v->K (a.put o.dst v) w')->if Region.wanted o (yielded ops a.tmps)=true then o.wp P a w K Q' else K (a.put o.dst undef) w
section
variable {P:Program} {ops:Array Oper}
theorem Q21 {o:Oper} {a:Act} {w:World} {p:World->Value->Prop} (hw:Region.wanted o (yielded ops a.tmps)=true) (v:Value) (w':World) (he:(execOp a.eval o).run P w=.ok (.value v) w') (hb:Below w.heap.size w w') (hp:p w' v):Q5g P ops o a w p:=fun K Q' hK=>by
 rw [if_pos hw];unfold Oper.wp;rw [he];exact hK v w' hb hp
theorem Q00 {o:Oper} {a:Act} {w:World} {p:World->Value->Prop} (hw:Region.wanted o (yielded ops a.tmps)=true) (v:Value) (he:(execOp a.eval o).run P w=.ok (.value v) w) (hp:p w v):Q5g P ops o a w p :=
 Q21 hw v w he (Below.refl _ _) hp
theorem Q0w {o:Oper} {a:Act} {w:World} {p:World->Value->Prop} (hw:Region.wanted o (yielded ops a.tmps)=true) (f:FuncId) (args:Array Value) (he:(execOp a.eval o).run P w=.ok (.enter f args) w)
 (hc:Calls P f args w fun e w'=>∃ v,e=.returned v/\Below w.heap.size w w'/\p w' v):Q5g P ops o a w p:=fun K Q' hK=>by
 rw [if_pos hw];unfold Oper.wp;rw [he];refine hc.mono ?_;rintro e w' ⟨v,rfl,hb,hp⟩;exact hK v w' hb hp
theorem Q1F {o:Oper} {a:Act} {w:World} {p:World->Value->Prop} (hw:Region.wanted o (yielded ops a.tmps)=false) (hp:p w undef):Q5g P ops o a w p:=fun K Q' hK=>by
 rw [if_neg (by rw [hw]; exact Bool.false_ne_true)];exact hK undef w (Below.refl _ _) hp
end
def QbP (md:Region.Mode) (ops:Array Oper) (n:Nat):Bool:=(List.range n).all fun i=>match ops[i]? with
 | none=>true
 | some o=>o.after.all fun e=>!Region.binds md e || decide (e.on<i)
def Q0W (m n:Nat):Array Bool:=(List.range m).map (fun i=>decide (i<n)) |>.toArray
theorem Q3M (m n k:Nat) (d:Bool) (h:k<m):(Q0W m n).getD k d=decide (k<n):=by
 unfold Q0W;simp [h]
def relB (md:Region.Mode) (ops:Array Oper) (n:Nat):Bool :=
 decide (n<ops.size) && Region.sinkB md ops n && Region.chainB md ops n && Q8i ops n && QbP md ops n && Region.seqB md ops (ops.size - n) n (Q0W ops.size n)
section
variable {P:Program} {md:Region.Mode} {ops:Array Oper}
theorem Q3Q (f:Nat->Bool):∀ n,(∃ i,i<n/\f i=false)->∃ i,i<n/\f i=false/\∀ j,j<i->f j=true:=by
 intro n
 induction n with
 | zero=>rintro ⟨i,hi,_⟩; omega
 | succ n ih =>
  rintro ⟨i,hi,h⟩;by_cases hx:∃ i,i<n/\f i=false
  ·obtain⟨j,h1,h2,h3⟩:=ih hx;exact⟨j,by omega,h2,h3⟩
  ·have hin:i=n:=by
    rcases Nat.lt_or_ge i n with h4 | h4
    ·exact absurd ⟨i,h4,h⟩ hx
    ·omega
   subst hin;refine⟨i,by omega,h,fun j hj=>?_⟩;cases hf:f j with
   | true=>rfl
   | false=>exact absurd ⟨j,hj,hf⟩ hx
theorem Q95 {n:Nat} {ps:Nat->World->Value->Prop} {a0:Act} {w0:World} {Q':Exit->Act->World->Prop} (hn:n<ops.size) (hs:Region.sinkB md ops n=true) (hc:Region.chainB md ops n=true) (hd:Q8i ops n=true) (hbk:QbP md ops n=true)
 (hl:∀ j,Q16 (ps j))
 (hop:∀ i o,i<n->ops[i]?=some o->∀ a w,Below w0.heap.size w0 w->Kept ops n a0 a->(∀ j,Region.waitsFor md ops i j=true->Q26 ops ps j w a)->Q5g P ops o a w (ps i))
 (hL:∀ a w,Below w0.heap.size w0 w->Kept ops n a0 a->(∀ j,j<n->Q26 ops ps j w a)->wpAny P md ops Q' (ops.size - n) (Q0W ops.size n) a w)
 (hsz:∀ (i:Nat) (o:Oper) (d:Tmp),i<n->ops[i]?=some o->o.dst=some d->d<a0.tmps.size) :
 ∀ (f:Nat) (listed:Array Bool) (a:Act) (w:World),((List.range n).filter fun i=>!listed.getD i false).length=f->HeadInv md ops n listed->Below w0.heap.size w0 w->Kept ops n a0 a->(∀ j,j<n->listed.getD j false=true->Q26 ops ps j w a)->wpAny P md ops Q' (f+(ops.size - n)) listed a w
 | 0,listed,a,w,hf,inv,hb,hk,hp=>by
  have hall:∀ j,j<n->listed.getD j false=true:=fun j hj=>by
   cases hx:listed.getD j false with
   | true=>rfl
   | false =>
    have:j∈(List.range n).filter fun i=>!listed.getD i false:=List.mem_filter.2 ⟨List.mem_range.2 hj,by rw [hx]; rfl⟩
    rw [List.eq_nil_of_length_eq_zero hf] at this;cases this
  have hls:listed=Q0W ops.size n:=by
   apply Array.ext
   ·rw [inv.size]; simp [Q0W]
   ·intro i h1 h2;have hi:i<ops.size:=by rw [<- inv.size]; exact h1
    have e1:listed[i]=listed.getD i false:=by simp [h1]
    have e2:(Q0W ops.size n)[i]=(Q0W ops.size n).getD i false:=by simp [h2]
    rw [e1,e2,Q3M _ _ _ _ hi];by_cases hin:i<n
    ·rw [hall i hin,decide_eq_true hin]
    ·rw [decide_eq_false hin];exact getD_both (inv.tail i (by omega) hi)
  rw [Nat.zero_add,hls];exact hL a w hb hk fun j hj=>hp j hj (hall j hj)
 | f+1,listed,a,w,hf,inv,hb,hk,hp=>by
  have hex:∃ i,i<n/\listed.getD i false=false:=by
   cases hx:(List.range n).filter fun i=>!listed.getD i false with
   | nil=>rw [hx] at hf; cases hf
   | cons i t =>
    have:i∈(List.range n).filter fun i=>!listed.getD i false:=by rw [hx]; exact List.mem_cons_self
    obtain⟨h1,h2⟩:=List.mem_filter.1 this;exact⟨i,List.mem_range.1 h1,by simpa using h2⟩
  obtain⟨m,hm,hmf,hmb⟩:=Q3Q (fun i=>listed.getD i false) n hex;have hin:∀ k,k<n->listed.getD k false=false->listed.getD k true=false:=fun k hk h=>getD_in (by rw [inv.size]; omega) h
  rw [show f+1+(ops.size - n)=(f+(ops.size - n))+1 by omega];refine⟨fun h0=>?_,fun i hi=>?_⟩
  ·exfalso
   have:m∈Region.ready md ops listed:=by
    refine mem_ready.2 ⟨hin m hm hmf,ops[m],Array.getElem?_eq_getElem (by omega),fun e he hbd=>?_⟩;have h1:=List.all_eq_true.1 hbk m (List.mem_range.2 hm);rw [Array.getElem?_eq_getElem (show m<ops.size by omega)] at h1;have h2:=Array.all_eq_true_iff_forall_mem.1 h1 e he;rw [hbd] at h2;simp at h2;exact hmb e.on h2
   rw [h0] at this;cases this
  ·have hin':i<n:=by
    rcases Nat.lt_or_ge i n with h | h
    ·exact h
    ·exact absurd hi (tail_waits hs hc hn inv _ m rfl hm (hin m hm hmf) i h)
   obtain⟨hun,o,ho,hall⟩:=mem_ready.1 hi;have hrel:=hop i o hin' ho a w hb hk (fun j hj=>by
    obtain⟨oj,hoj,e,he,hbd,hon⟩:=Region.waitsFor_spec hj;have:oj=o:=Option.some.inj (hoj.symm.trans ho);subst this;have h1:=hall e he hbd;rw [hon] at h1;have h2:=List.all_eq_true.1 hbk i (List.mem_range.2 hin');rw [ho] at h2;have h3:=Array.all_eq_true_iff_forall_mem.1 h2 e he;rw [hbd] at h3;simp at h3;exact hp j (by omega) h1)
   unfold wpOp;simp only [ho];have hcnt:((List.range n).filter fun k=>!(listed.setIfInBounds i true).getD k false).length=f:=by
    have hmem:i∈(List.range n).filter fun i=>!listed.getD i false:=List.mem_filter.2 ⟨List.mem_range.2 hin',by rw [getD_both hun]; rfl⟩
    have hnd:((List.range n).filter fun i=>!listed.getD i false).Nodup:=List.Pairwise.filter _ List.nodup_range;have he:((List.range n).filter fun k=>!(listed.setIfInBounds i true).getD k false)=((List.range n).filter fun i=>!listed.getD i false).erase i:=by
     rw [hnd.erase_eq_filter,List.filter_filter];apply List.filter_congr
     intro k hk;by_cases hki:i=k
     ·subst hki;have hlt:i<listed.size:=by rw [inv.size]; omega
      simp [hlt]
     ·rw [getD_set_ne false hki];simp [Ne.symm hki]
    rw [he,List.length_erase_of_mem hmem,hf];rfl
   have hfin:∀ v w',Below w.heap.size w w'->ps i w' v->wpAny P md ops Q' (f+(ops.size - n)) (listed.setIfInBounds i true) (a.put o.dst v) w':=fun v w' hbw hpv=>by
    refine Q95 hn hs hc hd hbk hl hop hL hsz f _ _ w' hcnt (inv.set hi hin') (hb.trans (hbw.mono hb.size)) ⟨?_,by rw [Q2G]; exact hk.size,fun d hfree=>?_⟩ fun j hj hlj oj d hoj hdj=>?_
    ·rw [<- hk.defers]; unfold Act.put; split <;> rfl
    ·rw [Q1x (hfree i o hin' ho)]; exact hk.tmps d hfree
    ·by_cases hji:j=i
     ·subst hji;have:oj=o:=Option.some.inj (hoj.symm.trans ho);subst this;have hds:d<a.tmps.size:=by rw [hk.size]; exact hsz j oj d hin' hoj hdj
      have he:(a.put oj.dst v).eval (.tmp d)=v:=by
       rw [hdj];simp [Act.put,Act.eval,hds]
      rw [he];exact hpv
     ·have hl2:listed.getD j false=true:=by rw [getD_set_ne false (Ne.symm hji)] at hlj; exact hlj
      have he:(a.put o.dst v).eval (.tmp d)=a.eval (.tmp d):=by
       have:=Q1x (a:=a) (v:=v) (Q2c hd hj hin' hji hoj ho hdj);simp [Act.eval,this]
      rw [he];exact hl j _ _ _ (hp j hj hl2 oj d hoj hdj) hbw
   have:=hrel (wpAny P md ops Q' (f+(ops.size - n)) (listed.setIfInBounds i true)) Q' hfin;split
   ·rename_i hwt;rw [if_pos hwt] at this;exact .inl this
   ·rename_i hwt;rw [if_neg hwt] at this;exact this
end
def Q6P (P:Program) (ops:Array Oper) (n:Nat) (ps:Nat->World->Value->Prop) (a0:Act) (w0:World):Nat->List Oper->Prop
 | _,[]=>True
 | k,o :: l=>(∀ a w,Below w0.heap.size w0 w->Kept ops n a0 a->(∀ j,Region.waitsFor .any ops k j=true->Q26 ops ps j w a)->Q5g P ops o a w (ps k))/\Q6P P ops n ps a0 w0 (k+1) l
theorem Q6P.spec {P:Program} {ops:Array Oper} {n:Nat} {ps:Nat->World->Value->Prop} {a0:Act} {w0:World}:∀ (l:List Oper) (k:Nat),Q6P P ops n ps a0 w0 k l->∀ i o,l[i]?=some o ->
 ∀ a w,Below w0.heap.size w0 w->Kept ops n a0 a->(∀ j,Region.waitsFor .any ops (k+i) j=true->Q26 ops ps j w a)->Q5g P ops o a w (ps (k+i))
 | [],k,_,i,o,ho=>by simp at ho
 | o' :: l,k,h,0,o,ho=>by simp at ho; subst ho; exact h.1
 | o' :: l,k,h,i+1,o,ho=>by
  have:=Q6P.spec l (k+1) h.2 i o (by simpa using ho);rw [show k+1+i=k+(i+1) by omega] at this;exact this
def QbF (ops:Array Oper) (n m:Nat):Bool:=(List.range n).all fun i=>match ops[i]? with
 | none=>true
 | some o=>match o.dst with
  | none=>true
  | some d=>decide (d<m)
theorem Q8r {P:Program} {id:Nat} {Q:Exit->Act->World->Prop} {a:Act} {w:World} {l:List Oper} (n m:Nat) (ps:Nat->World->Value->Prop) (hm:P.follows .mixedOrders=true) (hB:relB .any l.toArray n=true) (hsz:QbF l.toArray n m=true) (ha:a.tmps.size=m)
 (hl:∀ j,Q16 (ps j)) (hop:Q6P P l.toArray n ps a w 0 (l.take n))
 (h:∀ a' w',Below w.heap.size w w'->Kept l.toArray n a a'->(∀ j,j<n->Q26 l.toArray ps j w' a')->wpList P l.toArray Q (l.drop n) a' w'):(Code.region id l.toArray true).wp P Q a w:=by
 simp only [relB,Bool.and_eq_true,decide_eq_true_eq] at hB;obtain⟨⟨⟨⟨⟨hn,hs⟩,hc⟩,hd⟩,hbk⟩,hsq⟩:=hB;have inv0:HeadInv .any l.toArray n (Array.replicate l.toArray.size false) :=
  ⟨by simp,fun j oj _ hl=>(by rw [getD_replicate_false] at hl; cases hl),fun t _ ht=>getD_in (by simpa using ht) (getD_replicate_false _ _)⟩
 have hdl:(l.drop n).length=l.toArray.size - n:=by simp
 refine wp_region_any hm ?_;have:=Q95 (Q':=Q) (md:=.any) (P:=P) (ops:=l.toArray) (n:=n) (ps:=ps) (a0:=a) (w0:=w) hn hs hc hd hbk hl (fun i o hi ho a' w' h1 h2 h3=>by
  have:=Q6P.spec (l.take n) 0 hop i o (by rw [List.getElem?_take,if_pos hi]; simpa using ho) a' w' h1 h2;simp only [Nat.zero_add] at this;exact this h3)
  (fun a' w' h1 h2 h3=>by
   have:=wpAny_of_seq (md:=.any) (ops:=l.toArray) (Q':=Q) (l.drop n) n (Q0W l.toArray.size n) a' w' (fun j=>by simp [List.getElem?_drop]) (by rw [hdl]; exact hsq) (h a' w' h1 h2 h3);rw [hdl] at this;exact this)
  (fun i o d hi ho hdst=>by
   have:=List.all_eq_true.1 hsz i (List.mem_range.2 hi);simp only [ho,hdst,decide_eq_true_eq] at this;rw [ha]; exact this)
  n (Array.replicate l.toArray.size false) a w.drew (by
   rw [List.filter_eq_self.2 (fun i _=>by rw [getD_replicate_false]; rfl)]
   simp) inv0 (Below.refl _ w).drew ⟨rfl,rfl,fun _ _=>rfl⟩ (fun j _ hj=>by rw [getD_replicate_false] at hj; cases hj)
 rw [show n+(l.toArray.size - n)=l.toArray.size by omega] at this;exact this
def Q0H:Act->List Nat->(Nat->Value)->Act
 | a,[],_=>a
 | a,d :: ds,f=>Q0H (a.put (some d) (f d)) ds f
theorem Q7S:∀ (ds:List Nat) (a:Act) (f:Nat->Value) (k:Nat),(Q0H a ds f).tmps[k]?=if k∈ds/\k<a.tmps.size then some (f k) else a.tmps[k]?
 | [],a,f,k=>by simp [Q0H]
 | d :: ds,a,f,k=>by
  rw [Q0H,Q7S ds,Q2G];by_cases hk:k∈ds/\k<a.tmps.size
  ·rw [if_pos hk,if_pos ⟨List.mem_cons_of_mem _ hk.1,hk.2⟩]
  ·rw [if_neg hk];by_cases hd:k=d
   ·subst hd;by_cases hs:k<a.tmps.size
    ·rw [if_pos ⟨List.mem_cons_self,hs⟩];simp [Act.put,hs]
    ·rw [if_neg (fun h=>hs h.2),Array.getElem?_eq_none (by rw [Q2G]; omega),Array.getElem?_eq_none (by omega)]
   ·rw [if_neg (fun h=>by
     rcases List.mem_cons.1 h.1 with h1 | h1
     ·exact hd h1
     ·exact hk ⟨h1,h.2⟩)]
    exact Q1x (fun e=>hd (by injection e with e; exact e.symm))
theorem Q52:∀ (ds:List Nat) (a:Act) (f:Nat->Value),(Q0H a ds f).defers=a.defers
 | [],a,f=>rfl
 | d :: ds,a,f=>by rw [Q0H,Q52 ds]; rfl
def Q5N (ops:Array Oper) (n:Nat):List Nat:=(List.range n).filterMap fun i=>(ops[i]?).bind (·.dst)
theorem Kept.puts {ops:Array Oper} {n:Nat} {a0 a:Act} (h:Kept ops n a0 a) (hs:QbF ops n a0.tmps.size=true):a=Q0H a0 (Q5N ops n) (fun d=>a.tmps[d]?.getD undef):=by
 have h1:a.tmps=(Q0H a0 (Q5N ops n) (fun d=>a.tmps[d]?.getD undef)).tmps:=by
  apply Array.ext_getElem?
  intro k;rw [Q7S];by_cases hk:k∈Q5N ops n/\k<a0.tmps.size
  ·rw [if_pos hk];have:k<a.tmps.size:=by rw [h.size]; exact hk.2
   simp [this]
  ·rw [if_neg hk];refine h.tmps k fun i o hi ho hd=>hk ⟨List.mem_filterMap.2 ⟨i,List.mem_range.2 hi,by rw [ho]; exact hd⟩,?_⟩
   have:=List.all_eq_true.1 hs i (List.mem_range.2 hi);simp only [ho,hd,decide_eq_true_eq] at this;exact this
 have h2:a.defers=(Q0H a0 (Q5N ops n) (fun d=>a.tmps[d]?.getD undef)).defers:=by rw [Q52,h.defers]
 calc a=⟨a.tmps,a.defers⟩:=rfl
  _=_:=by rw [h2]; conv=>lhs; arg 1; rw [h1]
theorem Q0l {P:Program} {id:Nat} {Q:Exit->Act->World->Prop} {a:Act} {w:World} {l:List Oper} (n m:Nat) (ps:Nat->World->Value->Prop) (ds:List Nat) (hm:P.follows .mixedOrders=true) (hB:relB .any l.toArray n=true) (hsz:QbF l.toArray n m=true) (ha:a.tmps.size=m) (hds:Q5N l.toArray n=ds)
 (hl:∀ j,Q16 (ps j)) (hop:Q6P P l.toArray n ps a w 0 (l.take n))
 (h:∀ (f:Nat->Value) w',Below w.heap.size w w'->(∀ j,j<n->∀ o d,l.toArray[j]?=some o->o.dst=some d->ps j w' (f d))->wpList P l.toArray Q (l.drop n) (Q0H a ds f) w'):(Code.region id l.toArray true).wp P Q a w:=by
 refine Q8r n m ps hm hB hsz ha hl hop fun a' w' hb hk hp=>?_
 rw [hk.puts (by rw [ha]; exact hsz),hds];exact h _ w' hb fun j hj o d ho hd=>(hp j hj).get d ho hd
end
section
open Go.RowKit
def tn (b:List UInt8):Nat×List UInt8×Nat:=match takeN b with
 | .error e=>(0,[],e)
 | .ok (n,r)=>(n,r,0)
end
section
open Go.RowKit
theorem Qda (B:Nat) (xs:List UInt8):Q16 fun w v=>OwnB w B v xs:=fun _ _ _ h hb=>h.below hb
def ts (b:List UInt8) (most:Nat):List UInt8×List UInt8×Nat:=match takeS b most with
 | .error e=>([],[],e)
 | .ok (s,r)=>(s,r,0)
end
section
open Go.RowKit
attribute [local irreducible] wpList
structure Wish where
 client:Int
 stamp:Int
 group:Int
 epoch:Int
 kind:Int
 block:Int
 data:List UInt8
 old:Int
 new:Int
 next:List Int
def Q05 (x:Wish) (A:Option Addr) (n c:Nat) (A':Option Addr) (n' c':Nat):Array Value :=
 #[.int .i64 x.client,.int .i64 x.stamp,.int .i64 x.group,.int .i64 x.epoch,.int .i64 x.kind,.int .i64 x.block,.slice A n c,.int .i64 x.old,.int .i64 x.new,.slice A' n' c']
def I64 (z:Int):Prop:=-9223372036854775808<=z/\z<=9223372036854775807
structure Q0Y (w:World) (B:Nat) (x:Wish) (A:Option Addr) (n c:Nat) (A':Option Addr) (n' c':Nat):Prop where
 data:Q0d w B 1 A n (x.data.map vb)
 dc:n<=c
 dm:n<=140737488355328
 next:Q0d w B 1 A' n' (x.next.map vn)
 nc:n'<=c'
 nm:n'<=17592186044416
 rng:I64 x.client/\I64 x.stamp/\I64 x.group/\I64 x.epoch/\I64 x.kind/\I64 x.block/\I64 x.old/\I64 x.new/\∀ z,z∈x.next->I64 z
theorem Q0Y.below {w w':World} {B:Nat} {x:Wish} {A:Option Addr} {n c:Nat} {A':Option Addr} {n' c':Nat} (h:Q0Y w B x A n c A' n' c') (hb:Below B w w'):Q0Y w' B x A n c A' n' c' :=
 ⟨h.data.below hb,h.dc,h.dm,h.next.below hb,h.nc,h.nm,h.rng⟩
theorem Q0Y.more {w:World} {B B':Nat} {x:Wish} {A:Option Addr} {n c:Nat} {A':Option Addr} {n' c':Nat} (h:Q0Y w B x A n c A' n' c') (hB:B<=B'):Q0Y w B' x A n c A' n' c' :=
 ⟨h.data.more hB,h.dc,h.dm,h.next.more hB,h.nc,h.nm,h.rng⟩
theorem Q0Y.dlen {w:World} {B:Nat} {x:Wish} {A:Option Addr} {n c:Nat} {A':Option Addr} {n' c':Nat} (h:Q0Y w B x A n c A' n' c'):x.data.length=n:=by have:=h.data.1; simpa using this
theorem Q0Y.nlen {w:World} {B:Nat} {x:Wish} {A:Option Addr} {n c:Nat} {A':Option Addr} {n' c':Nat} (h:Q0Y w B x A n c A' n' c'):x.next.length=n':=by have:=h.next.1; simpa using this
def Q1c:Int->List Int->Bool
 | _,[]=>true
 | last,n :: t=>decide (last<n/\n<=28) && Q1c n t
def Q2M (l:List Int):Bool:=decide (l.length % 3=1/\l.length<=7) && Q1c 0 l
def MayP (x:Wish):Prop:=0<=x.epoch/\x.epoch<=1048576/\(
 (x.kind=5/\x.client=0/\x.stamp=0/\x.block=0/\x.data.length=0/\x.old=0/\x.new=0/\1<=x.group/\x.group<=2/\Q2M x.next=true) \/
 (x.kind≠5/\31<=x.client/\x.client<=34/\1<=x.stamp/\x.stamp<=9007199254740991/\x.next.length=0/\(
  ((x.kind=1/\x.data.length=0\/x.kind=2/\x.data.length=16)/\1<=x.group/\x.group<=2/\0<=x.block/\x.block<=7/\x.old=0/\x.new=0) \/
  ((x.kind=3/\x.old=0/\x.new=0\/x.kind=4/\1<=x.old/\x.old<=28/\1<=x.new/\x.new<=28/\x.old≠x.new)/\x.group=0/\x.epoch=0/\1<=x.block/\x.block<=2/\x.data.length=0))))
instance (x:Wish):Decidable (MayP x):=by unfold MayP; infer_instance
def mayB (x:Wish):Bool:=decide (MayP x)
theorem QbN (n l m:Int) (w:World):Calls Tryz.prog 155 #[.int .i64 n,.int .i64 l,.int .i64 m] w fun e w'=>e=.returned (.bool (decide (l<=n/\n<=m)))/\w=w':=by
 by_cases h:l<=n
 ·go_enter Tryz.func155,Tryz.ntmps155
  go_wp2
  go_ret
  exact⟨Q0N (by simp [h]),rfl⟩
 ·have h':¬ (l<=n/\n<=m):=fun hh=>h hh.1
  rw [decide_eq_false h'];clear h';go_enter Tryz.func155,Tryz.ntmps155
  go_wp2
  go_ret
  exact⟨rfl,rfl⟩
theorem crew_any (A:Option Addr) (n c:Nat) (zs:List Int) (w:World) (B:Nat) (h:Q0d w B 1 A n (zs.map vn)) (hn:n<=17592186044416) :
 Calls Tryz.prog 156 #[.slice A n c] w fun e w'=>e=.returned (.bool (Q2M zs))/\w=w':=by
 have hzn:zs.length=n:=by have:=h.1; simpa using this
 have H:=Lib.hid h;have HZN:=Lib.hid hzn;clear h hzn;by_cases h1:n % 3=1
 ·by_cases h2:n<=7
  ·have HR:=Lib.hid (show Q2M zs=Q1c 0 zs by unfold Q2M; rw [decide_eq_true (by rw [HZN.out]; exact⟨h1,h2⟩),Bool.true_and]);go_enter Tryz.func156,Tryz.ntmps156
   go_wp2_with fail
   go_loopw [3,17] (fun lv iv wr=>∃ (i:Nat) (last:Int),i<=n/\lv=.int .i64 last/\iv=.int .i64 i/\w=wr/\Q2M zs=Q1c last (zs.drop i)) (fun _ iv _=>n - (intOf iv).toNat)
   case atStart=>exact⟨0,0,by omega,rfl,rfl,rfl,HR.out⟩
   case round =>
    obtain⟨i,last,hi,rfl,rfl,rfl,hr⟩:=hrel;by_cases hin:i<n
    ·obtain⟨ad,u,hA,hadb,hxi,hcell⟩:=H.out.at_ hin;subst hA;have hil:i<zs.length:=by have:=HZN.out; omega
     have hu:u=.int .i64 zs[i]:=by
      rw [List.getElem?_map,List.getElem?_eq_getElem hil] at hxi;injection hxi with hxi
      exact hxi.symm
     subst hu;rw [List.drop_eq_getElem_cons hil] at hr;generalize zs[i]=z at hr hcell;simp only [Q1c] at hr;clear hxi;by_cases hz:last<z/\z<=28
     ·rw [decide_eq_true hz,Bool.true_and] at hr;have HRR:=Lib.hid hr;clear hr;obtain⟨hz1,hz2⟩:=hz;have hz3:¬ z<=last:=by omega
      go_wp2_with fail
      go_roundw
      case rel=>exact⟨i+1,z,by omega,rfl,by go_num,trivial,HRR.out⟩
      case measure=>simp [intOf]; omega
     ·rw [decide_eq_false hz,Bool.false_and] at hr;have HRR:=Lib.hid hr;clear hr;by_cases hz1:z<=last
      ·go_wp2_with fail
       go_ret
       exact⟨by rw [HRR.out]; rfl,rfl⟩
      ·have hz2:28<z:=by omega
       go_wp2_with fail
       go_ret
       exact⟨by rw [HRR.out]; rfl,rfl⟩
    ·obtain rfl:i=n:=by omega
     rw [List.drop_of_length_le (by have:=HZN.out; omega)] at hr;have HRR:=Lib.hid hr;clear hr;go_wp2_with fail
     go_ret
     exact⟨by rw [HRR.out]; rfl,rfl⟩
  ·have HR:=Lib.hid (show Q2M zs=false by unfold Q2M; rw [decide_eq_false (by rw [HZN.out]; exact fun h=>h2 h.2),Bool.false_and]);go_enter Tryz.func156,Tryz.ntmps156
   go_wp2_with fail
   go_ret
   exact⟨by rw [HR.out]; rfl,rfl⟩
 ·have HR:=Lib.hid (show Q2M zs=false by unfold Q2M; rw [decide_eq_false (by rw [HZN.out]; exact fun h=>h1 h.1),Bool.false_and]);go_enter Tryz.func156,Tryz.ntmps156
  go_wp2_with fail
  go_ret
  exact⟨by rw [HR.out]; rfl,rfl⟩
theorem may_any (x:Wish) (A:Option Addr) (n c:Nat) (A':Option Addr) (n' c':Nat) (w:World) (B:Nat) (h:Q0Y w B x A n c A' n' c') (hB:B<=w.heap.size) :
 Calls Tryz.prog 125 #[.agg (Q05 x A n c A' n' c')] w fun e w'=>e=.returned (.bool (mayB x))/\Below w.heap.size w w':=by
 have hdl:=h.dlen;have hnl:=h.nlen;have HCR:=Lib.hid (fun W (hb:Below w.heap.size w W)=>crew_any A' n' c' x.next W B (h.next.below (hb.mono hB)) h.nm);obtain⟨client,stamp,group,epoch,kind,block,data,old,new,next⟩:=x;simp only at hdl hnl HCR;obtain⟨cr,hcr⟩:∃ cr,cr=Q2M next:=⟨_,rfl⟩;have HMB:=Lib.hid (show mayB ⟨client,stamp,group,epoch,kind,block,data,old,new,next⟩=decide (0<=epoch/\epoch<=1048576/\(
 (kind=5/\client=0/\stamp=0/\block=0/\n=0/\old=0/\new=0/\1<=group/\group<=2/\cr=true) \/
 (kind≠5/\31<=client/\client<=34/\1<=stamp/\stamp<=9007199254740991/\n'=0/\(
  ((kind=1/\n=0\/kind=2/\n=16)/\1<=group/\group<=2/\0<=block/\block<=7/\old=0/\new=0) \/
  ((kind=3/\old=0/\new=0\/kind=4/\1<=old/\old<=28/\1<=new/\new<=28/\old≠new)/\group=0/\epoch=0/\1<=block/\block<=2/\n=0))))) by
  unfold mayB MayP; simp only [hdl,hnl,<- hcr])
 rw [<- hcr] at HCR;clear hdl hnl hcr h;unfold Q05;simp only;go_enter Tryz.func125,Tryz.ntmps125
 go_wp2_with fail
 have hk:=Blk.new w 44 #[.int .i64 client,.int .i64 stamp,.int .i64 group,.int .i64 epoch,.int .i64 kind,.int .i64 block,.slice A n c,.int .i64 old,.int .i64 new,.slice A' n' c'];have hb:Below w.heap.size w (w.alloc (.cells #[.int .i64 client,.int .i64 stamp,.int .i64 group,.int .i64 epoch,.int .i64 kind,.int .i64 block,.slice A n c,.int .i64 old,.int .i64 new,.slice A' n' c'] 44)):=(Below.refl _ _).alloc (Nat.le_refl _) _;generalize w.alloc _=w1 at hk hb ⊢;have c0:=hk.cell 0;have c1:=hk.cell 1;have c2:=hk.cell 2;have c3:=hk.cell 3;have c4:=hk.cell 4;have c5:=hk.cell 5;have c6:=hk.cell 6;have c7:=hk.cell 7;have c8:=hk.cell 8;have c9:=hk.cell 9;simp only [List.getElem?_toArray,List.getElem?_cons_zero,List.getElem?_cons_succ] at c0 c1 c2 c3 c4 c5 c6 c7 c8 c9;have HB:=Lib.hid hb;have hcr:=HCR.out w1 hb;have HCW:=Lib.hid hcr;clear hk hb hcr;obtain⟨g,hg⟩:∃ g,g=w.heap.size:=⟨_,rfl⟩;rw [<- hg] at c0 c1 c2 c3 c4 c5 c6 c7 c8 c9 ⊢;clear hg;go_wp2_with (first
  | (go_at_call 155; refine(QbN _ _ _ _).mono ?_; rintro _ _ ⟨rfl,rfl⟩)
  | (go_at_call 156; refine HCW.out.mono ?_; rintro _ _ ⟨rfl,rfl⟩))
 all_goals go_ret
 all_goals refine⟨?_,HB.out⟩
 all_goals rw [HMB.out]
 all_goals refine Q0N ?_
 all_goals rw [Bool.eq_iff_iff]
 all_goals clear HCR HCW HMB HB c0 c1 c2 c3 c4 c5 c6 c7 c8 c9
 all_goals cases cr
 all_goals simp at *
 all_goals (try omega)
end
section
open Go.RowKit
def Q0M (l:List Int):List UInt8:=l.flatMap fun z=>numB z.toNat
def NumI (z:Int):Prop:=0<=z/\z<=9007199254740991
theorem Qcz {l:List Int} (h:∀ z,z∈l->NumI z):(Q0M l).length<=8*l.length:=by
 unfold Q0M
 induction l with
 | nil=>simp
 | cons a t ih =>
  have h1:=h a (by simp);unfold NumI at h1;have h2:=(Q2N (n:=a.toNat) (by unfold maxN; omega)).2;have h3:=ih (fun z hz=>h z (by simp [hz]));rw [List.flatMap_cons,List.length_append,List.length_cons];omega
theorem Q1m (w:World) (vs:Array Value) (t:TypeId):Q0d (w.alloc (.cells vs t)) (w.heap.size+1) 1 (some ⟨w.heap.size,0,none⟩) vs.size vs.toList:=by
 refine⟨by simp,fun _=>⟨_,rfl,Nat.lt_succ_self _,fun j u hu=>?_⟩⟩;have hk:Blk (w.alloc (.cells vs t)) w.heap.size t vs:=Blk.newAt rfl;have:=hk.cell j;rw [Array.getElem?_toList] at hu;rw [hu] at this;unfold Addr.add;split
 ·rename_i h0; subst h0; exact this
 ·simpa using this
theorem Q6S (x:Wish) (A:Option Addr) (n c:Nat) (A':Option Addr) (n' c':Nat) (w:World) (B:Nat) (h:Q0Y w B x A n c A' n' c') (hB:B<=w.heap.size) :
 Calls Tryz.prog 77 #[.agg (Q05 x A n c A' n' c')] w fun e w'=>e=.returned (.int .i64 (if mayB x=true then 0 else 2))/\Below w.heap.size w w':=by
 have HM:=Lib.hid (fun W (hb:Below w.heap.size w W)=>may_any x A n c A' n' c' W B (h.below (hb.mono hB)) (by have:=hb.size; omega));clear h;obtain⟨mb,hmb⟩:∃ b,b=mayB x:=⟨_,rfl⟩;rw [<- hmb] at HM ⊢;clear hmb;unfold Q05 at HM ⊢;go_enter Tryz.func77,Tryz.ntmps77
 go_wp2_with fail
 have hb:Below w.heap.size w (w.alloc (.cells #[.int .i64 x.client,.int .i64 x.stamp,.int .i64 x.group,.int .i64 x.epoch,.int .i64 x.kind,.int .i64 x.block,.slice A n c,.int .i64 x.old,.int .i64 x.new,.slice A' n' c'] 44)):=(Below.refl _ _).alloc (Nat.le_refl _) _;refine(HM.out _ hb).mono ?_;rintro _ w2 ⟨rfl,hb2⟩;have HB2:=Lib.hid (hb.trans (hb2.mono (by simp)));clear hb hb2;cases mb with
 | true =>
  go_wp2_with fail
  go_ret
  exact⟨rfl,HB2.out⟩
 | false =>
  go_wp2_with fail
  go_ret
  exact⟨rfl,HB2.out⟩
end
section
structure VM where
 group:Nat
 epoch:Nat
 blocks:List (List UInt8)
 last:List (Nat×List UInt8)
 shut:List Int
structure Ans where
 err:Nat
 data:List UInt8
 epoch:Nat
 nodes:List Int
def okA:Ans:=⟨0,[],0,[]⟩
def dataA (d:List UInt8):Ans:=⟨0,d,0,[]⟩
def errA (e n:Nat):Ans:=⟨e,[],n,[]⟩
def blockV (m:VM) (i:Nat):List UInt8:=m.blocks.getD i []
def lastV (m:VM) (i:Nat):Nat×List UInt8:=m.last.getD i (0,[])
def newV (g:Nat):VM:=⟨g,0,List.replicate 8 (List.replicate 16 0),List.replicate 4 (0,[]),[]⟩
def oldV (m:VM) (x:Wish):Option Ans :=
 let y:=lastV m (x.client - 31).toNat
 if x.stamp=(y.1:Int) then some (dataA y.2) else if x.stamp<(y.1:Int) then some (errA 172 0) else none
def elseV (m:VM) (e:Int):Option Ans :=
 if e≠(m.epoch:Int) then some (errA 171 m.epoch) else if 0<m.shut.length then some (errA 171 (m.epoch+1)) else none
def inV (m:VM) (x:Wish):Bool:=mayB x && decide (x.group=(m.group:Int))
def ranV (m:VM) (x:Wish):VM×List UInt8 :=
 let c:=(x.client - 31).toNat
 let b:=x.block.toNat
 let d:=if x.kind=1 then blockV m b else []
 (⟨m.group,m.epoch,if x.kind=1 then m.blocks else m.blocks.set b x.data,m.last.set c (x.stamp.toNat,d),m.shut⟩,d)
def sealV (m:VM) (x:Wish):VM×Ans :=
 match elseV m x.epoch with
 | some a=>(m,a)
 | none=>if m.epoch=1048576 then(m,errA 5 0) else(⟨m.group,m.epoch,m.blocks,m.last,x.next⟩,okA)
def doV (m:VM) (x:Wish):VM×Ans×Nat :=
 if inV m x=true then
  if x.kind=5 then((sealV m x).1,(sealV m x).2,0)
  else match oldV m x with
   | some a=>(m,a,0)
   | none=>match elseV m x.epoch with
    | some a=>(m,a,0)
    | none=>((ranV m x).1,dataA (ranV m x).2,0)
 else(m,okA,2)
def turnV (m:VM):VM×Nat:=if m.shut.length=0 then(m,171) else(⟨m.group,m.epoch+1,m.blocks,m.last,[]⟩,0)
end
section
open Go.RowKit
abbrev RdS:=List UInt8×Nat
def rdN (s:RdS):Nat×RdS:=if s.2=0 then((tn s.1).1,((tn s.1).2.1,(tn s.1).2.2)) else(0,s)
def rdT (s:RdS) (most:Nat):List UInt8×RdS:=if s.2=0 then((ts s.1 most).1,((ts s.1 most).2.1,(ts s.1 most).2.2)) else([],s)
def rdM (s:RdS) (most:Nat):Nat×RdS :=
 if (rdN s).2.2=0 then(if most<(rdN s).1 then(0,((rdN s).2.1,5)) else((rdN s).1,(rdN s).2)) else(0,(rdN s).2)
end
section
open Go.RowKit
def stN (s:RdS):Nat->RdS
 | 0=>s
 | i+1=>(rdN (stN s i)).2
def vlN (s:RdS) (i:Nat):Nat:=(rdN (stN s i)).1
def Q22:Wish:=⟨0,0,0,0,0,0,[],0,0,[]⟩
def pD (b:List UInt8):List UInt8×RdS:=rdT (stN (b,0) 6) 16
def pM (b:List UInt8):Nat×RdS:=rdM (stN (pD b).2 2) 7
def OwnN (w:World) (base:Nat) (v:Value) (zs:List Int):Prop:=w.ownsRow base 3 1 v zs.length (zs.map vn)
theorem own_lt {w:World} {base b:Nat} {v:Value} {zs:List Int} (h:OwnN w base v zs) (hb:v.ownBlock=some b):b<w.heap.size:=by
 rcases h.2 with⟨rfl,_⟩ | ⟨g,cap,cur,rfl,hg,hh,_⟩
 ·simp [Value.ownBlock] at hb
 ·simp [Value.ownBlock] at hb; subst hb;rcases Nat.lt_or_ge g w.heap.size with h | h
  ·exact h
  ·rw [Array.getElem?_eq_none h] at hh; cases hh
theorem own_ge {w:World} {base b:Nat} {v:Value} {zs:List Int} (h:OwnN w base v zs) (hb:v.ownBlock=some b):base<=b:=by
 rcases h.2 with⟨rfl,_⟩ | ⟨g,cap,cur,rfl,hg,hh,_⟩
 ·simp [Value.ownBlock] at hb
 ·simp [Value.ownBlock] at hb; omega
theorem Qb8 {w w':World} {base:Nat} {v:Value} {zs:List Int} (h:OwnN w base v zs) (hk:∀ b,v.ownBlock=some b->w'.heap[b]?=w.heap[b]?):OwnN w' base v zs:=by
 refine⟨h.1,?_⟩;rcases h.2 with h0 | ⟨g,cap,cur,rfl,hg,hh,h1⟩
 ·exact .inl h0
 ·exact .inr ⟨g,cap,cur,rfl,hg,(hk g rfl).trans hh,h1⟩
theorem Qbo {w:World} {B:Nat} {e:TypeId} {s n:Nat} {v:Value} {vs:List Value} (h:w.ownsRow B e s v n vs):∃ A c,v=.slice A n c:=by
 rcases h.2 with⟨rfl,h0⟩ | ⟨g,cap,cur,rfl,_⟩
 ·exact⟨none,0,by rw [h0]⟩
 ·exact⟨_,cap,rfl⟩
theorem Q1U (x:Wish) (A:Option Addr) (n c:Nat) (A':Option Addr) (n' c':Nat):(Q05 x A n c A' n' c').all (·.oneCell')=true:=by simp [Q05,Value.oneCell']
theorem Q1R (x:Wish) (A:Option Addr) (n c:Nat) (A':Option Addr) (n' c':Nat):(Tryz.prog.info? 44).map (·.size)=some (Q05 x A n c A' n' c').size:=by kernel_rfl
section
attribute [local irreducible] pD pM vlN stN
end
end
section
theorem NumI.max {z:Int} (h:NumI z):z.toNat<=maxN:=by unfold NumI at h; unfold maxN; omega
end
section
open Go.RowKit
def Q8u (w:World) (B:Nat) (A:Option Addr) (n:Nat) (l:List Wish):Prop :=
 l.length=n/\(0<n->∃ ad,A=some ad/\ad.block<B/\∀ (k:Nat) (x:Wish),l[k]?=some x->∃ A1 n1 c1 A2 n2 c2,(∀ (j:Nat) (v:Value),(Q05 x A1 n1 c1 A2 n2 c2)[j]?=some v->w.cell? (ad.add (10*k+j))=some v)/\Q0Y w B x A1 n1 c1 A2 n2 c2)
theorem Q1v {P:Program} {ops:Array Oper} {rest:List Oper} {o:Oper} {a:Act} {w:World} {Q:Exit->Act->World->Prop} (hgd:o.guard=none) (ty:TypeId) (x:Operand) (ho:o.op=.load ty x)
 (ad:Addr) (n:Nat) (hx:a.eval x=.pointer (some ad)) (vs:Array Value) (d:TypeDesc)
 (hu:P.underlying ty=some d) (hd:(match d with | .struct _ | .array _ _=>true | _=>false)=true) (hi:(P.info? ty).map (·.size)=some n)
 (hn:vs.size=n) (hv:∀ (j:Nat) (v:Value),vs[j]?=some v->w.cell? (ad.add j)=some v)
 (h:wpList P ops Q rest (a.put o.dst (.agg vs)) w):wpList P ops Q (o :: rest) a w :=
 wpList_plain hgd fun _ hK=>by
  have hl:(loadCells ad vs.toList.length).run P w=.ok vs.toList.toArray w :=
   run_loadCells_list (P:=P) w ad vs.toList (fun j v hj=>hv j v (by simpa using hj))
  have hrun:(loadVar ty ad).run P w=.ok (.agg vs) w:=by
   cases hq:P.info? ty with
   | none=>simp [hq] at hi
   | some i =>
    have hs:i.size=n:=by simpa [hq] using hi
    have hagg:(isAgg ty).run P w=.ok true w:=by
     unfold isAgg;rw [Sem.run_bind,run_underlying hu w];cases d <;> simp_all
    simp only [Array.length_toList,Array.toArray_toList,hn] at hl;simp [loadVar,Sem.run_bind,hagg,sizeOf,typeInfo,hq,hs,hl]
  unfold Oper.wp execOp;simp only [ho,hx,Instr.loadAt,Instr.sureAddr,Sem.run_bind,Sem.run_pure,Result.andThen_ok,hrun];exact hK _ _ h
end
end Go.Proofs.YtcpngeiahgoacaaGreat
