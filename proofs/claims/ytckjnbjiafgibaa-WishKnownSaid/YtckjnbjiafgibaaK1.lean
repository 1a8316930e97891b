/- Parts of the proof, in one text. -/
import Derived.WalkKit
import Derived.WalkSpells
import Derived.WalkLawsBesides
import Derived.Below
import Derived.Laws.OwnMore
import Derived.Deep.AppendLies
import Derived.Deep.Draws
import Derived.Laws.Rows
import Derived.Maps.AppendAt
import Derived.RegionTactic
import Derived.OwnWalk
import Derived.Deep.QuietTactic
import Derived.BigQuiet
import Derived.Deep.OwnRows
import Derived.Laws.AppendOwn
import Derived.Laws.MakeOwn
import Derived.Laws.Entries
import Derived.Laws.BitsAllLaws
import Derived.Laws.BitsLemmas
import Derived.ChangeSame
import Derived.Lib.Hide
import Derived.StillTailTactics
import Derived.Test.YtckjnbjiafgibaaRows
import Derived.Deep.LoopGhost
import Derived.ProofKit
import Derived.OpenShut
import Derived.ChangeOld
import Derived.ChangeSlices
import Derived.Deep.Slices
import Derived.SizedLaws
import Derived.Lib.SliceRun
import Derived.Laws.CopyRow
import Derived.Laws.Tables
import Derived.Deep.MidRow
import Derived.Laws.ResultCell
import Derived.Deep.RegionHeld3
import Derived.StillTail
import Derived.Lib.QuietBelow
namespace Go.Proofs.Ytckjnbjiafgibaa
set_option linter.unusedVariables false
set_option linter.unusedSimpArgs false
set_option maxRecDepth 100000
set_option maxHeartbeats 16000000
open _root_.Bool renaming false_eq_true->zZ,and_eq_true->zc
open _root_.Go renaming Addr->zA,World->zB,Value->zC,TypeId->zF,Program->zI,Oper->zL,Act->zM
open _root_.Go.Region renaming wanted->zP,Mode->za,ready->zb
open _root_.Go.Result renaming andThen_ok->zO
open _root_.Go.RowKit renaming Below->zE
open _root_.Go.RowKit.Below renaming refl->zU
open _root_.Go.Sem renaming run_bind->zN
open _root_.Go.Value renaming ownBlock->zH
open _root_.List renaming getElem?_eq_getElem->zD,eq_nil_of_length_eq_zero->zK,range->zR,length_append->zT,map_append->zV,length_cons->zX,take_of_length_le->zY,take_succ_eq_append_getElem->zd
open _root_.Nat renaming lt_or_ge->zG,eq_zero_or_pos->zJ,le_refl->zS,zero_add->zW
open _root_.UInt8 renaming ofNat->zQ
section
open Go.RowKit Go.WideShapes Go.ChangeShapes
theorem tT {α:Type}:(∀ (a:α) (l:List α) (i:Nat),(a::l).take (i+1)=a::l.take i)/\(∀ l:List α,l.take 0=[]):=⟨fun _ _ _=>rfl,fun _=>rfl⟩
theorem tU {α:Type}:(∀ (a:α) (l:List α) (i:Nat),(a::l).drop (i+1)=l.drop i)/\(∀ l:List α,l.drop 0=l):=⟨fun _ _ _=>rfl,fun _=>rfl⟩
abbrev LL:=List (List UInt8)
theorem sH {p : Prop} (h : p) : RowKit.Hid p := Lib.hid h
theorem sA:(∀ (l:List zC) (i:Nat) (a:zC),l.toArray.setIfInBounds i a=(l.set i a).toArray)/\(∀ (l:List zC) (a b:zC),(a :: l).set 0 b=b :: l)/\(∀ (l:List zC) (n:Nat) (a b:zC),(a :: l).set (n+1) b=a :: l.set n b):=⟨fun l i a=>List.setIfInBounds_toArray ..,fun l a b=>List.set_cons_zero,fun l n a b=>List.set_cons_succ⟩
theorem Q0a (a:zA) (n:Nat):(a.add n).block=a.block:=by unfold Addr.add; split <;> rfl
theorem Q1E (a:zA) (i j:Nat):(a.add i).add j=a.add (i+j):=by unfold Addr.add;by_cases hi:i=0 <;> by_cases hj:j=0 <;> simp [hi,hj,Nat.add_assoc]
def Q02 (w:zB) (B size:Nat) (A:Option zA) (n:Nat) (xs:List zC):Prop :=xs.length=n*size/\(0<n->∃ ad,A=some ad/\ad.block<B/\∀ j u,xs[j]?=some u->w.cell? (ad.add j)=some u)
section
variable {w w':zB} {B B' size n:Nat} {A:Option zA} {xs:List zC}
theorem Q02.none_:Q02 w B size A 0 []:=⟨by simp,fun h=>absurd h (by omega)⟩
theorem Q02.at_ {k:Nat} (h:Q02 w B 1 A n xs) (hk:k<n):∃ ad u,A=some ad/\ad.block<B/\xs[k]?=some u/\w.cell? (ad.add k)=some u:=by
 obtain⟨ad,e,hb,hc⟩:=h.2 (by omega);have hl:k<xs.length:=by have:=h.1; omega
 exact⟨ad,xs[k],e,hb,zD hl,hc k _ (zD hl)⟩
theorem Q02.keep (h:Q02 w B size A n xs) (hk:∀ p:zA,p.block<B->w'.cell? p=w.cell? p):Q02 w' B size A n xs :=⟨h.1,fun hn=>by obtain⟨ad,e,hb,hc⟩:=h.2 hn;exact⟨ad,e,hb,fun j u hu=>(hk _ (by rw [Q0a]; exact hb)).trans (hc j u hu)⟩⟩
theorem Q02.more (h:Q02 w B size A n xs) (hB:B<=B'):Q02 w B' size A n xs :=⟨h.1,fun hn=>by obtain⟨ad,e,hb,hc⟩:=h.2 hn;exact⟨ad,e,by omega,hc⟩⟩
theorem Q02.below (h:Q02 w B size A n xs) (hb:zE B w w'):Q02 w' B size A n xs:=h.keep fun _ hp=>hb.cell hp
theorem Q02.drewN (h:Q02 w B size A n xs) (k:Nat):Q02 (w.drewN k) B size A n xs:=h
theorem Q02.alloc (h:Q02 w B size A n xs) (hB:B<=w.heap.size) (o:Obj):Q02 (w.alloc o) B size A n xs:=h.keep fun p hp=>World.cell?_alloc_lt w o p (by omega)
theorem Q02.cut (h:Q02 w B size A n xs) {k cap:Nat} (hk:k<=n) (hc:n<=cap) :
 Q02 w B size (if cap=k then A else A.map (·.add (k*size))) (n - k) (xs.drop (k*size)):=by
 refine⟨by rw [List.length_drop,h.1,Nat.sub_mul],fun hn=>?_⟩;obtain⟨ad,rfl,hb,hcell⟩:=h.2 (by omega);rw [if_neg (by omega)];refine⟨ad.add (k*size),rfl,by rw [Q0a]; exact hb,fun j u hu=>?_⟩;rw [Q1E];exact hcell _ u (by rw [<- hu,List.getElem?_drop])
theorem Q02.of_own {base:Nat} {e:zF} {c:Nat} (h:w.ownsRow base e size (.slice A n c) n xs):Q02 w w.heap.size size A n xs:=by
 refine⟨h.1,fun hn=>?_⟩;obtain⟨g,cap,hv,_,hlt⟩:=h.form hn;have hA:A=some ⟨g,0,none⟩:=by injection hv
 subst hA;exact⟨_,rfl,hlt,h.cells (g:=g) rfl⟩
end
def Blk (w:zB) (g:Nat) (t:zF) (cs:Array zC):Prop:=w.heap[g]?=some (.cells cs t (0,0))
section
variable {w w':zB} {g:Nat} {t:zF} {cs:Array zC}
theorem Blk.lt (h:Blk w g t cs):g<w.heap.size:=by
 rcases zG g w.heap.size with hlt | hge
 ·exact hlt
 unfold Blk at h; rw [Array.getElem?_eq_none hge] at h; cases h
theorem Blk.cell (h:Blk w g t cs) (i:Nat):w.cell? ⟨g,i,none⟩=cs[i]?:=cell_of_row w g i cs t (0,0) h
theorem Blk.frozen (h:Blk w g t cs) (i:Nat):w.frozen? ⟨g,i,none⟩=false:=by unfold Blk at h;simp [World.frozen?,h]
theorem Blk.new (w:zB) (t:zF) (cs:Array zC):Blk (w.alloc (.cells cs t)) w.heap.size t cs:=heap_alloc_new w _
theorem Blk.newAt {w:zB} {t:zF} {cs:Array zC} {g:Nat} (hg:g=w.heap.size):Blk (w.alloc (.cells cs t)) g t cs:=by subst hg; exact heap_alloc_new w _
theorem Blk.drewN (h:Blk w g t cs) (n:Nat):Blk (w.drewN n) g t cs:=h
theorem Blk.alloc (h:Blk w g t cs) (o:Obj):Blk (w.alloc o) g t cs:=(Below.heap_alloc w o g h.lt).trans h
theorem Blk.set_ (h:Blk w g t cs) (i:Nat) (u:zC):Blk (w.setCell ⟨g,i,none⟩ u) g t (cs.setIfInBounds i u):=by unfold Blk at h ⊢;simp [World.setCell,Array.getElem?_modify,h]
theorem Blk.far (h:Blk w g t cs) {p:zA} (hp:g≠p.block) (u:zC):Blk (w.setCell p u) g t cs:=(Below.heap_setCell w p u g hp).trans h
theorem Blk.below {B:Nat} (h:Blk w g t cs) (hb:zE B w w') (hg:g<B):Blk w' g t cs:=(hb.block g hg).trans h
theorem Blk.grown {row:Option Nat} (h:Blk w g t cs) (hb:w.grownBy w' row) (hg:some g≠row):Blk w' g t cs:=(hb.block g h.lt hg).trans h
end
section
variable {P:zI} (w:zB)
theorem Q1D (base:Nat) (t ty e:zF) (i:TypeInfo) (size:Nat) (ht:P.underlying t=some (.slice e)) (hi:P.info? e=some i)
 (v:zC) (n:Nat) (xs:List zC) (hown:w.ownsRow base e size v n xs) (c:Nat):(Builtin.append_ #[t,t] ty #[v,.slice none 0 c]).run P w=.ok v w:=by
 rcases hown.2 with⟨rfl,rfl⟩ | ⟨g,cap,cur,rfl,_,_,hnc,_⟩
 ·simp [Builtin.append_,run_underlying ht,sizeOf,typeInfo,hi,Builtin.lenOf,Builtin.firstCells]
 simp [Builtin.append_,run_underlying ht,sizeOf,typeInfo,hi,Builtin.lenOf,Builtin.firstCells,hnc,storeCells]
theorem Q2f (base:Nat) (t ty e:zF) (i:TypeInfo) (z:zC) (size bytes:Nat) (ht:P.underlying t=some (.slice e)) (hi:P.info? e=some i) (hz:i.zero=some z)
 (hsize:i.size=size) (hby:i.bytes=bytes) (hzs:z.cells.size=size) (hsz:0<size)
 (v:zC) (n:Nat) (xs:List zC) (hown:w.ownsRow base e size v n xs)
 (B:Nat) (A:Option zA) (m c:Nat) (news:List zC) (hr:Q02 w B size A m news) (h1:∀ u∈news,u.oneCell'=true)
 (h63:n+m<=maxLen) (hbytes:(n+m)*bytes<=140737488355328) (hbase:base<=w.heap.size) :
 ∃ v' w',(Builtin.append_ #[t,t] ty #[v,.slice A m c]).run P w=.ok v' w'/\w'.ownsRow base e size v' (n+m) (xs++news)/\w.grownBy w' v.ownBlock /\
  (v'.ownBlock=v.ownBlock\/v'.ownBlock=some w.heap.size):=by
 rcases A with _ | ad
 ·have hm:m=0:=by
   rcases zJ m with h0 | h0
   ·exact h0
   obtain⟨ad,h,_⟩:=hr.2 h0;cases h
  subst hm;have hn:news=[]:=zK (by simpa using hr.1);subst hn;exact⟨v,w,Q1D w base t ty e i size ht hi v n xs hown c,by simpa using hown,World.grownBy.refl w _,.inl rfl⟩
 have hcells:∀ j u,news[j]?=some u->w.cell? (ad.add j)=some u:=by
  intro j u hu;rcases zJ m with h0 | h0
  ·subst h0;have hn:news=[]:=zK (by simpa using hr.1);subst hn;simp at hu
  obtain⟨ad',h,_,hc⟩:=hr.2 h0;injection h with h
  subst h;exact hc j u hu
 obtain⟨v',w',hrun,h2,h3,_,h5⟩:=run_append_own_at (P:=P) w base t ty e i z size bytes ht hi hz hsize hby hzs hsz v n xs hown ad m c news hr.1 hcells h1 h63 hbytes hbase;exact⟨v',w',hrun,h2,h3,h5⟩
theorem Q1m {o:zL} {a:zM} {K:zM->zB->Prop} {Q:Exit->zM->zB->Prop} (s x:Operand) (t:zF)
 (ho:o.op=.call { callee:=.builtin .append,args:=#[s,x],argTypes:=#[t,t] })
 (base:Nat) (e:zF) (i:TypeInfo) (z:zC) (size bytes:Nat) (ht:P.underlying t=some (.slice e)) (hi:P.info? e=some i) (hz:i.zero=some z)
 (hsize:i.size=size) (hby:i.bytes=bytes) (hzs:z.cells.size=size) (hsz:0<size)
 (v:zC) (n:Nat) (xs:List zC) (hs:a.eval s=v) (hown:w.ownsRow base e size v n xs)
 (B:Nat) (A:Option zA) (m c:Nat) (news:List zC) (hx:a.eval x=.slice A m c) (hr:Q02 w B size A m news) (h1:∀ u∈news,u.oneCell'=true)
 (h63:n+m<=maxLen) (hbytes:(n+m)*bytes<=140737488355328) (hbase:base<=w.heap.size)
 (h:∀ v' w',w'.ownsRow base e size v' (n+m) (xs++news)->w.grownBy w' v.ownBlock->(v'.ownBlock=v.ownBlock\/v'.ownBlock=some w.heap.size)->K (a.put o.dst v') w'):o.wp P a w K Q:=by
 obtain⟨v',w',hrun,h2,h3,h4⟩:=Q2f (P:=P) w base t o.type e i z size bytes ht hi hz hsize hby hzs hsz v n xs hown B A m c news hr h1 h63 hbytes hbase;unfold Oper.wp execOp;simp only [ho,resolve,invoke,builtin,zN,Sem.run_pure,zO,List.map_toArray,List.map_cons,List.map_nil,hs,hx,hrun];exact h v' w' h2 h3 h4
theorem Q0b {ops:Array zL} {rest:List zL} {o:zL} {a:zM} {Q:Exit->zM->zB->Prop} (hgd:o.guard=none) (s x:Operand) (t:zF)
 (ho:o.op=.call { callee:=.builtin .append,args:=#[s,x],argTypes:=#[t,t] })
 (base:Nat) (e:zF) (i:TypeInfo) (z:zC) (size bytes:Nat) (ht:P.underlying t=some (.slice e)) (hi:P.info? e=some i) (hz:i.zero=some z)
 (hsize:i.size=size) (hby:i.bytes=bytes) (hzs:z.cells.size=size) (hsz:0<size)
 (v:zC) (n:Nat) (xs:List zC) (hs:a.eval s=v) (hown:w.ownsRow base e size v n xs)
 (B:Nat) (A:Option zA) (m c:Nat) (news:List zC) (hx:a.eval x=.slice A m c) (hr:Q02 w B size A m news) (h1:∀ u∈news,u.oneCell'=true)
 (h63:n+m<=maxLen) (hbytes:(n+m)*bytes<=140737488355328) (hbase:base<=w.heap.size)
 (h:∀ v' w',w'.ownsRow base e size v' (n+m) (xs++news)->w.grownBy w' v.ownBlock->(v'.ownBlock=v.ownBlock\/v'.ownBlock=some w.heap.size)->wpList P ops Q rest (a.put o.dst v') w'):wpList P ops Q (o :: rest) a w :=
 wpList_plain hgd fun _ hK=>Q1m w s x t ho base e i z size bytes ht hi hz hsize hby hzs hsz v n xs hs hown B A m c news hx hr h1 h63 hbytes hbase fun v' w' h2 h3 h4=>hK _ _ (h v' w' h2 h3 h4)
theorem Q14 {ops:Array zL} {o:zL} {a:zM} {K:zM->zB->Prop} {Q:Exit->zM->zB->Prop} {E:Prop} (hgd:o.guard=none) (s x:Operand) (t:zF)
 (ho:o.op=.call { callee:=.builtin .append,args:=#[s,x],argTypes:=#[t,t] })
 (base:Nat) (e:zF) (i:TypeInfo) (z:zC) (size bytes:Nat) (ht:P.underlying t=some (.slice e)) (hi:P.info? e=some i) (hz:i.zero=some z)
 (hsize:i.size=size) (hby:i.bytes=bytes) (hzs:z.cells.size=size) (hsz:0<size)
 (v:zC) (n:Nat) (xs:List zC) (hs:a.eval s=v) (hown:w.ownsRow base e size v n xs)
 (B:Nat) (A:Option zA) (m c:Nat) (news:List zC) (hx:a.eval x=.slice A m c) (hr:Q02 w B size A m news) (h1:∀ u∈news,u.oneCell'=true)
 (h63:n+m<=maxLen) (hbytes:(n+m)*bytes<=140737488355328) (hbase:base<=w.heap.size)
 (h:∀ v' w',w'.ownsRow base e size v' (n+m) (xs++news)->w.grownBy w' v.ownBlock->(v'.ownBlock=v.ownBlock\/v'.ownBlock=some w.heap.size)->K (a.put o.dst v') w') :
 if zP o (yielded ops a.tmps)=true then Oper.wp P o a w K Q else E:=by
 have hw:zP o (yielded ops a.tmps)=true:=by simp [zP,hgd]
 rw [if_pos hw];exact Q1m w s x t ho base e i z size bytes ht hi hz hsize hby hzs hsz v n xs hs hown B A m c news hx hr h1 h63 hbytes hbase h
end
theorem Q0h {B:Nat} {a w:zB} (h:zE B a w) (n:Nat):zE B a (w.drewN n):=⟨h.os,h.tape,h.output,h.size,h.block⟩
theorem Q2G {P:zI} (t e:zF) (i:TypeInfo) (z:zC) (ht:P.underlying t=some (.slice e)) (hi:P.info? e=some i) (hz:i.zero=some z)
 (kl kc:IntKind) (n c:Nat) (hnc:n<=c) (hbytes:i.bytes*c<=281474976710656) (h63:c<=9223372036854775807) (w:zB) :
 (Instr.makeSlice t (.int kl (n:Int)) (.int kc (c:Int))).run P w=.ok (.slice (some ⟨w.heap.size,0,none⟩) n c) (w.alloc (.cells (madeCells z.cells (c*i.size)) e)):=by
 have hb:(i.bytes:Int)*(c:Int)<=281474976710656:=by
  have h:((i.bytes*c:Nat):Int)<=281474976710656:=by omega
  rwa [Int.natCast_mul] at h
 have hr:=run_make (P:=P) w t e i z ht hi hz kl kc n c (by omega) (by omega) hb (by omega);simp only [Int.toNat_natCast] at hr;exact hr
section
variable {H:Type} {enc:zF×zC->H} {P:zI}
end
end
section
open Go.RowKit
abbrev W32:=BitVec 32
def bi (b:UInt8):Int:=(b.toNat:Int)
def vb (b:UInt8):zC:=.int .u8 (bi b)
def w8 (x:W32):UInt8:=zQ x.toNat
theorem bi_inj {x y:UInt8} (h:bi x=bi y):x=y:=by unfold bi at h; exact UInt8.toNat_inj.1 (by omega)
theorem Q0n {a b:Bool} (h:a=b):Ending.returned (.bool a)=.returned (.bool b):=by rw [h]
theorem Q26 {xs:List UInt8} {k:Nat} {u:zC} (h:(xs.map vb)[k]?=some u):∃ (hk:k<xs.length),u=.int .u8 (bi xs[k]):=by
 rw [List.getElem?_map] at h;rcases zG k xs.length with hk | hk
 ·refine⟨hk,?_⟩;rw [zD hk] at h;simp only [Option.map_some,Option.some.injEq] at h;rw [<- h]; rfl
 rw [List.getElem?_eq_none hk] at h;simp at h
def rng (n:Nat) (f:Nat->zC):Array zC:=((zR n).map f).toArray
end
section
def nd (n:Nat):Nat:=if h:n=0 then 0 else nd (n / 256)+1
theorem Q3j:nd 0=0:=by unfold nd; simp
theorem nd_pos {n:Nat} (h:n≠0):nd n=nd (n / 256)+1:=by rw [nd]; simp [h]
theorem Q3B (n:Nat):∀ j,(0<n / 256 ^ j <-> j<nd n):=by
 induction n using Nat.strongRecOn with
 | _ n ih =>
  intro j;by_cases h:n=0
  ·subst h; simp [Q3j]
  rw [nd_pos h];cases j with
  | zero=>simp; omega
  | succ j =>rw [Nat.pow_succ,Nat.mul_comm,<- Nat.div_div_eq_div_mul,ih (n / 256) (by omega) j];omega
theorem nd_le {n k:Nat} (h:n<256 ^ k):nd n<=k:=by
 rcases zG k (nd n) with h1 | h1
 ·have:=(Q3B n k).2 h1;rw [Nat.div_eq_of_lt h] at this;omega
 exact h1
def dig (n k i:Nat):UInt8:=zQ (n / 256 ^ (k - 1 - i) % 256)
def digs (n k:Nat):List UInt8:=(zR k).map (dig n k)
theorem Q1a (n k:Nat):(digs n k).length=k:=by simp [digs]
theorem Q2O (n k:Nat):digs n (k+1)=digs (n / 256) k++[zQ (n % 256)]:=by
 unfold digs;rw [List.range_succ,zV];congr 1
 ·apply List.map_congr_left
  intro i hi;have hi:=List.mem_range.1 hi;unfold dig;rw [show k+1 - 1 - i=(k - 1 - i)+1 by omega,Nat.pow_succ,Nat.mul_comm,<- Nat.div_div_eq_div_mul]
 simp [dig]
def numB (n:Nat):List UInt8:=zQ (nd n) :: digs n (nd n)
def valB (l:List UInt8):Nat:=l.foldl (fun a b=>a*256+b.toNat) 0
theorem Q15 (l:List UInt8) (b:UInt8):valB (l++[b])=valB l*256+b.toNat:=by simp [valB,List.foldl_append]
theorem Q1B (l:List UInt8) (k:Nat) (h:l.length=k+1):l=l.take k++[l[k]'(by omega)]:=by rw [List.take_append_getElem (by omega),<- h,List.take_length]
theorem Q3h (k:Nat):∀ l:List UInt8,l.length=k->valB l<256 ^ k:=by
 induction k with
 | zero=>intro l h; rw [zK h]; decide
 | succ k ih =>intro l h;rw [Q1B l k h,Q15,Nat.pow_succ];have h1:=ih (l.take k) (by simp; omega);have h2:=(l[k]'(by omega)).toNat_lt;omega
theorem Q3U (k:Nat):∀ n,valB (digs n k)=n % 256 ^ k:=by
 induction k with
 | zero=>intro n; simp [digs,valB,Nat.mod_one]
 | succ k ih =>
  intro n;have e:256 ^ (k+1)=256*256 ^ k:=by rw [Nat.pow_succ,Nat.mul_comm]
  rw [Q2O,Q15,ih,UInt8.toNat_ofNat',e,Nat.mod_mul];generalize n / 256 % 256 ^ k=y;omega
theorem lt_nd (n:Nat):n<256 ^ nd n:=by
 have h:=Q3B n (nd n);rcases zG n (256 ^ nd n) with h1 | h1
 ·exact h1
 have:0<n / 256 ^ nd n:=Nat.div_pos h1 (Nat.pow_pos (by omega));exact absurd (h.1 this) (by omega)
theorem Q43 (n:Nat):valB (digs n (nd n))=n:=by rw [Q3U,Nat.mod_eq_of_lt (lt_nd n)]
theorem Q3T (n k:Nat) (h:0<k):(digs n k).head?=some (zQ (n / 256 ^ (k - 1) % 256)):=by
 unfold digs;cases k with
 | zero=>omega
 | succ k=>simp [List.range_succ_eq_map,dig]
theorem Q3Z (n:Nat) (h:0<nd n):(digs n (nd n)).head?≠some 0:=by
 rw [Q3T n _ h];intro he;injection he with he
 have h1:=(Q3B n (nd n - 1)).2 (by omega);have h2:=lt_nd n;have h3:n / 256 ^ (nd n - 1)<256:=by
  have e:256 ^ nd n=256 ^ (nd n - 1)*256:=by rw [<- Nat.pow_succ]; congr 1; omega
  rw [Nat.div_lt_iff_lt_mul (Nat.pow_pos (by omega)),Nat.mul_comm,<- e];exact h2
 have h4:=congrArg UInt8.toNat he;rw [UInt8.toNat_ofNat',Nat.mod_eq_of_lt h3,Nat.mod_eq_of_lt (by omega)] at h4;have h5:(0:UInt8).toNat=0:=rfl;omega
theorem Q3M (k:Nat):∀ l:List UInt8,l.length=k->digs (valB l) k=l:=by
 induction k with
 | zero=>intro l h; rw [zK h]; rfl
 | succ k ih =>
  intro l h;have hl:=Q1B l k h;have hb:=(l[k]'(by omega)).toNat_lt;have hv:valB l=valB (l.take k)*256+(l[k]'(by omega)).toNat:=by rw [<- Q15,<- hl]
  rw [Q2O,hv,show (valB (l.take k)*256+(l[k]'(by omega)).toNat) / 256=valB (l.take k) by omega,show (valB (l.take k)*256+(l[k]'(by omega)).toNat) % 256=(l[k]'(by omega)).toNat by omega,ih _ (by simp; omega)];rw [UInt8.ofNat_toNat];exact hl.symm
theorem valB_ge (l:List UInt8) (k:Nat) (h:l.length=k+1) (h0:l.head?≠some 0):256 ^ k<=valB l:=by
 induction k generalizing l with
 | zero =>
  match l,h with
  | [b],_ =>
   have:b.toNat≠0:=fun e=>h0 (by simp; exact UInt8.toNat_inj.1 e)
   simp [valB]; omega
 | succ k ih =>
  have hl:=Q1B l (k+1) h;have hv:valB l=valB (l.take (k+1))*256+(l[k+1]'(by omega)).toNat:=by rw [<- Q15,<- hl]
  have h1:=ih (l.take (k+1)) (by simp; omega) (by rw [List.head?_take]; simpa using h0);rw [hv,Nat.pow_succ];omega
theorem nd_back (l:List UInt8) (h0:0<l.length->l.head?≠some 0):nd (valB l)=l.length:=by
 have h1:nd (valB l)<=l.length:=nd_le (Q3h _ l rfl);cases hk:l.length with
 | zero=>omega
 | succ k =>have h2:=valB_ge l k hk (h0 (by omega));have h3:0<valB l / 256 ^ k:=Nat.div_pos h2 (Nat.pow_pos (by omega));have:=(Q3B (valB l) k).1 h3;omega
theorem Q3S (m:UInt8) (l:List UInt8) (hm:m.toNat=l.length) (h0:0<l.length->l.head?≠some 0):numB (valB l)=m :: l:=by unfold numB;rw [nd_back l h0,Q3M _ l rfl,<- hm,UInt8.ofNat_toNat]
def maxN:Nat:=9007199254740991
theorem Q3q {n:Nat} (h:n<=maxN):nd n<=7:=nd_le (by unfold maxN at h; omega)
def Q1h (b:List UInt8):Except Nat (Nat×List UInt8) :=
 match b with
 | []=>.error 3
 | m :: r =>
  if 7<m.toNat then .error 4
  else if r.length<m.toNat then .error 3
  else if 0<m.toNat/\r.head?=some 0 then .error 4
  else if maxN<valB (r.take m.toNat) then .error 9
  else .ok (valB (r.take m.toNat),r.drop m.toNat)
theorem Q3W {n:Nat} (h:n<=maxN):(zQ (nd n)).toNat=nd n:=by have:=Q3q h;rw [UInt8.toNat_ofNat',Nat.mod_eq_of_lt (by omega)]
theorem Q34 {n:Nat} (h:n<=maxN) (r:List UInt8):Q1h (numB n++r)=.ok (n,r):=by
 have h7:=Q3q h;unfold Q1h numB;simp only [List.cons_append,Q3W h];rw [if_neg (by omega),if_neg (by simp [Q1a]),if_neg,List.take_left' (Q1a _ _),List.drop_left' (Q1a _ _),Q43,if_neg (by omega)];rintro ⟨h1,h2⟩;refine Q3Z n h1 ?_;cases hd:digs n (nd n) with
 | nil=>have:=Q1a n (nd n); rw [hd] at this; simp at this; omega
 | cons a t=>rw [hd] at h2; simpa using h2
theorem Q2v {b r:List UInt8} {n:Nat} (h:Q1h b=.ok (n,r)):b=numB n++r/\n<=maxN:=by
 unfold Q1h at h;match b,h with
 | m :: t,h =>
  simp only at h;split at h
  ·cases h
  split at h
  ·cases h
  split at h
  ·cases h
  rename_i h1 h2 h3;split at h
  ·cases h
  rename_i h4;injection h with h
  injection h with h5 h6
  subst h5 h6;refine⟨?_,by omega⟩;have hl:(t.take m.toNat).length=m.toNat:=by simp; omega
  rw [Q3S m (t.take m.toNat) hl.symm (fun hp=>by rw [List.head?_take,if_neg (by omega)];exact fun e=>h3 ⟨by omega,e⟩),List.cons_append,List.take_append_drop]
theorem Q0E {n:Nat} (h:n<=maxN):1<=(numB n).length/\(numB n).length<=8:=by have:=Q3q h;unfold numB;simp [Q1a];omega
def takeF (b:List UInt8) (n:Nat):Except Nat (List UInt8×List UInt8):=if b.length<n then .error 3 else .ok (b.take n,b.drop n)
def takeS (b:List UInt8) (most:Nat):Except Nat (List UInt8×List UInt8) :=
 match Q1h b with
 | .error e=>.error e
 | .ok (n,r)=>if min most 65536<n then .error 5 else takeF r n
def strB (s:List UInt8):List UInt8:=numB s.length++s
theorem Q3V {s:List UInt8} {most:Nat} (h:s.length<=min most 65536) (r:List UInt8):takeS (strB s++r) most=.ok (s,r):=by unfold takeS strB;rw [List.append_assoc,Q34 (by unfold maxN; omega)];simp only;rw [if_neg (by omega)];unfold takeF;rw [if_neg (by simp),List.take_left,List.drop_left]
end
section
open Go.RowKit
theorem Q1j:(Try.prog.info? 5).map (fun i=>(i.zero,i.size,i.bytes))=some (some (.int .u8 0),1,1):=by kernel_rfl
def OwnB (w:zB) (base:Nat) (v:zC) (xs:List UInt8):Prop:=w.ownsRow base 5 1 v xs.length (xs.map vb)
theorem Q05 {w:zB} {B:Nat} {v:zC} {xs:List UInt8} (h:OwnB w B v xs):∃ A c,v=.slice A xs.length c/\xs.length<=c/\c<=maxLen/\Q02 w w.heap.size 1 A xs.length (xs.map vb)/\(∀ ad,A=some ad->B<=ad.block):=by
 have hr:=fun A c (hv:v=.slice A xs.length c)=>Q02.of_own (A:=A) (c:=c) (by rw [<- hv]; exact h)
 rcases h.2 with⟨rfl,h0⟩ | ⟨g,cap,cur,rfl,hg,_,h1,h2,_⟩
 ·exact⟨none,0,by rw [h0],by omega,by unfold maxLen; omega,hr none 0 (by rw [h0]),fun _ h=>by cases h⟩
 exact⟨_,cap,rfl,h1,h2,hr _ _ rfl,fun ad h=>by injection h with h; subst h; exact hg⟩
theorem OwnB.reads {w:zB} {B:Nat} {A:Option zA} {n c:Nat} {xs:List UInt8} (h:OwnB w B (.slice A n c) xs):n=xs.length/\n<=c/\c<=maxLen/\Q02 w w.heap.size 1 A n (xs.map vb)/\(∀ ad,A=some ad->B<=ad.block):=by
 obtain⟨A',c',e,h1,h2,h3,h4⟩:=Q05 h;injection e with e1 e2 e3
 subst e1 e2 e3;exact⟨rfl,h1,h2,h3,h4⟩
theorem OwnB.nil (w:zB) (B:Nat):OwnB w B (.slice none 0 0) []:=⟨by simp,.inl ⟨rfl,by simp⟩⟩
theorem OwnB.ge {w:zB} {B b:Nat} {v:zC} {xs:List UInt8} (h:OwnB w B v xs) (hb:v.ownBlock=some b):B<=b:=by
 rcases h.2 with⟨rfl,_⟩ | ⟨g,cap,cur,rfl,hg,_⟩
 ·simp [zH] at hb
 simp [zH] at hb; omega
theorem OwnB.lt {w:zB} {B b:Nat} {v:zC} {xs:List UInt8} (h:OwnB w B v xs) (hb:v.ownBlock=some b):b<w.heap.size:=by
 rcases h.2 with⟨rfl,_⟩ | ⟨g,cap,cur,rfl,hg,hh,_⟩
 ·simp [zH] at hb
 simp [zH] at hb; subst hb;rcases zG g w.heap.size with h | h
 ·exact h
 rw [Array.getElem?_eq_none h] at hh; cases hh
theorem OwnB.keep {w w':zB} {B:Nat} {v:zC} {xs:List UInt8} (h:OwnB w B v xs) (hk:∀ b,v.ownBlock=some b->w'.heap[b]?=w.heap[b]?):OwnB w' B v xs:=by
 refine⟨h.1,?_⟩;rcases h.2 with h0 | ⟨g,cap,cur,rfl,hg,hh,h1⟩
 ·exact .inl h0
 exact .inr ⟨g,cap,cur,rfl,hg,(hk g rfl).trans hh,h1⟩
theorem OwnB.below {w w':zB} {B:Nat} {v:zC} {xs:List UInt8} (h:OwnB w B v xs) (hb:zE w.heap.size w w'):OwnB w' B v xs:=h.keep fun b hv=>hb.block b (h.lt hv)
theorem OwnB.more {w:zB} {B B':Nat} {v:zC} {xs:List UInt8} (h:OwnB w B v xs) (hB:B'<=B):OwnB w B' v xs:=by
 refine⟨h.1,?_⟩;rcases h.2 with h0 | ⟨g,cap,cur,rfl,hg,hh,h1⟩
 ·exact .inl h0
 exact .inr ⟨g,cap,cur,rfl,by omega,hh,h1⟩
theorem Q0y {B:Nat} {w0 w w':zB} {row:Option Nat} (hb:zE B w0 w) (hB:B<=w.heap.size) (hg:w.grownBy w' row) (hr:∀ b,row=some b->B<=b):zE B w0 w' :=hb.trans ((zU B w).grown hg hB hr)
theorem Q2K (A:Option zA) (n c:Nat) (xs:List UInt8) (w:zB) (B:Nat) (h:Q02 w B 1 A n (xs.map vb)) (hB:B<=w.heap.size) (hn:n<=140737488355328) :
 Calls Try.prog 16 #[.slice A n c] w fun e w'=>∃ v,e=.returned v/\OwnB w' w.heap.size v xs/\zE w.heap.size w w':=by
 have hxn:xs.length=n:=by have:=h.1; simpa using this
 have HXN:=sH hxn;clear hxn;go_enter Try.func16,Try.ntmps16
 obtain⟨i0,hi0,hz0,hz1,hz2⟩:=info_parts Q1j;go_wp2_with (at_builtin; go_must (refine Q0b _ rfl (.tmp 4) (.tmp 5) 22 rfl w.heap.size 5 i0 _ 1 1 Try.underlying22 hi0 hz0 hz1 hz2 rfl (by omega) (.slice none 0 0) 0 [] rfl ⟨by simp,.inl ⟨rfl,rfl⟩⟩ B A n c (xs.map vb) rfl h ?c1 ?c2 ?c3 ?c4 ?_))
 case c1=>intro u hu; obtain⟨x,_,rfl⟩:=List.mem_map.1 hu; rfl
 case c2=>unfold maxLen; omega
 case c3=>omega
 case c4=>omega
 intro v1 w1 hown1 hg1 hor
 go_wp2
 go_ret
 refine⟨v1,rfl,?_,(zU _ _).grown hg1 (zS _) (fun b hb=>by simp [zH] at hb)⟩;unfold OwnB;rw [HXN.out];simpa using hown1
theorem Q1e (w:zB) (x:zC) (t:zF):Q02 (w.alloc (.cells #[x] t)) (w.heap.size+1) 1 (some ⟨w.heap.size,0,none⟩) 1 [x] :=⟨rfl,fun _=>⟨_,rfl,Nat.lt_succ_self _,cell_one_new w x t⟩⟩
theorem Q3d (n j:Nat):(n:Int) / 2 ^ (8*j)=((n / 256 ^ j:Nat):Int):=by
 rw [Nat.pow_mul 2 8 j |> fun h=>(show (2:Int) ^ (8*j)=((2 ^ (8*j):Nat):Int) by simp)];rw [Nat.pow_mul]
 simp
theorem Q2t (n:Nat) (hn:n<=maxN) (w:zB) :
 Calls Try.prog 35 #[.int .i64 (n:Int)] w fun e w'=>∃ v,e=.returned (.tuple #[v,.int .i64 0])/\OwnB w' w.heap.size v (numB n)/\zE w.heap.size w w':=by
 have h7:=Q3q hn;unfold maxN at hn;obtain⟨i0,hi0,hz0,hz1,hz2⟩:=info_parts Q1j;go_enter Try.func35,Try.ntmps35
 go_wp2_with fail
 go_loopw [4] (fun mv wr=>∃ j:Nat,j<=nd n/\mv=.int .i64 j/\w=wr) (fun mv _=>8 - (intOf mv).toNat)
 case atStart=>exact⟨0,by omega,rfl,rfl⟩
 obtain⟨j,hj,rfl,rfl⟩:=hrel;by_cases hjn:j<nd n
 ·have hsh:(0:Int)<(n:Int) / 2 ^ (8*j):=by rw [Q3d]; have:=(Q3B n j).2 hjn; omega
  go_wp2_with fail
  go_roundw
  case rel=>exact⟨j+1,by omega,by go_num,trivial⟩
  case measure=>simp [intOf]; omega
 obtain rfl:j=nd n:=by omega
 have hsh:¬ (0:Int)<(n:Int) / 2 ^ (8*nd n):=by rw [Q3d]; have:=(Q3B n (nd n)); omega
 go_wp2_with fail
 clear hsh;have hX:zE w.heap.size w (w.alloc (.cells #[.int .u8 (nd n:Int)] 5)):=(zU _ _).alloc (zS _) _;have hb0:vb (zQ (nd n))=.int .u8 (nd n:Int):=by unfold vb bi; rw [Q3W hn]
 have ho:OwnB (w.alloc (.cells #[.int .u8 (nd n:Int)] 5)) w.heap.size (.slice (some ⟨w.heap.size,0,none⟩) 1 1) ((numB n).take 1):=by rw [<- hb0];exact⟨rfl,.inr ⟨w.heap.size,1,_,rfl,zS _,heap_alloc_new w _,zS _,by unfold maxLen; omega,rfl,rfl⟩⟩
 have HO:=sH ho;have HX:=sH hX;clear ho hX hb0;go_loopw [5,24] (fun ov iv w2=>∃ (i:Nat),i<=nd n/\iv=.int .i64 i/\OwnB w2 w.heap.size ov ((numB n).take (i+1))/\zE w.heap.size w w2) (fun _ iv _=>nd n - (intOf iv).toNat)
 case atStart=>exact⟨0,by omega,rfl,HO.out,HX.out⟩
 obtain⟨i,hi,rfl,hov,hbel⟩:=hrel;have hown:=hov;unfold OwnB at hown;have HOV:=sH hov;have HWN:=sH hown;have HB:=sH hbel;have hsz:=hbel.size;clear hov hown hbel;have hlen:(numB n).length=nd n+1:=by simp [numB,Q1a]
 by_cases hin:i<nd n
 ·have hd:vb (dig n (nd n) i)=.int .u8 ((n:Int) / 2 ^ (8*(nd n - 1 - i)) % 256):=by
   rw [Q3d]; unfold vb bi dig; rw [UInt8.toNat_ofNat']; congr 1; omega
  have hnext:(numB n).take (i+1+1)=(numB n).take (i+1)++[dig n (nd n) i]:=by rw [zd (by omega)];simp [numB,digs]
  have HD:=sH hd;have HNX:=sH hnext;have hti:((numB n).take (i+1)).length=i+1:=by rw [List.length_take]; omega
  have HTI:=sH hti;clear hd hnext hlen hti;go_wp2_with (at_builtin; go_must (refine Q0b _ rfl (.tmp 27) (.tmp 36) 22 rfl w.heap.size 5 i0 _ 1 1 Try.underlying22 hi0 hz0 hz1 hz2 rfl (by omega) _ _ _ rfl (HWN.out.alloc _) (wr.heap.size+1) (some ⟨wr.heap.size,0,none⟩) 1 1 [.int .u8 ((n:Int) / 2 ^ (8*(nd n - 1 - i)) % 256)] rfl (Q1e _ _ _) (by simp [Value.oneCell']) ?c1 ?c2 ?c3 ?_))
  case c1=>have:=HTI.out; unfold maxLen; omega
  case c2=>have:=HTI.out; omega
  case c3=>simp; omega
  intro v3 w3 hown3 hg3 hor3;have hb3:=Q0y (HB.out.trans ((zU _ _).alloc (zS _) (.cells #[.int .u8 ((n:Int) / 2 ^ (8*(nd n - 1 - i)) % 256)] 5) |>.mono hsz)) (by simp; omega) hg3 (fun b hb=>HOV.out.ge hb);have HB3:=sH hb3;have HO3:=sH (show OwnB w3 w.heap.size v3 ((numB n).take (i+1+1)) by unfold OwnB;rw [HNX.out,zT,zV,List.length_singleton,List.map_singleton,HD.out];simpa [List.map_take] using hown3)
  clear hb3 hown3 hg3 hor3;go_wp2_with fail
  go_roundw
  case rel=>exact⟨i+1,by omega,by go_num,HO3.out,HB3.out⟩
  case measure=>simp [intOf]; omega
 obtain rfl:i=nd n:=by omega
 go_wp2_with fail
 go_ret2
 refine⟨_,rfl,?_,HB.out⟩;have:=HOV.out;rw [zY (by omega)] at this;exact this
end
section
open Go.RowKit Go.WideShapes Go.ChangeShapes
section
variable {H:Type} {enc:zF×zC->H} {P:zI} {w:zB} {held:Bool}
def vn (z:Int):zC:=.int .i64 z
end
end
section
open Go.RowKit
theorem Q1V (A:Option zA) (n c:Nat) (xs:List UInt8) (w:zB) (B:Nat) (h:Q02 w B 1 A n (xs.map vb)) (hB:B<=w.heap.size) (hn:n<=140737488355328) :
 Calls Try.prog 41 #[.slice A n c] w fun e w'=>∃ v,e=.returned v/\OwnB w' w.heap.size v xs/\zE w.heap.size w w':=by
 have hxn:xs.length=n:=by have:=h.1; simpa using this
 have HXN:=sH hxn;clear hxn;obtain⟨i0,hi0,hz0,hz1,hz2⟩:=info_parts Q1j;have hnil:∀ (w:zB) (a:Option zA) (n c n' c':Nat),(binOp .eql 22 (.slice a n c) (.slice none n' c')).run Try.prog w=.ok (.bool a.isNone) w:=fun w a n c n' c'=>Lib.run_eql_slice_nil w _ _ a n c n' c' Try.underlying22
 cases A with
 | none =>
  have h0:n=0:=by
   rcases zJ n with h0 | h0
   ·exact h0
   obtain⟨ad,e,_⟩:=h.2 h0; cases e
  subst h0;have hx0:xs=[]:=zK HXN.out;subst hx0;go_enter Try.func41,Try.ntmps41
  go_wp2_with fail
  go_ret
  exact⟨_,rfl,OwnB.nil _ _,zU _ _⟩
 | some ad =>
  go_enter Try.func41,Try.ntmps41
  go_wp2_with (at_builtin; go_must (refine Q0b _ rfl (.tmp 5) (.tmp 6) 22 rfl w.heap.size 5 i0 _ 1 1 Try.underlying22 hi0 hz0 hz1 hz2 rfl (by omega) (.slice (some ⟨w.heap.size,0,none⟩) 0 0) 0 [] rfl ⟨rfl,.inr ⟨w.heap.size,0,#[],rfl,zS _,heap_alloc_new w _,zS _,Nat.zero_le _,rfl,rfl⟩⟩ B (some ad) n c (xs.map vb) rfl (h.alloc hB _) ?c1 ?c2 ?c3 ?c4 ?_))
  case c1=>intro u hu; obtain⟨x,_,rfl⟩:=List.mem_map.1 hu; rfl
  case c2=>unfold maxLen; omega
  case c3=>omega
  case c4=>simp
  intro v1 w1 hown1 hg1 hor
  go_wp2
  go_ret
  refine⟨v1,rfl,?_,Q0y ((zU _ _).alloc (zS _) _) (by simp) hg1 (fun b hb=>by simp [zH] at hb; omega)⟩;unfold OwnB;rw [HXN.out];simpa using hown1
theorem OwnB.row {w:zB} {B:Nat} {v:zC} {xs:List UInt8} (h:OwnB w B v xs):w.ownsRow B 5 1 v xs.length (xs.map vb):=h
def RowsB (w:zB) (B:Nat) (A:Option zA) (n:Nat) (xss:LL):Prop :=xss.length=n/\(0<n->∃ ad,A=some ad/\ad.block<B/\∀ (k:Nat) (x:List UInt8),xss[k]?=some x->∃ Ak mk ck,w.cell? (ad.add k)=some (.slice Ak mk ck)/\Q02 w B 1 Ak mk (x.map vb))
theorem Q3t (A:Option zA) (n c:Nat) (xss:LL) (w:zB) (B:Nat) (h:RowsB w B A n xss) (hB:B<=w.heap.size) (hn:n<=1000000) (hl:xss.flatten.length<=100000000) :
 Calls Try.prog 36 #[.slice A n c] w fun e w'=>∃ v,e=.returned v/\OwnB w' w.heap.size v xss.flatten/\zE w.heap.size w w':=by
 have H:=sH h;have hxn:=h.1;have HXN:=sH hxn;clear h hxn;obtain⟨i0,hi0,hz0,hz1,hz2⟩:=info_parts Q1j;go_enter Try.func36,Try.ntmps36
 go_wp2_with fail
 go_loopw [3,8] (fun ov iv wr=>∃ i:Nat,i<=n/\iv=.int .i64 i/\OwnB wr w.heap.size ov (xss.take i).flatten/\zE w.heap.size w wr) (fun _ iv _=>n - (intOf iv).toNat)
 case atStart=>exact⟨0,by omega,rfl,OwnB.nil _ _,zU _ _⟩
 obtain⟨i,hi,rfl,hov,hbel⟩:=hrel;have HOV:=sH hov;have HB:=sH hbel;have hsz:=hbel.size;clear hov hbel;by_cases hin:i<n
 ·obtain⟨ad,hA,hadb,hcell⟩:=H.out.2 (by omega);subst hA;have hxi:i<xss.length:=by have:=HXN.out; omega
  obtain⟨Ak,mk,ck,hck,hrk⟩:=hcell i xss[i] (zD hxi);have hck':=(HB.out.cell (show (ad.add i).block<w.heap.size by rw [Q0a]; omega)).trans hck;have hrk':=hrk.below (HB.out.mono hB);have hmk:xss[i].length=mk:=by have:=hrk.1; simpa using this
  obtain⟨ys,hys⟩:∃ ys,ys=(xss.take i).flatten:=⟨_,rfl⟩;have htk:(xss.take (i+1)).flatten=(xss.take i).flatten++xss[i]:=by rw [zd hxi,List.flatten_append]; simp only [List.flatten_cons,List.flatten_nil,List.append_nil]
  have htl:(xss.take (i+1)).flatten.length<=xss.flatten.length:=by
   conv=>rhs; rw [<- List.take_append_drop (i+1) xss,List.flatten_append,zT]
   omega
  rw [htk,zT] at htl;rw [<- hys] at HOV htk htl;have HTK:=sH htk;have HYS:=sH hys;clear hys;have HWN:=sH HOV.out.row;have HRK:=sH hrk';generalize xss[i]=x at HTK HRK hmk htl;have HMK:=sH hmk;clear hcell hck hrk hrk' hmk htk;go_wp2_with (at_builtin; go_must (refine Q0b _ rfl (.tmp 12) (.tmp 13) 22 rfl w.heap.size 5 i0 _ 1 1 Try.underlying22 hi0 hz0 hz1 hz2 rfl (by omega) _ _ _ rfl HWN.out B Ak mk ck (x.map vb) rfl HRK.out ?c1 ?c2 ?c3 ?c4 ?_))
  case c1=>intro u hu; obtain⟨y,_,rfl⟩:=List.mem_map.1 hu; rfl
  case c2=>have:=HMK.out; unfold maxLen; omega
  case c3=>have:=HMK.out; omega
  case c4=>omega
  intro v3 w3 hown3 hg3 hor3;have HB3:=sH (Q0y HB.out hsz hg3 (fun b hb=>HOV.out.ge hb));have HO3:=sH (show OwnB w3 w.heap.size v3 (xss.take (i+1)).flatten by unfold OwnB;rw [HTK.out,zT,zV,HMK.out];exact hown3)
  clear hown3 hg3 hor3;go_wp2_with fail
  go_roundw
  case rel=>exact⟨i+1,by omega,by go_num,HO3.out,HB3.out⟩
  case measure=>simp [intOf]; omega
 obtain rfl:i=n:=by omega
 go_wp2_with fail
 go_ret
 refine⟨_,rfl,?_,HB.out⟩;have:=HOV.out;rw [zY (by have:=HXN.out; omega)] at this;exact this
theorem flat_le (ns:List Nat) (h:∀ x,x∈ns->x<=maxN):(ns.flatMap numB).length<=8*ns.length:=by
 induction ns with
 | nil=>simp
 | cons a t ih =>have h1:=(Q0E (h a (by simp))).2;have h2:=ih (fun x hx=>h x (by simp [hx]));rw [List.flatMap_cons,zT,zX];omega
theorem nums_any (A:Option zA) (n c:Nat) (ns:List Nat) (w:zB) (B:Nat) (h:Q02 w B 1 A n (ns.map fun x:Nat=>Value.int .i64 (x:Int))) (hB:B<=w.heap.size) (hn:n<=1000000) (hm:∀ x,x∈ns->x<=maxN) :
 Calls Try.prog 22 #[.slice A n c] w fun e w'=>∃ v,e=.returned v/\OwnB w' w.heap.size v (ns.flatMap numB)/\zE w.heap.size w w':=by
 have hxn:ns.length=n:=by have:=h.1; simpa using this
 have H:=sH h;have HXN:=sH hxn;have HM:=sH hm;clear h hxn hm;obtain⟨i0,hi0,hz0,hz1,hz2⟩:=info_parts Q1j;go_enter Try.func22,Try.ntmps22
 go_wp2_with fail
 go_loopw [3,10] (fun ov iv wr=>∃ i:Nat,i<=n/\iv=.int .i64 i/\OwnB wr w.heap.size ov ((ns.take i).flatMap numB)/\zE w.heap.size w wr) (fun _ iv _=>n - (intOf iv).toNat)
 case atStart=>exact⟨0,by omega,rfl,OwnB.nil _ _,zU _ _⟩
 obtain⟨i,hi,rfl,hov,hbel⟩:=hrel;have HOV:=sH hov;have HB:=sH hbel;have hsz:=hbel.size;clear hov hbel;by_cases hin:i<n
 ·obtain⟨ad,u,hA,hadb,hxi,hcell⟩:=H.out.at_ hin;subst hA;have hil:i<ns.length:=by have:=HXN.out; omega
  have hu:u=.int .i64 (ns[i]:Int):=by
   rw [List.getElem?_map,zD hil] at hxi;injection hxi with hxi
   exact hxi.symm
  subst hu;have hck':=(HB.out.cell (show (ad.add i).block<w.heap.size by rw [Q0a]; omega)).trans hcell;have hxm:=HM.out ns[i] (List.getElem_mem hil);obtain⟨ys,hys⟩:∃ ys,ys=(ns.take i).flatMap numB:=⟨_,rfl⟩;have htk:(ns.take (i+1)).flatMap numB=(ns.take i).flatMap numB++numB ns[i]:=by rw [zd hil,List.flatMap_append]; simp only [List.flatMap_cons,List.flatMap_nil,List.append_nil]
  have htl:=flat_le (ns.take i) (fun x hx=>HM.out x (List.mem_of_mem_take hx));rw [List.length_take] at htl;rw [<- hys] at HOV htk htl;have HTK:=sH htk;have HYS:=sH hys;clear hcell hxi htk hys;generalize ns[i]=x at HTK hck' hxm;go_wp2_with fail
  refine(Q2t x hxm wr).mono ?_;rintro _ w2 ⟨v,rfl,hov2,hb2⟩;obtain⟨Av,cv,rfl,hvc,hvm,hvr,hvB⟩:=Q05 hov2;have hx8:=Q0E hxm;have HO2:=sH (HOV.out.below hb2);have HB2:=sH (HB.out.trans (hb2.mono hsz));have hs2:=hb2.size;have HVR:=sH hvr;obtain⟨xb,hxb⟩:∃ xb,xb=numB x:=⟨_,rfl⟩;rw [<- hxb] at hx8 hvc HVR HTK ⊢;have HXB:=sH hxb;clear hov2 hb2 hvr hxb;have HWN:=sH HO2.out.row;go_wp2_with (at_builtin; go_must (refine Q0b _ rfl (.tmp 19) (.tmp 20) 22 rfl w.heap.size 5 i0 _ 1 1 Try.underlying22 hi0 hz0 hz1 hz2 rfl (by omega) _ _ _ rfl HWN.out w2.heap.size Av xb.length cv (xb.map vb) rfl HVR.out ?c1 ?c2 ?c3 ?c4 ?_))
  case c1=>intro u hu; obtain⟨y,_,rfl⟩:=List.mem_map.1 hu; rfl
  case c2=>unfold maxLen; omega
  case c3=>omega
  case c4=>omega
  intro v3 w3 hown3 hg3 hor3;have HB3:=sH (Q0y HB2.out (by omega) hg3 (fun b hb=>HO2.out.ge hb));have HO3:=sH (show OwnB w3 w.heap.size v3 ((ns.take (i+1)).flatMap numB) by unfold OwnB;rw [HTK.out,zT,zV];exact hown3)
  clear hown3 hg3 hor3;go_wp2_with fail
  go_roundw
  case rel=>exact⟨i+1,by omega,by go_num,HO3.out,HB3.out⟩
  case measure=>simp [intOf]; omega
 obtain rfl:i=n:=by omega
 go_wp2_with fail
 go_ret
 refine⟨_,rfl,?_,HB.out⟩;have:=HOV.out;rw [zY (by have:=HXN.out; omega)] at this;exact this
theorem Q48 {w:zB} {t:zF} {A A':Option zA} {n n' c c':Nat} {xs ys:List UInt8} (h:Q02 w w.heap.size 1 A n (xs.map vb)) (h':Q02 w w.heap.size 1 A' n' (ys.map vb)) :
 RowsB (w.alloc (.cells #[.slice A n c,.slice A' n' c'] t)) (w.heap.size+1) (some ⟨w.heap.size,0,none⟩) 2 [xs,ys]:=by
 have hb:zE w.heap.size w (w.alloc (.cells #[.slice A n c,.slice A' n' c'] t)):=(zU _ _).alloc (zS _) _;have hk:Blk (w.alloc (.cells #[.slice A n c,.slice A' n' c'] t)) w.heap.size t #[.slice A n c,.slice A' n' c']:=Blk.newAt rfl;refine⟨rfl,fun _=>⟨_,rfl,Nat.lt_succ_self _,fun k x hx=>?_⟩⟩;match k,hx with
 | 0,hx=>simp at hx; subst hx; exact⟨_,_,_,(hk.cell 0).trans rfl,(h.below hb).more (by omega)⟩
 | 1,hx=>simp at hx; subst hx; exact⟨A',n',c',(by rw [show ((⟨w.heap.size,0,none⟩:zA).add 1)=⟨w.heap.size,1,none⟩ from rfl]; exact(hk.cell 1).trans rfl),(h'.below hb).more (by omega)⟩
theorem Q46 (A:Option zA) (n c:Nat) (xs:List UInt8) (w:zB) (B:Nat) (h:Q02 w B 1 A n (xs.map vb)) (hB:B<=w.heap.size) (hn:n<=65536) :
 Calls Try.prog 24 #[.slice A n c] w fun e w'=>∃ v,e=.returned (.tuple #[v,.int .i64 0])/\OwnB w' w.heap.size v (strB xs)/\zE w.heap.size w w':=by
 have hxn:xs.length=n:=by have:=h.1; simpa using this
 have H:=sH h;have HXN:=sH hxn;clear h hxn;go_enter Try.func24,Try.ntmps24
 go_wp2_with fail
 refine(Q2t n (by unfold maxN; omega) w).mono ?_;rintro _ w2 ⟨v,rfl,hov2,hb2⟩;obtain⟨Av,cv,rfl,hvc,hvm,hvr,hvB⟩:=Q05 hov2;have hx8:=Q0E (show n<=maxN by unfold maxN; omega);have hs2:=hb2.size;have hrow:=Q48 (t:=22) (c:=cv) (c':=c) hvr ((H.out.below (hb2.mono hB)).more (by omega));have HROW:=sH hrow;have HB2:=sH hb2;obtain⟨xb,hxb⟩:∃ xb,xb=numB n:=⟨_,rfl⟩;rw [<- hxb] at hx8 HROW ⊢;have HXB:=sH hxb;clear hov2 hb2 hvr hxb hrow hvc;go_wp2_with fail
 refine(Q3t _ 2 2 _ _ _ HROW.out (by simp) (by omega) (by simp; have:=HXN.out; omega)).mono ?_;rintro _ w3 ⟨v3,rfl,ho3,hb3⟩;have HB3:=sH ((HB2.out.trans (((zU _ w2).alloc (zS _) _).mono hs2)).trans (hb3.mono (by simp; omega)));have HO3:=sH ho3;clear ho3 hb3;go_wp2_with fail
 go_ret2
 refine⟨_,rfl,?_,HB3.out⟩;have:=HO3.out.more (B':=w.heap.size) (by simp; omega);unfold strB;rw [HXN.out,<- HXB.out];simpa using this
structure Q0x (g:Nat) (w w':zB):Prop where
 os:w'.os=w.os
 tape:w'.tape=w.tape
 output:w'.output=w.output
 size:w'.heap.size=w.heap.size
 block:∀ k,k≠g->w'.heap[k]?=w.heap[k]?
theorem Q0x.setRow (w:zB) (g:Nat) (cs:Array zC):Q0x g w (w.setRow g cs) :=⟨rfl,rfl,rfl,by simp [World.setRow],fun k hk=>by simp only [World.setRow,Array.getElem?_modify]; rw [if_neg (fun h=>hk h.symm)]⟩
theorem Q0x.setCell (w:zB) (p:zA) (u:zC):Q0x p.block w (w.setCell p u) :=⟨rfl,rfl,rfl,by simp [World.setCell],fun k hk=>Below.heap_setCell w p u k hk⟩
theorem Q0x.blk {g k:Nat} {w w':zB} {t:zF} {cs:Array zC} (h:Q0x g w w') (hb:Blk w k t cs) (hk:k≠g):Blk w' k t cs:=(h.block k hk).trans hb
theorem Q0x.below {B g:Nat} {a w w':zB} (h:Q0x g w w') (hb:zE B a w) (hg:B<=g):zE B a w' :=hb.trans ⟨h.os,h.tape,h.output,by rw [h.size]; exact zS _,fun k hk=>h.block k (by omega)⟩
theorem Q0x.cell {g:Nat} {w w':zB} (h:Q0x g w w') {p:zA} (hp:p.block≠g):w'.cell? p=w.cell? p:=World.cell?_of_block (h.block p.block hp)
def spl (cur:Array zC) (o:Nat) (vs:List zC):Array zC:=(cur.toList.take o++vs++cur.toList.drop (o+vs.length)).toArray
theorem Q0d (cs vs:Array zC) (h:vs.size=cs.size):spl cs 0 vs.toList=vs:=by unfold spl;rw [List.take_zero,List.nil_append,zW,List.drop_eq_nil_of_le (by simp; omega),List.append_nil]
section
variable {P:zI}
theorem Q2C (g o j:Nat):(⟨g,o,none⟩:zA).add j=⟨g,o+j,none⟩:=by unfold Addr.add; split <;> simp_all
theorem Q0N {t e:zF} (ht:P.underlying t=some (.slice e)) (hs:(P.info? e).map (·.size)=some 1) (A:Option zA) (len cap l:Nat) (li:Int) (el:li=l) (hl:l<=len) (W:zB) :
 (Instr.slice t (.slice A len cap) (some (.int .i64 li)) none none).run P W=.ok (.slice (if cap=l then A else A.map (·.add l)) (len - l) (cap - l)) W:=by
 subst el;obtain⟨i,hi,hsz⟩:∃ i,P.info? e=some i/\i.size=1:=by
  cases hh:P.info? e with
  | none=>rw [hh] at hs; cases hs
  | some i=>rw [hh] at hs; exact⟨i,rfl,by simpa using hs⟩
 have he:P.elem t=e:=by simp [Program.elem,ht]
 rw [run_slice_l W t A len cap (by rw [he]; exact ht) .i64 (l:Int) (by omega) (by omega)];simp [he,sizeOf,typeInfo,hi,hsz,sliced]
theorem Q0p (w:zB) (g o n:Nat) (t ty:zF) (cs vs:Array zC) (d:TypeDesc) (hB:Blk w g t cs)
 (hu:P.underlying ty=some d) (hd:(match d with | .struct _ | .array _ _=>true | _=>false)=true) (hi:(P.info? ty).map (·.size)=some n)
 (hn:vs.size=n) (hv:∀ j,j<n->cs[o+j]?=vs[j]?) :
 (loadVar ty ⟨g,o,none⟩).run P w=.ok (.agg vs) w:=by
 have hl:(loadCells ⟨g,o,none⟩ vs.toList.length).run P w=.ok vs.toList.toArray w :=
  run_loadCells_list (P:=P) w ⟨g,o,none⟩ vs.toList (fun j v hj=>by
   have hjn:j<n:=by
    rcases zG j vs.toList.length with h | h
    ·simpa [hn] using h
    rw [List.getElem?_eq_none h] at hj; cases hj
   rw [Q2C,hB.cell,hv j hjn];simpa using hj)
 cases hq:P.info? ty with
 | none=>simp [hq] at hi
 | some i =>
  have hs:i.size=n:=by simpa [hq] using hi
  have hagg:(isAgg ty).run P w=.ok true w:=by unfold isAgg;rw [zN,run_underlying hu w];cases d <;> simp_all
  simp only [Array.length_toList,Array.toArray_toList,hn] at hl;simp [loadVar,zN,hagg,sizeOf,typeInfo,hq,hs,hl]
theorem Q0J {o:zL} {a:zM} {w:zB} {K:zM->zB->Prop} {Q:Exit->zM->zB->Prop} (ty:zF) (x:Operand) (ho:o.op=.load ty x)
 (g off n:Nat) (hx:a.eval x=.pointer (some ⟨g,off,none⟩)) (t:zF) (cs vs:Array zC) (d:TypeDesc) (hB:Blk w g t cs)
 (hu:P.underlying ty=some d) (hd:(match d with | .struct _ | .array _ _=>true | _=>false)=true) (hi:(P.info? ty).map (·.size)=some n)
 (hn:vs.size=n) (hv:∀ j,j<n->cs[off+j]?=vs[j]?)
 (h:K (a.put o.dst (.agg vs)) w):o.wp P a w K Q:=by
 unfold Oper.wp execOp;simp only [ho,hx,Instr.loadAt,Instr.sureAddr,zN,Sem.run_pure,zO,Q0p w g off n t ty cs vs d hB hu hd hi hn hv];exact h
theorem Q03 {ops:Array zL} {rest:List zL} {o:zL} {a:zM} {w:zB} {Q:Exit->zM->zB->Prop} (hgd:o.guard=none) (ty:zF) (x:Operand) (ho:o.op=.load ty x)
 (g off n:Nat) (hx:a.eval x=.pointer (some ⟨g,off,none⟩)) (t:zF) (cs vs:Array zC) (d:TypeDesc) (hB:Blk w g t cs)
 (hu:P.underlying ty=some d) (hd:(match d with | .struct _ | .array _ _=>true | _=>false)=true) (hi:(P.info? ty).map (·.size)=some n)
 (hn:vs.size=n) (hv:∀ j,j<n->cs[off+j]?=vs[j]?)
 (h:wpList P ops Q rest (a.put o.dst (.agg vs)) w):wpList P ops Q (o :: rest) a w :=
 wpList_plain hgd fun _ hK=>Q0J ty x ho g off n hx t cs vs d hB hu hd hi hn hv (hK _ _ h)
theorem Q1z (w:zB) (g o:Nat) (t ty:zF) (cs vs:Array zC) (hB:Blk w g t cs) (hi:(P.info? ty).map (·.size)=some vs.size)
 (ho:o+vs.size<=cs.size) (h1:vs.all (·.oneCell')=true) :
 (storeVar ty ⟨g,o,none⟩ (.agg vs)).run P w=.ok () (w.setRow g (spl cs o vs.toList)):=by
 have:=run_storeCells_at P g o t vs.toList 0 cs w hB (by simpa using ho) (fun v hv=>(Array.all_eq_true_iff_forall_mem.1 h1) v (by simpa using hv));cases hq:P.info? ty with
 | none=>simp [hq] at hi
 | some i =>
  have hs:vs.size=i.size:=by simp [hq] at hi; omega
  simp only [Nat.add_zero] at this;simp [storeVar,sizeOf,typeInfo,hq,Value.cells,hs,this,spl]
theorem Q1o {o:zL} {a:zM} {w:zB} {K:zM->zB->Prop} {Q:Exit->zM->zB->Prop} (ty:zF) (x y:Operand) (ho:o.op=.store ty x y)
 (g off:Nat) (vs:Array zC) (hx:a.eval x=.pointer (some ⟨g,off,none⟩)) (hy:a.eval y=.agg vs)
 (t:zF) (cs:Array zC) (hB:Blk w g t cs) (hi:(P.info? ty).map (·.size)=some vs.size)
 (hold:off+vs.size<=cs.size) (h1:vs.all (·.oneCell')=true)
 (h:∀ W',Q0x g w W'->Blk W' g t (spl cs off vs.toList)->K (a.put o.dst undef) W'):o.wp P a w K Q:=by
 unfold Oper.wp execOp;simp only [ho,hx,hy,Instr.storeAt,Instr.sureAddr,zN,Sem.run_pure,zO,Q1z w g off t ty cs vs hB hi hold h1];exact h _ (Q0x.setRow w g _) (setRow_heap w g cs _ t _ hB)
theorem Q01 {ops:Array zL} {rest:List zL} {o:zL} {a:zM} {w:zB} {Q:Exit->zM->zB->Prop} (hgd:o.guard=none) (ty:zF) (x y:Operand) (ho:o.op=.store ty x y)
 (g off:Nat) (vs:Array zC) (hx:a.eval x=.pointer (some ⟨g,off,none⟩)) (hy:a.eval y=.agg vs)
 (t:zF) (cs:Array zC) (hB:Blk w g t cs) (hi:(P.info? ty).map (·.size)=some vs.size)
 (hold:off+vs.size<=cs.size) (h1:vs.all (·.oneCell')=true)
 (h:∀ W',Q0x g w W'->Blk W' g t (spl cs off vs.toList)->wpList P ops Q rest (a.put o.dst undef) W'):wpList P ops Q (o :: rest) a w :=
 wpList_plain hgd fun _ hK=>Q1o ty x y ho g off vs hx hy t cs hB hi hold h1 fun W' h2 h3=>hK _ _ (h W' h2 h3)
theorem Q2i {o:zL} {a:zM} {w:zB} (ty:zF) (x:Operand) (ho:o.op=.load ty x)
 (g off n:Nat) (hx:a.eval x=.pointer (some ⟨g,off,none⟩)) (t:zF) (cs vs:Array zC) (d:TypeDesc) (hB:Blk w g t cs)
 (hu:P.underlying ty=some d) (hd:(match d with | .struct _ | .array _ _=>true | _=>false)=true) (hi:(P.info? ty).map (·.size)=some n)
 (hn:vs.size=n) (hv:∀ j,j<n->cs[off+j]?=vs[j]?):(execOp a.eval o).run P w=.ok (.value (.agg vs)) w:=by
 unfold execOp;simp only [ho,hx,Instr.loadAt,Instr.sureAddr,zN,Sem.run_pure,zO,Q0p w g off n t ty cs vs d hB hu hd hi hn hv]
theorem Q0g {fn:Func} {p u:Tmp} {ty:zF} (h:fn.results=#[.cell p ty,.tmp u]) (tmps:Array zC) (w:zB) (g n:Nat) (t:zF) (cs:Array zC) (d:TypeDesc)
 (hp:tmps.getD p undef=.pointer (some ⟨g,0,none⟩)) (hB:Blk w g t cs)
 (hu:P.underlying ty=some d) (hd:(match d with | .struct _ | .array _ _=>true | _=>false)=true) (hi:(P.info? ty).map (·.size)=some n) (hn:cs.size=n) :
 (results fn tmps).run P w=.ok (.tuple #[.agg cs,tmps.getD u undef]) w:=by
 rw [results_cell_tmp h,hp];simp [asAddr,Q0p w g 0 n t ty cs cs d hB hu hd hi hn (fun j _=>by rw [zW])]
theorem Q0I {fn:Func} {p:Tmp} {ty:zF} (h:fn.results=#[.cell p ty]) (tmps:Array zC) (w:zB) (g n:Nat) (t:zF) (cs:Array zC) (d:TypeDesc)
 (hp:tmps.getD p undef=.pointer (some ⟨g,0,none⟩)) (hB:Blk w g t cs)
 (hu:P.underlying ty=some d) (hd:(match d with | .struct _ | .array _ _=>true | _=>false)=true) (hi:(P.info? ty).map (·.size)=some n) (hn:cs.size=n) :
 (results fn tmps).run P w=.ok (.agg cs) w:=by
 have hp':tmps[p]?.getD undef=.pointer (some ⟨g,0,none⟩):=by simpa using hp
 simp [results,h,hp',asAddr,Q0p w g 0 n t ty cs cs d hB hu hd hi hn (fun j _=>by rw [zW])]
end
theorem Q1K {P:zI} {t e:zF} (ht:P.underlying t=some (.slice e)) (hs:(P.info? e).map (·.size)=some 1) (A:Option zA) (len cap h:Nat) (hi:Int) (eh:hi=h) (hl:h<=cap) (W:zB) :
 (Instr.slice t (.slice A len cap) none (some (.int .i64 hi)) none).run P W=.ok (.slice (if cap=0 then A else A.map (·.add 0)) h cap) W:=by
 subst eh;obtain⟨i,hi,hsz⟩:∃ i,P.info? e=some i/\i.size=1:=by
  cases hh:P.info? e with
  | none=>rw [hh] at hs; cases hs
  | some i=>rw [hh] at hs; exact⟨i,rfl,by simpa using hs⟩
 have he:P.elem t=e:=by simp [Program.elem,ht]
 rw [run_slice_h W t A len cap (by rw [he]; exact ht) .i64 (h:Int) (by omega) (by omega)];simp [he,sizeOf,typeInfo,hi,hsz,sliced]
theorem Q02.to {w:zB} {B n:Nat} {A:Option zA} {xs:List zC} (h:Q02 w B 1 A n xs) {k cap:Nat} (hk:k<=n) (hc:n<=cap) :
 Q02 w B 1 (if cap=0 then A else A.map (·.add 0)) k (xs.take k):=by
 refine⟨by have:=h.1; simp; omega,fun hn=>?_⟩;obtain⟨ad,rfl,hb,hcell⟩:=h.2 (by omega);rw [if_neg (by omega)];refine⟨ad.add 0,rfl,by rw [Q0a]; exact hb,fun j u hu=>?_⟩;rw [Q1E,zW];refine hcell j u ?_;rw [List.getElem?_take] at hu;split at hu
 ·exact hu
 cases hu
def ptr0 (g:Nat):zC:=.pointer (some ⟨g,0,none⟩)
def Q2J (P:zI) (w:zB) (v:zC):Result Next->Prop
 | .ok (.value u) w'=>w'=w/\u=v
 | .ok .skip w'=>w'=w/\v=undef
 | .ok (.enter f args) w'=>w'=w/\Calls P f args w (fun e w''=>e=.returned v/\zE w.heap.size w w'')
 | _=>False
def Q1J (P:zI) (o:zL) (a:zM) (w:zB) (v:zC):Prop:=Q2J P w v ((execOp a.eval o).run P w)
def Q1I (P:zI) (o:zL) (a:zM) (C:zB->Prop) (next:zM->Prop):Prop:=∃ v,(∀ w,C w->Q1J P o a w v)/\next (a.put o.dst v)
def Q09 (o:zL):Option (Tmp×zF) :=
 match o.op,o.guard,o.dst with
 | .alloc t,none,some d=>some (d,t)
 | _,_,_=>none
theorem Q0r {o:zL} {d:Tmp} {t:zF} (h:Q09 o=some (d,t)):o.op=.alloc t/\o.guard=none/\o.dst=some d:=by
 unfold Q09 at h;split at h
 ·rename_i h1 h2 h3;simp only [Option.some.injEq,Prod.mk.injEq] at h;obtain⟨rfl,rfl⟩:=h;exact⟨h1,h2,h3⟩
 cases h
section
variable {P:zI} {ops:Array zL} {md:za} {C:zB->Prop}
def cOp (P:zI) (ops:Array zL) (C:zB->Prop) (i:Nat) (K:zM->Prop) (a:zM):Prop :=
 match ops[i]? with
 | none=>K a
 | some o =>
  match Q09 o with
  | some (d,_)=>∀ g:Nat,K (a.put (some d) (ptr0 g))
  | none=>if zP o (yielded ops a.tmps) then Q1I P o a C K else K (a.put o.dst undef)
def Q0l (P:zI) (ops:Array zL) (C:zB->Prop) (Q:zM->Prop):List zL->zM->Prop
 | [],a=>Q a
 | o :: rest,a =>
  match Q09 o with
  | some (d,_)=>∀ g:Nat,Q0l P ops C Q rest (a.put (some d) (ptr0 g))
  | none=>if zP o (yielded ops a.tmps) then Q1I P o a C (Q0l P ops C Q rest) else Q0l P ops C Q rest (a.put o.dst undef)
theorem Q3u {Q:zM->Prop} {a:zM} (h:Q a):Q0l P ops C Q [] a:=h
theorem Q1f {Q:zM->Prop} {a:zM} {o:zL} {rest:List zL} (ha:Q09 o=none)
 (h:∀ K:zM->Prop,(∀ a,Q0l P ops C Q rest a->K a)->if zP o (yielded ops a.tmps) then Q1I P o a C K else K (a.put o.dst undef)):Q0l P ops C Q (o :: rest) a:=by
 unfold Q0l;rw [ha];exact h _ (fun _ h=>h)
theorem Q2W {o:zL} {a:zM} {K K':zM->Prop} (h:∀ a,K a->K' a) (hh:Q1I P o a C K):Q1I P o a C K' :=
 let ⟨v,h1,h2⟩:=hh
 ⟨v,h1,h _ h2⟩
theorem Q0U {Q Q':zM->Prop} (h:∀ a,Q a->Q' a):∀ {l:List zL} {a:zM},Q0l P ops C Q l a->Q0l P ops C Q' l a
 | [],a,hh=>h a hh
 | o :: rest,a,hh=>by
  unfold Q0l at hh ⊢;split
  ·rename_i d t hd;simp only [hd] at hh;exact fun g=>Q0U h (hh g)
  rename_i hd;simp only [hd] at hh;split
  ·rename_i hw;simp only [hw,if_true] at hh;exact Q2W (fun a' h'=>Q0U h h') hh
  rename_i hw;simp only [hw] at hh;exact Q0U h hh
theorem Q36 {o:zL} {a:zM} {K K':zM->Prop} (h:∀ a,K a->K' a) (hh:Q1I P o a C K):Q1I P o a C K' :=
 let ⟨v,h1,h2⟩:=hh
 ⟨v,h1,h _ h2⟩
theorem cOp_mono {i:Nat} {a:zM} {K K':zM->Prop} (h:∀ a,K a->K' a) (hh:cOp P ops C i K a):cOp P ops C i K' a:=by
 unfold cOp at *;split
 ·exact h _ (by simpa [*] using hh)
 rename_i o ho;simp only [ho] at hh;split
 ·rename_i d t hd;simp only [hd] at hh;exact fun g=>h _ (hh g)
 rename_i hd;simp only [hd] at hh;split
 ·rename_i hw; simp only [hw,if_true] at hh; exact Q36 h hh
 rename_i hw; simp only [hw] at hh; exact h _ hh
def Q0D (P:zI) (ops:Array zL) (C:zB->Prop) (o:zL) (v:zC) (a:zM):Prop :=(zP o (yielded ops a.tmps)=true/\∀ w,C w->Q1J P o a w v)\/(zP o (yielded ops a.tmps)=false/\v=undef)
theorem Q0D.cOp {i:Nat} {o:zL} {v:zC} {a:zM} (hi:ops[i]?=some o) (hal:Q09 o=none) (hy:Q0D P ops C o v a) {K:zM->Prop} (h:K (a.put o.dst v)):cOp P ops C i K a:=by
 unfold Go.Proofs.Ytckjnbjiafgibaa.cOp;simp only [hi,hal];rcases hy with⟨hw,hv⟩ | ⟨hw,rfl⟩
 ·simp only [hw,if_true]; exact⟨v,hv,h⟩
 simp only [hw,zZ,if_false]; exact h
theorem Q0D.of_same {o:zL} {v:zC} {a a':zM} (hy:Q0D P ops C o v a) (he:execOp a'.eval o=execOp a.eval o)
 (hw:zP o (yielded ops a'.tmps)=zP o (yielded ops a.tmps)):Q0D P ops C o v a':=by
 unfold Q0D Q1J at *;rw [he,hw];exact hy
theorem cOp_put {j:Nat} {oi oj:zL} {v:zC} (hj:ops[j]?=some oj) (hap:oi.apart ops oj=true)
 (hsi:∀ cs b,oi.op≠.select cs b) (hsj:∀ cs b,oj.op≠.select cs b) {K:zM->Prop} {a:zM}
 (hy:Q0D P ops C oi v a) (h:cOp P ops C j K (a.put oi.dst v)) :
 cOp P ops C j (fun a'=>Q0D P ops C oi v a'/\K (a'.put oi.dst v)) a:=by
 obtain⟨h1,h2,h3⟩:=Oper.apart_spec hap;have keep:∀ (a:zM),Q0D P ops C oi v a->∀ u,Q0D P ops C oi v (a.put oj.dst u):=fun a hy u =>hy.of_same (execOp_put oi hsi a oj.dst u h3) (wanted_put oi a oj.dst u h3)
 unfold cOp at *;simp only [hj] at *;cases hal:Q09 oj with
 | some p =>obtain⟨d,t⟩:=p;obtain⟨_,_,hd⟩:=Q0r hal;simp only [hal] at h ⊢;intro g;have hk:=keep a hy (ptr0 g);rw [hd] at hk;refine⟨hk,?_⟩;have:=h g;rw [<- hd] at this ⊢;rw [<- Act.put_comm a v (ptr0 g) h2]; exact this
 | none =>
  simp only [hal] at h ⊢;rw [wanted_put oj a oi.dst v h1] at h;split
  ·rename_i hw;simp only [hw,if_true] at h;obtain⟨u,hu,hn⟩:=h;refine⟨u,fun w hw'=>?_,keep a hy u,by rw [<- Act.put_comm a v u h2]; exact hn⟩;have:=hu w hw';unfold Q1J at *
   rwa [execOp_put oj hsj a oi.dst v h1] at this
  rename_i hw;simp only [hw] at h;exact⟨keep a hy _,by rw [<- Act.put_comm a v undef h2]; exact h⟩
def Q1M (P:zI) (md:za) (ops:Array zL) (C:zB->Prop) (n:Nat) (L:Array Bool->zM->Prop):Nat->Array Bool->zM->Prop
 | 0,listed,a=>L listed a
 | f+1,listed,a =>zb md ops listed≠[]/\∀ i∈zb md ops listed,i<n/\cOp P ops C i (Q1M P md ops C n L f (listed.setIfInBounds i true)) a
theorem Q30 {n i:Nat} {oi:zL} {v:zC} {L:Array Bool->zM->Prop} (hi:ops[i]?=some oi) (hal:Q09 oi=none) (hsel:∀ (j:Nat) (o:zL) cs b,ops[j]?=some o->o.op≠.select cs b)
 (hs:Region.sinkB md ops n=true) (hc:Region.chainB md ops n=true) (hn:n<ops.size) (hin:i<n)
 (hdone:∀ listed a,L listed a->∀ j∈zb md ops listed,n<=j) :
 ∀ (f:Nat) (listed:Array Bool) (a:zM),HeadInv md ops n listed ->
  (∀ j oj,ops[j]?=some oj->j≠i->listed.getD j true=false->(∀ e∈oj.after,Region.binds md e=true->e.on≠i)->oi.apart ops oj=true) ->
  i∈zb md ops listed->Q0D P ops C oi v a ->
  Q1M P md ops C n L f (listed.setIfInBounds i true) (a.put oi.dst v)->Q1M P md ops C n L (f+1) listed a:=by
 intro f
 induction f with
 | zero =>
  intro listed a inv _ hr hy H;have hun:=(mem_ready.1 hr).1;refine⟨fun h=>(by rw [h] at hr; cases hr),fun j hj=>?_⟩;have hjn:j<n:=by
   rcases zG j n with h | h
   ·exact h
   exact absurd hj (tail_waits hs hc hn inv _ i rfl hin hun j h)
  refine⟨hjn,?_⟩;by_cases hji:j=i
  ·subst hji; exact hy.cOp hi hal H
  have:=hdone _ _ H j (ready_mono hj hji);omega
 | succ f ih =>
  intro listed a inv hfree hr hy H;have hun:=(mem_ready.1 hr).1;refine⟨fun h=>(by rw [h] at hr; cases hr),fun j hj=>?_⟩;have hjn:j<n:=by
   rcases zG j n with h | h
   ·exact h
   exact absurd hj (tail_waits hs hc hn inv _ i rfl hin hun j h)
  refine⟨hjn,?_⟩;by_cases hji:j=i
  ·subst hji; exact hy.cOp hi hal H
  have h1:=(H.2 j (ready_mono hj hji)).2;obtain⟨hjun,oj,hoj,hall⟩:=mem_ready.1 hj;have hnot:∀ e∈oj.after,Region.binds md e=true->e.on≠i:=fun e he hb heq=>by have h1:=hall e he hb;rw [heq,getD_both hun] at h1;cases h1
  have h2:=cOp_put hoj (hfree j oj hoj hji hjun hnot) (fun cs b=>hsel i oi cs b hi) (fun cs b=>hsel j oj cs b hoj) hy h1;have hfree':∀ k ok,ops[k]?=some ok->k≠i->(listed.setIfInBounds j true).getD k true=false ->
   (∀ e∈ok.after,Region.binds md e=true->e.on≠i)->oi.apart ops ok=true:=fun k ok hk hki hun hno=>by
   refine hfree k ok hk hki ?_ hno;by_cases hjk:j=k
   ·subst hjk; exact hjun
   rw [getD_set_ne true hjk] at hun; exact hun
  refine cOp_mono (fun a' h3=>ih (listed.setIfInBounds j true) a' (inv.set hj hjn) hfree' (ready_mono hr (Ne.symm hji)) h3.1 ?_) h2;rw [Array.setIfInBounds_comm _ _ hji];exact h3.2
theorem Q1p {n i:Nat} {oi:zL} {d:Tmp} {t:zF} {L:Array Bool->zM->Prop} (hi:ops[i]?=some oi) (hal:Q09 oi=some (d,t))
 (hs:Region.sinkB md ops n=true) (hc:Region.chainB md ops n=true) (hn:n<ops.size) (hin:i<n)
 (hdone:∀ listed a,L listed a->∀ j∈zb md ops listed,n<=j) :
 ∀ (f:Nat) (listed:Array Bool) (a:zM),HeadInv md ops n listed ->
  (∀ j oj,ops[j]?=some oj->j<n->j≠i->listed.getD j true=false->∃ d' t',Q09 oj=some (d',t')/\d'≠d) ->
  i∈zb md ops listed ->
  (∀ g,Q1M P md ops C n L f (listed.setIfInBounds i true) (a.put (some d) (ptr0 g)))->Q1M P md ops C n L (f+1) listed a:=by
 intro f
 induction f with
 | zero =>
  intro listed a inv _ hr H;have hun:=(mem_ready.1 hr).1;refine⟨fun h=>(by rw [h] at hr; cases hr),fun j hj=>?_⟩;have hjn:j<n:=by
   rcases zG j n with h | h
   ·exact h
   exact absurd hj (tail_waits hs hc hn inv _ i rfl hin hun j h)
  refine⟨hjn,?_⟩;by_cases hji:j=i
  ·subst hji; unfold cOp; simp only [hi,hal]; exact H
  have:=hdone _ _ (H 0) j (ready_mono hj hji);omega
 | succ f ih =>
  intro listed a inv hrest hr H;have hun:=(mem_ready.1 hr).1;refine⟨fun h=>(by rw [h] at hr; cases hr),fun j hj=>?_⟩;have hjn:j<n:=by
   rcases zG j n with h | h
   ·exact h
   exact absurd hj (tail_waits hs hc hn inv _ i rfl hin hun j h)
  refine⟨hjn,?_⟩;by_cases hji:j=i
  ·subst hji; unfold cOp; simp only [hi,hal]; exact H
  obtain⟨hjun,oj,hoj,hall⟩:=mem_ready.1 hj;obtain⟨d',t',hal',hne⟩:=hrest j oj hoj hjn hji hjun;unfold cOp;simp only [hoj,hal'];intro g';refine ih (listed.setIfInBounds j true) _ (inv.set hj hjn) (fun k ok hk hkn hki hu=>hrest k ok hk hkn hki ?_) (ready_mono hr (Ne.symm hji)) (fun g=>?_)
  ·by_cases hjk:j=k
   ·subst hjk; exact hjun
   rw [getD_set_ne true hjk] at hu; exact hu
  have h1:=((H g).2 j (ready_mono hj hji)).2;unfold cOp at h1;simp only [hoj,hal'] at h1;have h2:=h1 g';rw [Array.setIfInBounds_comm _ _ (Ne.symm hji),Act.put_comm a (ptr0 g) (ptr0 g') (fun e he=>by injection he with he; subst he; intro h; injection h with h; exact hne h)] at h2;exact h2
def endB (md:za) (ops:Array zL) (g k:Nat) (listed:Array Bool):Bool:=Region.seqB md ops g k listed && (zR k).all fun i=>listed.getD i false
theorem Q2I {g k:Nat} {listed:Array Bool} (h:endB md ops g k listed=true):Region.seqB md ops g k listed=true:=by unfold endB at h;rw [zc] at h;exact h.1
theorem endB_all {g k:Nat} {listed:Array Bool} (h:endB md ops g k listed=true) (i:Nat) (hi:i<k):listed.getD i false=true:=by unfold endB at h;rw [zc] at h;exact List.all_eq_true.1 h.2 i (List.mem_range.2 hi)
def Q2b (md:za) (ops:Array zL) (g n:Nat):Nat->Nat->Array Bool->Bool
 | 0,k,listed=>endB md ops g k listed
 | f+1,k,listed=>(zb md ops listed).contains k && (match ops[k]? with
  | none=>false
  | some o=>match Q09 o with
   | none=>Region.free md ops listed k
   | some (d,_)=>(zR n).all fun j=>j == k || listed.getD j true || (match ops[j]? with
    | none=>true
    | some oj=>match Q09 oj with
     | none=>false
     | some (d',_)=>d' != d)) && Q2b md ops g n f (k+1) (listed.setIfInBounds k true)
theorem Q2n {n g:Nat} {Lq:zM->Prop} (hsel:Region.noSelect ops=true) (hs:Region.sinkB md ops n=true) (hc:Region.chainB md ops n=true) (hn:n<ops.size) :
 ∀ (l:List zL) (k:Nat) (listed:Array Bool) (a:zM),(∀ j,j<l.length->l[j]?=ops[k+j]?)->k+l.length=n->HeadInv md ops n listed ->
 Q2b md ops g n l.length k listed=true->Q0l P ops C Lq l a ->
 Q1M P md ops C n (fun listed' a'=>endB md ops g n listed'=true/\Lq a') l.length listed a
 | [],k,listed,a,_,hk,_,hB,h=>by
  have:k=n:=by simpa using hk
  subst this;exact⟨by simpa [Q2b] using hB,h⟩
 | o :: l,k,listed,a,hl,hk,inv,hB,h=>by
  have h0:ops[k]?=some o:=by simpa using (hl 0 (by simp)).symm
  simp only [zX,Q2b,h0,zc] at hB;obtain⟨⟨hr,hf⟩,hB'⟩:=hB;have hkn:k<n:=by simp only [zX] at hk; omega
  have hr':k∈zb md ops listed:=by simpa using hr
  have hnext:∀ a',Q0l P ops C Lq l a'->Q1M P md ops C n (fun listed' a'=>endB md ops g n listed'=true/\Lq a') l.length (listed.setIfInBounds k true) a':=fun a' h' =>Q2n hsel hs hc hn l (k+1) _ a' (fun j hj=>by have:=hl (j+1) (by simp; omega); simpa [Nat.add_assoc,Nat.add_comm 1 j] using this) (by simp only [zX] at hk; omega) (inv.set hr' hkn) hB' h'
  unfold Q0l at h;cases hal:Q09 o with
  | none =>
   simp only [hal] at h hf;have hy:∃ v,Q0D P ops C o v a/\Q0l P ops C Lq l (a.put o.dst v):=by
    by_cases hw:zP o (yielded ops a.tmps)=true
    ·simp only [hw,if_true] at h;obtain⟨v,h1,h2⟩:=h;exact⟨v,.inl ⟨hw,h1⟩,h2⟩
    simp only [hw] at h;exact⟨undef,.inr ⟨by simpa using hw,rfl⟩,h⟩
   obtain⟨v,hy,hK⟩:=hy;exact Q30 h0 hal (Region.noSelect_spec hsel) hs hc hn hkn (fun listed' a' hL=>seqB_ready (Q2I hL.1)) l.length listed a inv (Region.free_spec h0 hf) hr' hy (hnext _ hK)
  | some p =>
   obtain⟨d,t⟩:=p;simp only [hal] at h hf;refine Q1p h0 hal hs hc hn hkn (fun listed' a' hL=>seqB_ready (Q2I hL.1)) l.length listed a inv (fun j oj hj hjn hjk hu=>?_) hr' (fun g'=>hnext _ (h g'));have h1:=List.all_eq_true.1 hf j (List.mem_range.2 hjn);simp only [hj,hu,Bool.or_eq_true,beq_iff_eq,hjk,false_or,zZ] at h1;cases hal':Q09 oj with
   | none=>simp only [hal'] at h1; cases h1
   | some q =>obtain⟨d',t'⟩:=q;simp only [hal',bne_iff_ne] at h1;exact⟨d',t',rfl,h1⟩
structure Made (ops:Array zL) (n:Nat) (zf:zF->Array zC) (base w:zB) (on:Nat->Prop) (a:zM):Prop where
 fact:∀ i o d t,i<n->on i->ops[i]?=some o->Q09 o=some (d,t)->∃ g,a.tmps[d]?=some (ptr0 g)/\base.heap.size<=g/\Blk w g t (zf t)
 apart:∀ i j oi oj di ti dj tj gi gj,i<n->j<n->on i->on j->i≠j->ops[i]?=some oi->ops[j]?=some oj->Q09 oi=some (di,ti)->Q09 oj=some (dj,tj) ->a.tmps[di]?=some (ptr0 gi)->a.tmps[dj]?=some (ptr0 gj)->gi≠gj
theorem Q0w {a:zM} {dst:Option Tmp} {v:zC} {d:Tmp} (h:dst≠some d):(a.put dst v).tmps[d]?=a.tmps[d]?:=by
 cases dst with
 | none=>rfl
 | some e =>show (a.tmps.setIfInBounds e v)[d]?=_;rw [Array.getElem?_setIfInBounds,if_neg (fun he=>h (by rw [he]))]
theorem Q0T {a:zM} {dst:Option Tmp} {v:zC}:(a.put dst v).tmps.size=a.tmps.size:=by
 cases dst with
 | none=>rfl
 | some e=>show (a.tmps.setIfInBounds e v).size=_; simp
def Q3F (ops:Array zL) (n:Nat):Bool :=
 (zR n).all fun i=>(zR n).all fun j=>i == j || (match ops[i]?,ops[j]? with
  | some oi,some oj=>oi.dst.isNone || oi.dst != oj.dst
  | _,_=>true)
theorem Q0F {n:Nat} (h:Q3F ops n=true) {i j:Nat} {oi oj:zL} {d:Tmp} (hi:i<n) (hj:j<n) (hij:i≠j) (ei:ops[i]?=some oi) (ej:ops[j]?=some oj) (hd:oi.dst=some d):oj.dst≠some d:=by have h1:=List.all_eq_true.1 (List.all_eq_true.1 h i (List.mem_range.2 hi)) j (List.mem_range.2 hj);simp only [ei,ej,hd,Bool.or_eq_true,beq_iff_eq,hij,Option.isNone_some,zZ,false_or,bne_iff_ne] at h1;exact fun e=>h1 e.symm
def Q3g (ops:Array zL) (n m:Nat):Bool :=
 (zR n).all fun i=>match ops[i]? with
  | none=>true
  | some o=>match Q09 o with
   | none=>true
   | some (d,_)=>decide (d<m)
theorem Q2P {n m:Nat} (h:Q3g ops n m=true) {i:Nat} {o:zL} {d:Tmp} {t:zF} (hi:i<n) (ei:ops[i]?=some o) (ha:Q09 o=some (d,t)):d<m:=by have h1:=List.all_eq_true.1 h i (List.mem_range.2 hi);simpa only [ei,ha,decide_eq_true_eq] using h1
def Q3N (P:zI) (ops:Array zL) (n:Nat) (zf:zF->Array zC):Prop :=∀ i o d t,i<n->ops[i]?=some o->Q09 o=some (d,t)->∀ (a:zM) (w:zB),(execOp a.eval o).run P w=.ok (.value (ptr0 w.heap.size)) (w.alloc (.cells (zf t) t))
theorem calm_wp {o:zL} {a:zM} {K:zM->Prop} {K':zM->zB->Prop} {Q':Exit->zM->zB->Prop} {w:zB} (hw:C w) (h:∀ v w',zE w.heap.size w w'->K (a.put o.dst v)->K' (a.put o.dst v) w') (hh:Q1I P o a C K):o.wp P a w K' Q':=by
 obtain⟨v,h1,h2⟩:=hh;have h3:=h1 w hw;unfold Q1J at h3;unfold Oper.wp;generalize (execOp a.eval o).run P w=r at *;cases r with
 | ok n w' =>
  cases n <;> simp only [Q2J] at h3 <;> simp only [Oper.upon]
  case value u =>obtain⟨e1,e2⟩:=h3;rw [e1,e2];exact h _ _ (zU _ _) h2
  case skip =>obtain⟨e1,e2⟩:=h3;rw [e1,<- e2];exact h _ _ (zU _ _) h2
  case enter f args =>obtain⟨e1,hc⟩:=h3;rw [e1];exact hc.mono fun e w'' ⟨he,hw''⟩=>by subst he; exact h _ _ hw'' h2
 | halt x w'=>simp only [Q2J] at h3
theorem Q0B {n g m:Nat} {zf:zF->Array zC} {base:zB} {L:Array Bool->zM->Prop} {Q':Exit->zM->zB->Prop} (hC:∀ w w',C w->zE w.heap.size w w'->C w') (hbase:∀ w,C w->base.heap.size<=w.heap.size)
 (hd:Q3F ops n=true) (hb:Q3g ops n m=true) (hz:Q3N P ops n zf)
 (hL:∀ listed a w,C w->a.tmps.size=m->Made ops n zf base w (fun i=>listed.getD i false=true) a->L listed a->wpAny P md ops Q' g listed a w) :
 ∀ (f:Nat) (listed:Array Bool) (a:zM) (w:zB),C w->a.tmps.size=m->listed.size=ops.size->Made ops n zf base w (fun i=>listed.getD i false=true) a->Q1M P md ops C n L f listed a->wpAny P md ops Q' (f+g) listed a w
 | 0,listed,a,w,hw,hm,hls,hM,h=>by rw [zW]; exact hL _ _ _ hw hm hM h
 | f+1,listed,a,w,hw,hm,hls,hM,h=>by
  rw [show f+1+g=(f+g)+1 by omega];refine⟨fun h0=>absurd h0 h.1,fun i hi=>?_⟩;obtain⟨hin,hop⟩:=h.2 i hi;obtain⟨hun,o,ho,_⟩:=mem_ready.1 hi;have hilt:i<listed.size:=by rw [hls]; exact(Array.getElem?_eq_some_iff.1 ho).1
  have hset:∀ k,(listed.setIfInBounds i true).getD k false=true->k=i\/listed.getD k false=true:=fun k hk=>by
   by_cases e:i=k
   ·exact .inl e.symm
   rw [getD_set_ne false e] at hk; exact .inr hk
  have hunf:=getD_both hun;have hkeep:∀ w',zE w.heap.size w w'->Q09 o=none->∀ v,Made ops n zf base w' (fun k=>(listed.setIfInBounds i true).getD k false=true) (a.put o.dst v):=fun w' hbw hal v=>by
   refine⟨fun k ok d t hk hon ek ak=>?_,fun k j ok oj dk tk dj tj gk gj hk hj onk onj hkj ek ej ak aj e1 e2=>?_⟩
   ·have hki:k≠i:=by rintro rfl; rw [ho] at ek; injection ek with ek; subst ek; rw [hal] at ak; cases ak
    rcases hset k hon with e | h2
    ·exact absurd e hki
    obtain⟨g',h3,h4,h5⟩:=hM.fact k ok d t hk h2 ek ak;exact⟨g',by rw [Q0w (Q0F hd hk hin hki ek ho (Q0r ak).2.2)]; exact h3,h4,h5.below hbw h5.lt⟩
   have hki:k≠i:=by rintro rfl; rw [ho] at ek; injection ek with ek; subst ek; rw [hal] at ak; cases ak
   have hji:j≠i:=by rintro rfl; rw [ho] at ej; injection ej with ej; subst ej; rw [hal] at aj; cases aj
   rw [Q0w (Q0F hd hk hin hki ek ho (Q0r ak).2.2)] at e1;rw [Q0w (Q0F hd hj hin hji ej ho (Q0r aj).2.2)] at e2;rcases hset k onk with e | hk2
   ·exact absurd e hki
   rcases hset j onj with e | hj2
   ·exact absurd e hji
   exact hM.apart k j ok oj dk tk dj tj gk gj hk hj hk2 hj2 hkj ek ej ak aj e1 e2
  unfold wpOp;unfold cOp at hop;simp only [ho] at hop ⊢;cases hal:Q09 o with
  | none =>
   simp only [hal] at hop;split
   ·rename_i hwt;simp only [hwt,if_true] at hop;refine .inl (calm_wp hw (fun v w' hbw hK=>?_) hop);exact Q0B hC hbase hd hb hz hL f _ _ w' (hC _ _ hw hbw) (by rw [Q0T]; exact hm) (by simp [hls]) (hkeep w' hbw hal v) hK
   rename_i hwt;simp only [hwt] at hop;exact Q0B hC hbase hd hb hz hL f _ _ w hw (by rw [Q0T]; exact hm) (by simp [hls]) (hkeep w (zU _ _) hal _) hop
  | some p =>
   obtain⟨d,t⟩:=p;simp only [hal] at hop;obtain⟨eop,eg,ed⟩:=Q0r hal;have hwt:zP o (yielded ops a.tmps)=true:=by simp [zP,eg]
   rw [if_pos hwt];refine .inl ?_;unfold Oper.wp;rw [hz i o d t hin ho hal a w];simp only [Oper.upon,ed];have hbw:zE w.heap.size w (w.alloc (.cells (zf t) t)):=(zU _ _).alloc (zS _) _;have hdm:d<a.tmps.size:=by rw [hm]; exact Q2P hb hin ho hal
   have hat:(a.put (some d) (ptr0 w.heap.size)).tmps[d]?=some (ptr0 w.heap.size):=by show (a.tmps.setIfInBounds d _)[d]?=_;rw [Array.getElem?_setIfInBounds,if_pos rfl,if_pos hdm]
   have hold:∀ k ok dk tk,k<n->k≠i->ops[k]?=some ok->Q09 ok=some (dk,tk)->(a.put (some d) (ptr0 w.heap.size)).tmps[dk]?=a.tmps[dk]?:=fun k ok dk tk hk hki ek ak=>by have:=Q0F hd hk hin hki ek ho (Q0r ak).2.2;rw [ed] at this;exact Q0w this
   refine Q0B hC hbase hd hb hz hL f _ _ _ (hC _ _ hw hbw) (by rw [Q0T]; exact hm) (by simp [hls]) ⟨fun k ok dk tk hk hon ek ak=>?_,fun k j ok oj dk tk dj tj gk gj hk hj onk onj hkj ek ej ak aj e1 e2=>?_⟩ (hop _)
   ·by_cases hki:k=i
    ·subst hki;rw [ho] at ek;injection ek with ek
     subst ek;rw [hal] at ak;injection ak with ak
     obtain⟨rfl,rfl⟩:=Prod.mk.inj ak;exact⟨_,hat,hbase w hw,Blk.new w _ _⟩
    rcases hset k hon with e | h2
    ·exact absurd e hki
    obtain⟨g',h3,h4,h5⟩:=hM.fact k ok dk tk hk h2 ek ak;exact⟨g',by rw [hold k ok dk tk hk hki ek ak]; exact h3,h4,h5.alloc _⟩
   have case1:∀ j oj dj tj gj,j<n->j≠i->listed.getD j false=true->ops[j]?=some oj->Q09 oj=some (dj,tj)->(a.put (some d) (ptr0 w.heap.size)).tmps[dj]?=some (ptr0 gj)->gj<w.heap.size:=fun j oj dj tj gj hj hji onj ej aj e2=>by
    rw [hold j oj dj tj hj hji ej aj] at e2;obtain⟨g',h3,h4,h5⟩:=hM.fact j oj dj tj hj onj ej aj;rw [h3] at e2;injection e2 with e2
    injection e2 with e2
    injection e2 with e2
    injection e2 with e2
    subst e2;exact h5.lt
   have same:∀ k ok dk tk gk,k=i->ops[k]?=some ok->Q09 ok=some (dk,tk)->(a.put (some d) (ptr0 w.heap.size)).tmps[dk]?=some (ptr0 gk)->gk=w.heap.size:=fun k ok dk tk gk hki ek ak e1=>by
    subst hki;rw [ho] at ek;injection ek with ek
    subst ek;rw [hal] at ak;injection ak with ak
    obtain⟨rfl,rfl⟩:=Prod.mk.inj ak;rw [hat] at e1;injection e1 with e1
    injection e1 with e1
    injection e1 with e1
    injection e1 with e1
    exact e1.symm
   rcases hset k onk with hki | hk2
   ·have hji:j≠i:=fun e=>hkj (by rw [hki,e])
    rcases hset j onj with e | hj2
    ·exact absurd e hji
    have a1:=same k ok dk tk gk hki ek ak e1;have a2:=case1 j oj dj tj gj hj hji hj2 ej aj e2;omega
   have hki:k≠i:=by rintro rfl; rw [hunf] at hk2; cases hk2
   rcases hset j onj with hji | hj2
   ·have a1:=same j oj dj tj gj hji ej aj e2;have a2:=case1 k ok dk tk gk hk hki hk2 ek ak e1;omega
   have hji:j≠i:=by rintro rfl; rw [hunf] at hj2; cases hj2
   rw [hold k ok dk tk hk hki ek ak] at e1;rw [hold j oj dj tj hj hji ej aj] at e2;exact hM.apart k j ok oj dk tk dj tj gk gj hk hj hk2 hj2 hkj ek ej ak aj e1 e2
def Q2L (md:za) (ops:Array zL) (n m:Nat):Bool :=Region.noSelect ops && decide (n<ops.size) && Region.sinkB md ops n && Region.chainB md ops n && Q2b md ops (ops.size - n) n n 0 (Array.replicate ops.size false) && Q3F ops n && Q3g ops n m
def ClassB (w w':zB):Prop:=∃ p:Regrown,w'=Sort.grow (redrawn w p.d) p.os
theorem Q0R {w w':zB}:ClassB w w' <-> zE w.heap.size w w' :=⟨fun⟨p,h⟩=>h▸below_regrown w p.d p.os,regrown_of_below⟩
theorem Q2d {id:Nat} {Q:Exit->zM->zB->Prop} {a:zM} {w:zB} {l:List zL} (n m:Nat) (zf:zF->Array zC) (hm:P.follows .mixedOrders=true) (hB:Q2L .any l.toArray n m=true) (ha:a.tmps.size=m) (hz:Q3N P l.toArray n zf)
 (h:Q0l P l.toArray (fun w'=>∃ p:Regrown,w'=Sort.grow (redrawn w p.d) p.os) (fun a'=>∀ w',zE w.heap.size w w'->Made l.toArray n zf w w' (fun _=>True) a'->wpList P l.toArray Q (l.drop n) a' w') (l.take n) a):(Code.region id l.toArray true).wp P Q a w:=by
 simp only [Q2L,zc,decide_eq_true_eq] at hB;obtain⟨⟨⟨⟨⟨⟨hsel,hn⟩,hs⟩,hc⟩,hlex⟩,hd⟩,hb⟩:=hB;have hn':n<l.length:=by simpa using hn
 have htl:(l.take n).length=n:=by simp; omega
 have hdl:(l.drop n).length=l.toArray.size - n:=by simp
 have inv0:HeadInv .any l.toArray n (Array.replicate l.toArray.size false) :=⟨by simp,fun j oj _ hl=>(by rw [getD_replicate_false] at hl; cases hl),fun t _ ht=>getD_in (by simpa using ht) (getD_replicate_false _ _)⟩
 have H:=Q2n (md:=.any) (C:=fun w'=>∃ p:Regrown,w'=Sort.grow (redrawn w p.d) p.os) (g:=l.toArray.size - n) hsel hs hc hn (l.take n) 0 _ a (fun j hj=>by
  have hj':j<n:=by rw [htl] at hj; exact hj
  simp [hj']) (by simpa using htl) inv0 (by rw [htl]; exact hlex) h
 refine wp_region_any hm ?_;have hCc:∀ w1 w2:zB,(∃ p:Regrown,w1=Sort.grow (redrawn w p.d) p.os)->zE w1.heap.size w1 w2->∃ p:Regrown,w2=Sort.grow (redrawn w p.d) p.os:=fun w1 w2 h1 h2=>by have h3:=Q0R.1 h1;exact Q0R.2 (h3.trans (h2.mono h3.size))
 have:=Q0B (Q':=Q) (md:=.any) (n:=n) (g:=l.toArray.size - n) (m:=m) (zf:=zf) (base:=w) hCc (fun w1 h1=>(Q0R.1 h1).size) hd hb hz (fun listed a' w' hw' hm' hM hL=>by
  have hall:∀ i,i<n->listed.getD i false=true:=fun i hi=>endB_all hL.1 i hi
  have:=wpAny_of_seq (md:=.any) (Q':=Q) (l.drop n) n listed a' w' (fun j=>by simp [List.getElem?_drop]) (by rw [hdl]; exact Q2I hL.1) (hL.2 w' (Q0R.1 hw') ⟨fun i o d t hi _=>hM.fact i o d t hi (hall i hi),fun i j oi oj di ti dj tj gi gj hi hj _ _=>hM.apart i j oi oj di ti dj tj gi gj hi hj (hall i hi) (hall j hj)⟩);rw [hdl] at this;exact this) _ _ _ w.drew (Q0R.2 (zU _ w).drew) ha (by simp) ⟨fun i o d t _ hon=>(by rw [getD_replicate_false] at hon; cases hon),fun i j oi oj di ti dj tj gi gj _ _ hon=>(by rw [getD_replicate_false] at hon; cases hon)⟩ H
 rw [htl,show n+(l.toArray.size - n)=l.toArray.size by omega] at this;exact this
end
def Q3r (ops:Array zL) (n:Nat):Bool :=
 (zR n).all fun i=>match ops[i]? with
  | none=>true
  | some o=>(Q09 o).isNone
theorem Q3C {P:zI} {ops:Array zL} {n:Nat} {zf:zF->Array zC} (h:Q3r ops n=true):Q3N P ops n zf:=fun i o d t hi ho ha=>by have h1:=List.all_eq_true.1 h i (List.mem_range.2 hi);simp only [ho,ha,Option.isNone_some,zZ] at h1
theorem Q21 {P:zI} {id:Nat} {Q:Exit->zM->zB->Prop} {a:zM} {w:zB} {l:List zL} (n m:Nat) (hm:P.follows .mixedOrders=true) (hB:Q2L .any l.toArray n m=true) (hno:Q3r l.toArray n=true) (ha:a.tmps.size=m)
 (h:Q0l P l.toArray (fun w'=>∃ p:Regrown,w'=Sort.grow (redrawn w p.d) p.os) (fun a'=>∀ w',zE w.heap.size w w'->wpList P l.toArray Q (l.drop n) a' w') (l.take n) a):(Code.region id l.toArray true).wp P Q a w:=by
 refine Q2d n m (fun _=>#[]) hm hB ha (Q3C hno) ?_;exact Q0U (fun a' h' w' hb _=>h' w' hb) h
theorem Q10 {P:zI} {ops:Array zL} {rest:List zL} {o:zL} {a:zM} {w:zB} {Q:zM->Prop} (hw:zP o (yielded ops a.tmps)=true) (ty:zF) (x:Operand) (ho:o.op=.load ty x)
 (g off n:Nat) (hx:a.eval x=.pointer (some ⟨g,off,none⟩)) (t:zF) (cs vs:Array zC) (d:TypeDesc) (hB:Blk w g t cs)
 (hu:P.underlying ty=some d) (hd:(match d with | .struct _ | .array _ _=>true | _=>false)=true) (hi:(P.info? ty).map (·.size)=some n)
 (hn:vs.size=n) (hv:∀ j,j<n->cs[off+j]?=vs[j]?)
 (h:Q0l P ops (fun w'=>∃ p:Regrown,w'=Sort.grow (redrawn w p.d) p.os) Q rest (a.put o.dst (.agg vs))):Q0l P ops (fun w'=>∃ p:Regrown,w'=Sort.grow (redrawn w p.d) p.os) Q (o :: rest) a:=by
 refine Q1f (by unfold Q09; rw [ho]) fun K hK=>?_
 rw [if_pos hw];refine⟨.agg vs,fun w' hw'=>?_,hK _ h⟩;obtain⟨p,rfl⟩:=hw';have hB':=hB.below (below_regrown w p.d p.os) hB.lt;unfold Q1J;rw [Q2i ty x ho g off n hx t cs vs d hB' hu hd hi hn hv];exact⟨rfl,rfl⟩
theorem Q23 {P:zI} {ops:Array zL} {rest:List zL} {o:zL} {a:zM} {w:zB} {Q:zM->Prop} (hw:zP o (yielded ops a.tmps)=true) (hna:Q09 o=none) (f:FuncId) (args:Array zC)
 (hrun:∀ W,(execOp a.eval o).run P W=.ok (.enter f args) W) (v:zC)
 (hc:∀ W,zE w.heap.size w W->Calls P f args W fun e w'=>e=.returned v/\zE W.heap.size W w')
 (h:Q0l P ops (fun w'=>∃ p:Regrown,w'=Sort.grow (redrawn w p.d) p.os) Q rest (a.put o.dst v)):Q0l P ops (fun w'=>∃ p:Regrown,w'=Sort.grow (redrawn w p.d) p.os) Q (o :: rest) a:=by
 refine Q1f hna fun K hK=>?_
 rw [if_pos hw];refine⟨v,fun w' hw'=>?_,hK _ h⟩;obtain⟨p,rfl⟩:=hw';unfold Q1J;rw [hrun];exact⟨rfl,hc _ (below_regrown w p.d p.os)⟩
theorem Q16 {P:zI} {ops:Array zL} {rest:List zL} {o:zL} {a:zM} {C:zB->Prop} {Q:zM->Prop} (hw:zP o (yielded ops a.tmps)=true) (hna:Q09 o=none) (v:zC)
 (hrun:∀ W,C W->(execOp a.eval o).run P W=.ok (.value v) W) (h:Q0l P ops C Q rest (a.put o.dst v)):Q0l P ops C Q (o :: rest) a:=by
 refine Q1f hna fun K hK=>?_
 rw [if_pos hw];refine⟨v,fun w' hw'=>?_,hK _ h⟩;unfold Q1J;rw [hrun _ hw'];exact⟨rfl,rfl⟩
theorem Q2N {P:zI} {o:zL} {a:zM} {W:zB} (t:zF) (x y:Operand) (u:zF) (ho:o.op=.binOp .eql t x y u) (xs ys:Array zC) (hx:a.eval x=.agg xs) (hy:a.eval y=.agg ys) (hg:P.eqGuardType P.depth t=false)
 (v:zC) (h:(binOp .eql t (.agg xs) (.agg ys)).run P W=.ok v W):(execOp a.eval o).run P W=.ok (.value v) W:=by
 unfold execOp;simp only [ho,hx,hy,eqGuard];simp [zN,hg,h]
theorem tC {P:zI} {ops:Array zL} {rest:List zL} {o:zL} {a:zM} {C:zB->Prop} {Q:zM->Prop} (v:zC) (h:Q0l P ops C Q rest (a.put o.dst v)) (hw:zP o (yielded ops a.tmps)=true:=by exact rfl) (hna:Q09 o=none:=by exact rfl) (hr:∀ W,C W->(execOp a.eval o).run P W=.ok (.value v) W:=by intro W _;go_simp):Q0l P ops C Q (o::rest) a:=Q16 hw hna v hr h
theorem tD {P:zI} {ops:Array zL} {rest:List zL} {o:zL} {a:zM} {C:zB->Prop} {Q:zM->Prop} (v:zC) (h:Q0l P ops C Q rest (a.put o.dst v)) (hw:zP o (yielded ops a.tmps)=true:=by exact rfl) (hna:Q09 o=none:=by exact rfl) (hr:∀ W,C W->(execOp a.eval o).run P W=.ok (.value v) W:=by exact fun W _=>rfl):Q0l P ops C Q (o::rest) a:=Q16 hw hna v hr h

end
end Go.Proofs.Ytckjnbjiafgibaa
