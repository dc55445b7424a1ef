/- YtdkgilioejdmeaaGreatBA1: what is proved here stands in the theorems' own rows. -/
import Derived.WalkKit
import Derived.Deep.Draws
import Derived.Test.YtdkgilioejdmeaaGreatProg
import Derived.Deep.QuietTactic
import Derived.BigQuiet
import Derived.KernelRfl
import Derived.Lib.Hide
import Derived.Shelf.Small.Bits
import Derived.Shelf.Strconv.Itoa0
import Derived.Lib.ItoaNum
import Derived.Laws.BitsLemmas
import Derived.Deep.LoopGhost
import Derived.Laws.CopyOwn
import Derived.Laws.MakeOwn
import Derived.Maps.AppendAt
import Derived.Deep.AppendLies
import Derived.Laws.Rows
import Derived.Deep.RegionHeld3
set_option linter.unusedVariables false
set_option linter.unusedSimpArgs false
namespace Go.Proofs
theorem kr {p:Prop} (h:p:=by kernel_rfl):p:=h
theorem om {p:Prop} (h:p:=by omega):p:=h
theorem Iq {p:Prop} (h:p:=by exact fun _ _ _ h=>h):p:=h
theorem Sg {p:Prop} (h:p:=by (simp only [List.getElem?_toArray,List.getElem?_cons_succ,List.getElem?_cons_zero]);rfl):p:=h
theorem sA {α : Type} {l:List α} {i:Nat} {a : α}:l.toArray.setIfInBounds i a=(l.set i a).toArray:=List.setIfInBounds_toArray ..
theorem sB {α : Type} {x : α} {xs:List α} {b : α}:(x :: xs).set 0 b=b :: xs:=rfl
theorem sC {α : Type} {x : α} {xs:List α} {n:Nat} {b : α}:(x :: xs).set (n+1) b=x :: xs.set n b:=rfl
end Go.Proofs
namespace Go.Proofs.YtdkgilioejdmeaaGreat
open Go.RowKit
theorem rq {l:List Bool} {L:Array Bool} (h:l.toArray=L):Array.mk l=L:=h
theorem rp {p:Prop} (h:p:=by (simp only [Array.replicate,List.replicate]);exact rq rfl):p:=h
theorem zH {p:Prop} (h:p):Hid p:=Lib.hid h
theorem wz {p:Prop} (h:p:=by rw [← hWW0];simp [go_sem]):p:=h
def ofD:List Nat→Nat
 | []=>0
 | d :: ds=>d+4294967296*ofD ds
def digs (n:Nat):List Nat:=if h:n=0 then [] else n % 4294967296 :: digs (n / 4294967296)
 termination_by n
 decreasing_by exact Nat.div_lt_self (Nat.pos_of_ne_zero h) om
theorem zAl:digs 0=[]:=by rw [digs];simp
theorem zBM {n:Nat} (h:n≠0):digs n=n % 4294967296 :: digs (n / 4294967296):=by rw [digs];simp [h]
theorem zAH (n:Nat):ofD (digs n)=n:=by
 induction n using Nat.strongRecOn with
 | _ n ih =>
  by_cases h:n=0
  ·subst h;rw [zAl];rfl
  ·rw [zBM h,ofD,ih _ (Nat.div_lt_self (Nat.pos_of_ne_zero h) om)];omega
theorem zAS (n:Nat):∀ d∈digs n,d < 4294967296:=by
 induction n using Nat.strongRecOn with
 | _ n ih =>
  by_cases h:n=0
  ·subst h;rw [zAl];simp
  ·rw [zBM h]
   intro d hd
   rcases List.mem_cons.1 hd with rfl|hd
   ·omega
   ·exact ih _ (Nat.div_lt_self (Nat.pos_of_ne_zero h) om) d hd
theorem digs_last (n:Nat) (h:digs n≠[]):(digs n).getLast h≠0:=by
 induction n using Nat.strongRecOn with
 | _ n ih =>
  by_cases h0:n=0
  ·subst h0;exact absurd zAl h
  ·have hlt:=Nat.div_lt_self (Nat.pos_of_ne_zero h0) (k:=4294967296) om
   by_cases h1:n / 4294967296=0
   ·have e:digs n=[n % 4294967296]:=by rw [zBM h0,h1,zAl]
    simp only [e,List.getLast_singleton];omega
   ·have hne:digs (n / 4294967296)≠[]:=by rw [zBM h1];simp
    have:=ih _ hlt hne
    have e:=zBM h0
    simp only [e,List.getLast_cons hne];exact this
theorem digs_ofD (l:List Nat) (hl:∀ d∈l,d < 4294967296) (hz:∀ h:l≠[],l.getLast h≠0):digs (ofD l)=l:=by
 induction l with
 | nil=>exact zAl
 | cons d ds ih =>
  have hd:d < 4294967296:=hl d (by simp)
  have ih':=ih (fun x hx=>hl x (by simp [hx]))
  by_cases he:ds=[]
  ·subst he
   have:d≠0:=by simpa using hz (by simp)
   have e:ofD [d]=d:=by simp [ofD]
   rw [e,zBM this,Nat.div_eq_of_lt hd,zAl,Nat.mod_eq_of_lt hd]
  ·have hz':∀ h:ds≠[],ds.getLast h≠0:=fun h=>by have:=hz (by simp);rwa [List.getLast_cons h] at this
   have ih2:=ih' hz'
   have hp:ofD ds≠0:=by intro h0;rw [h0,zAl] at ih2;exact he ih2.symm
   have e:ofD (d :: ds)=d+4294967296*ofD ds:=rfl
   rw [e,zBM om,show (d+4294967296*ofD ds) % 4294967296=d by omega,show (d+4294967296*ofD ds) / 4294967296=ofD ds by omega,ih2]
theorem zBE (a b:List Nat):ofD (a ++ b)=ofD a+4294967296 ^ a.length*ofD b:=by
 induction a with
 | nil=>simp [ofD]
 | cons d ds ih=>simp only [List.cons_append,ofD,ih,List.length_cons,Nat.pow_succ,Nat.mul_add];rw [Nat.mul_comm (4294967296 ^ ds.length) 4294967296,Nat.mul_assoc];omega
theorem zBs (l:List Nat) (hl:∀ d∈l,d < 4294967296):ofD l < 4294967296 ^ l.length:=by
 induction l with
 | nil=>simp [ofD]
 | cons d ds ih =>
  have hd:d < 4294967296:=hl d (by simp)
  have:=ih (fun x hx=>hl x (by simp [hx]))
  simp only [ofD,List.length_cons,Nat.pow_succ]
  have h2:4294967296*(ofD ds+1)≤4294967296*4294967296 ^ ds.length:=Nat.mul_le_mul_left _ this
  rw [Nat.mul_comm (4294967296 ^ ds.length)]
  omega
theorem zBN (n:Nat):ofD (List.replicate n 0)=0:=by
 induction n with
 | zero=>rfl
 | succ n ih=>simp [List.replicate_succ,ofD,ih]
theorem zAr (n k:Nat):(digs n).length≤k↔n < 4294967296 ^ k:=by
 induction k generalizing n with
 | zero =>
  constructor
  ·intro h
   have:digs n=[]:=List.eq_nil_of_length_eq_zero om
   have h2:=zAH n
   rw [this] at h2
   simp [ofD] at h2;omega
  ·intro h
   have:n=0:=by simpa using h
   subst this;rw [zAl];simp
 | succ k ih =>
  by_cases h0:n=0
  ·subst h0;rw [zAl];simp [Nat.pow_pos]
  ·rw [zBM h0,List.length_cons,Nat.add_le_add_iff_right,ih,Nat.pow_succ]
   constructor
   ·intro h;have:=Nat.lt_mul_of_div_lt h om;exact this
   ·intro h;exact Nat.div_lt_of_lt_mul (by rw [Nat.mul_comm];exact h)
theorem zCY (n:Nat):n < 4294967296 ^ (digs n).length:=(zAr n _).1 (Nat.le_refl _)
theorem zAT (l:List Nat) (k:Nat) (hk:k≤l.length):ofD l=ofD (l.take k)+4294967296 ^ k*ofD (l.drop k):=by
 have:=zBE (l.take k) (l.drop k)
 rw [List.take_append_drop,List.length_take,Nat.min_eq_left hk] at this
 exact this
theorem zBO (l:List Nat) (d:Nat):ofD (l ++ [d])=ofD l+4294967296 ^ l.length*d:=by rw [zBE];simp [ofD]
theorem ofD_take_succ (l:List Nat) (i:Nat) (hi:i < l.length):ofD (l.take (i+1))=ofD (l.take i)+4294967296 ^ i*l[i]:=by
 have hl:(l.take i).length=i:=by simp;omega
 rw [List.take_succ_eq_append_getElem hi,zBO,hl]
theorem zAM (l:List Nat) (i:Nat):ofD (l.take (i+1))=ofD (l.take i)+4294967296 ^ i*(l[i]?).getD 0:=by
 rcases Nat.lt_or_ge i l.length with h|h
 ·rw [ofD_take_succ l i h,List.getElem?_eq_getElem h,Option.getD_some]
 ·rw [List.take_of_length_le om,List.take_of_length_le om,List.getElem?_eq_none h,Option.getD_none,Nat.mul_zero,Nat.add_zero]
theorem getD_lt {l:List Nat} (hl:∀ d∈l,d < 4294967296) (i:Nat):(l[i]?).getD 0 < 4294967296:=by
 cases hh:l[i]? with
 | none=>simp
 | some z=>obtain ⟨h1,rfl⟩:=List.getElem?_eq_some_iff.1 hh;exact hl _ (List.getElem_mem h1)
theorem ofD_zeros (l:List Nat) (h:∀ d∈l,d=0):ofD l=0:=by
 induction l with
 | nil=>rfl
 | cons d ds ih=>rw [ofD,ih (fun x hx=>h x (by simp [hx])),h d (by simp)]
theorem digs_take (l:List Nat) (k:Nat) (hk:k≤l.length) (hl:∀ d∈l,d < 4294967296) (hz:∀ j,k≤j→∀ h:j < l.length,l[j]=0) (hn:∀ h:0 < k,l[k-1]'om≠0) :
  digs (ofD l)=l.take k:=by
 have h1:ofD (l.drop k)=0:=ofD_zeros _ (by
  intro d hd
  obtain ⟨i,hi,rfl⟩:=List.getElem_of_mem hd
  rw [List.getElem_drop]
  exact hz _ om _)
 rw [zAT l k hk,h1,Nat.mul_zero,Nat.add_zero]
 refine digs_ofD _ (fun d hd=>hl d (List.mem_of_mem_take hd)) (fun h=>?_)
 rcases Nat.eq_zero_or_pos k with h0|h0
 ·subst h0;simp at h
 ·rw [List.getLast_eq_getElem]
  simp only [List.length_take,List.getElem_take]
  have:=hn h0
  simpa [Nat.min_eq_left hk] using this
def TB (w:World) (t:TypeId) (b:Nat):Prop:=∃ cs fr,w.heap[b]? = some (.cells cs t fr)
theorem TB.lt {w:World} {t:TypeId} {b:Nat} (h:TB w t b):b < w.heap.size:=by
 obtain ⟨cs,fr,h⟩:=h
 rcases Nat.lt_or_ge b w.heap.size with h1|h1
 ·exact h1
 ·rw [Array.getElem?_eq_none h1] at h;cases h
theorem TB.of_eq {w w':World} {t:TypeId} {b:Nat} (h:TB w t b) (e:w'.heap[b]? = w.heap[b]?):TB w' t b:=by
 obtain ⟨cs,fr,h⟩:=h;exact ⟨cs,fr,e.trans h⟩
theorem TB.set_ {w:World} {t:TypeId} {b:Nat} (h:TB w t b) (p:Addr) (u:Value):TB (w.setCell p u) t b:=by
 obtain ⟨cs,fr,h⟩:=h
 by_cases e:b=p.block
 ·subst e
  unfold TB World.setCell
  simp only [Array.getElem?_modify,if_true,h,Option.map_some]
  exact ⟨_,_,rfl⟩
 ·exact ⟨cs,fr,by rw [Below.heap_setCell _ _ _ _ e];exact h⟩
theorem TB.ne {w:World} {t t':TypeId} {b b':Nat} (h:TB w t b) (h':TB w t' b') (hne:t≠t'):b≠b':=by
 rintro rfl
 obtain ⟨cs,fr,h⟩:=h
 obtain ⟨cs',fr',h'⟩:=h'
 rw [h] at h'
 injection h' with h'
 injection h' with _ e
 exact hne e
def Digs (w:World) (A:Option Addr) (l:List Nat):Prop :=
 0 < l.length→∃ b off:Nat,A=some ⟨b,off,none⟩∧TB w 133 b∧∀ (j d:Nat),l[j]? = some d→w.cell? ⟨b,off+j,none⟩=some (.int .u32 (d:Int))
def IsNat (w:World) (A:Option Addr) (k n:Nat):Prop:=k=(digs n).length∧Digs w A (digs n)
theorem Digs.cell {w:World} {A:Option Addr} {l:List Nat} (h:Digs w A l) (k:Nat) (hk:k < l.length) :
  ∃ b off:Nat,A=some ⟨b,off,none⟩∧b < w.heap.size∧w.cell? ⟨b,off+k,none⟩=some (.int .u32 (l[k]:Int)):=by
 obtain ⟨b,off,e,hb,hc⟩:=h om
 exact ⟨b,off,e,hb.lt,hc k _ (List.getElem?_eq_getElem hk)⟩
theorem Digs.below {w w':World} {A:Option Addr} {l:List Nat} (h:Digs w A l) (hb:Below w.heap.size w w'):Digs w' A l:=by
 intro hl
 obtain ⟨b,off,e,hlt,hc⟩:=h hl
 exact ⟨b,off,e,hlt.of_eq (hb.block b hlt.lt),fun j d hj=>(hb.cell (p:=⟨b,off+j,none⟩) hlt.lt).trans (hc j d hj)⟩
theorem Digs.set_ {w:World} {A:Option Addr} {l:List Nat} (h:Digs w A l) {b o:Nat} (u:Value) (hne:∀ o',A≠some ⟨b,o',none⟩):Digs (w.setCell ⟨b,o,none⟩ u) A l:=by
 intro hl
 obtain ⟨b',off,e,hlt,hc⟩:=h hl
 refine ⟨b',off,e,hlt.set_ _ _,fun j d hj=>?_⟩
 rw [World.cell?_setCell_other _ _ _ _ (by intro he;injection he with h1 h2;subst h1;exact hne _ e)]
 exact hc j d hj
theorem Digs.setBox {w:World} {A:Option Addr} {l:List Nat} (h:Digs w A l) {b o:Nat} {a':Option Addr} {n c:Nat} (hc:w.cell? ⟨b,o,none⟩=some (.slice a' n c)) (u:Value):Digs (w.setCell ⟨b,o,none⟩ u) A l:=by
 intro hl
 obtain ⟨b',off,e,hlt,hd⟩:=h hl
 refine ⟨b',off,e,hlt.set_ _ _,fun j d hj=>?_⟩
 rw [World.cell?_setCell_other]
 ·exact hd j d hj
 ·intro he
  have:=hd j d hj
  rw [← he,hc] at this
  cases this
theorem Digs.of_block {w:World} {b:Nat} {cs:Array Value} {fr:Nat × Nat} {l:List Nat} (h:w.heap[b]? = some (.cells cs 133 fr))
  (hc:∀ (j d:Nat),l[j]? = some d→cs[j]? = some (.int .u32 (d:Int))):Digs w (some ⟨b,0,none⟩) l:=by
 intro _
 refine ⟨b,0,rfl,⟨cs,fr,h⟩,fun j d hj=>?_⟩
 simp only [World.cell?,h,Nat.zero_add]
 exact hc j d hj
theorem Digs.typed {w w':World} {A:Option Addr} {l:List Nat} (h:Digs w A l) (hk:∀ b,TB w 133 b→w'.heap[b]? = w.heap[b]?):Digs w' A l:=by
 intro hl
 obtain ⟨b,off,e,hb,hc⟩:=h hl
 exact ⟨b,off,e,hb.of_eq (hk b hb),fun j d hj=>by rw [← hc j d hj];simp only [World.cell?,hk b hb]⟩
theorem zA7 (w:World) (o:Obj):(w.alloc o).heap[w.heap.size]? = some o:=by
 show (w.heap.push o)[w.heap.size]? = some o
 rw [Array.getElem?_push,if_pos rfl]
theorem zAA {w:World} {p:Addr} {u:Value} (h:w.cell? p=some u):p.block < w.heap.size:=by
 rcases Nat.lt_or_ge p.block w.heap.size with h1|h1
 ·exact h1
 ·unfold World.cell? at h;rw [Array.getElem?_eq_none h1] at h;cases h
theorem old {B:Nat} {W w1:World} (hb:Below B W w1) {b o:Nat} {v:Value} (h:W.cell? ⟨b,o,none⟩=some v) (hB:b < B):w1.cell? ⟨b,o,none⟩=some v:=(hb.cell (p:=⟨b,o,none⟩) hB).trans h
theorem oldf {B:Nat} {W w1:World} (hb:Below B W w1) {b o:Nat} (h:W.frozen? ⟨b,o,none⟩=false) (hB:b < B):w1.frozen? ⟨b,o,none⟩=false:=(hb.frozen (p:=⟨b,o,none⟩) hB).trans h
theorem setc {w:World} {b o:Nat} {u v:Value} (h:w.cell? ⟨b,o,none⟩=some u):(w.setCell ⟨b,o,none⟩ v).cell? ⟨b,o,none⟩=some v:=World.cell?_setCell_same' _ _ _ (by rw [h];rfl)
theorem below_drewN {B:Nat} {a w:World} (h:Below B a w) (n:Nat):Below B a (w.drewN n):=⟨h.os,h.tape,h.output,h.size,h.block⟩
theorem zBf {k:IntKind} {a b:Int} (h:a=b):Ending.returned (.int k a) = .returned (.int k b):=by rw [h]
def Ext (a w:World):Prop:=Below a.heap.size a w
theorem Ext.refl (w:World):Ext w w:=Below.refl _ _
theorem Ext.alloc {a w:World} (h:Ext a w) (o:Obj):Ext a (w.alloc o):=Below.alloc h h.size o
theorem Ext.drewN {a w:World} (h:Ext a w) (n:Nat):Ext a (w.drewN n):=below_drewN h n
theorem Ext.drew {a w:World} (h:Ext a w):Ext a w.drew:=Below.drew h
theorem Ext.trans {a b c:World} (h:Ext a b) (k:Ext b c):Ext a c:=Below.trans h (Below.mono k h.size)
theorem Ext.setCell {a w:World} (h:Ext a w) {p:Addr} (hp:a.heap.size≤p.block) (u:Value):Ext a (w.setCell p u):=Below.setCell h hp u
theorem Ext.ua {a b:World} (h:Ext a b:=by repeat (first|with_reducible exact Ext.refl _|with_reducible exact hxA|refine Ext.drew ?_|refine Ext.drewN ?_ _|refine Ext.setCell ?_ (by first|exact Nat.le_refl _|(simp only [];omega)) _|refine Ext.alloc ?_ _)):Ext a b:=h
theorem Ext.ub {a b:World} (h:Ext a b:=by repeat (first|with_reducible exact Ext.refl _|refine Ext.drew ?_|refine Ext.drewN ?_ _|refine Ext.alloc ?_ _)):Ext a b:=h
theorem Ext.uc {a b:World} (h:Ext a b:=by repeat (first|exact Ext.refl _|exact hxA|refine Ext.drew ?_|refine Ext.drewN ?_ _|refine Ext.setCell ?_ (by first|exact Nat.le_refl _|(simp only [];omega)) _|refine Ext.alloc ?_ _)):Ext a b:=h
theorem Ext.ud {a b:World} (h:Ext a b:=by repeat (first|exact Ext.refl _|refine Ext.drew ?_|refine Ext.drewN ?_ _|refine Ext.alloc ?_ _)):Ext a b:=h
theorem bx222 (w:World) (T0 T1 T2:TypeId) (a0 a1 b0 b1 c0 c1:Value):∃ W:World,Hid (((w.alloc (.cells #[a0,a1] T0)).alloc (.cells #[b0,b1] T1)).alloc (.cells #[c0,c1] T2)=W)∧Ext w W∧w.heap.size+3≤W.heap.size∧W.cell? ⟨w.heap.size,0,none⟩=some a0∧W.frozen? ⟨w.heap.size,0,none⟩=false∧W.cell? ⟨w.heap.size,1,none⟩=some a1∧W.frozen? ⟨w.heap.size,1,none⟩=false∧W.cell? ⟨w.heap.size+1,0,none⟩=some b0∧W.frozen? ⟨w.heap.size+1,0,none⟩=false∧W.cell? ⟨w.heap.size+1,1,none⟩=some b1∧W.frozen? ⟨w.heap.size+1,1,none⟩=false∧W.cell? ⟨w.heap.size+1+1,0,none⟩=some c0∧W.frozen? ⟨w.heap.size+1+1,0,none⟩=false∧W.cell? ⟨w.heap.size+1+1,1,none⟩=some c1∧W.frozen? ⟨w.heap.size+1+1,1,none⟩=false:=⟨_,Lib.hid rfl,(((Ext.refl w).alloc _).alloc _).alloc _,by simp only [World.size_alloc];omega,by simp [go_sem],by simp [go_sem],by simp [go_sem],by simp [go_sem],by simp [go_sem],by simp [go_sem],by simp [go_sem],by simp [go_sem],by simp [go_sem],by simp [go_sem],by simp [go_sem],by simp [go_sem]⟩
theorem bx333 (w:World) (T0 T1 T2:TypeId) (a0 a1 a2 b0 b1 b2 c0 c1 c2:Value):∃ W:World,Hid (((w.alloc (.cells #[a0,a1,a2] T0)).alloc (.cells #[b0,b1,b2] T1)).alloc (.cells #[c0,c1,c2] T2)=W)∧Ext w W∧w.heap.size+3≤W.heap.size∧W.cell? ⟨w.heap.size,0,none⟩=some a0∧W.frozen? ⟨w.heap.size,0,none⟩=false∧W.cell? ⟨w.heap.size,1,none⟩=some a1∧W.frozen? ⟨w.heap.size,1,none⟩=false∧W.cell? ⟨w.heap.size,2,none⟩=some a2∧W.frozen? ⟨w.heap.size,2,none⟩=false∧W.cell? ⟨w.heap.size+1,0,none⟩=some b0∧W.frozen? ⟨w.heap.size+1,0,none⟩=false∧W.cell? ⟨w.heap.size+1,1,none⟩=some b1∧W.frozen? ⟨w.heap.size+1,1,none⟩=false∧W.cell? ⟨w.heap.size+1,2,none⟩=some b2∧W.frozen? ⟨w.heap.size+1,2,none⟩=false∧W.cell? ⟨w.heap.size+1+1,0,none⟩=some c0∧W.frozen? ⟨w.heap.size+1+1,0,none⟩=false∧W.cell? ⟨w.heap.size+1+1,1,none⟩=some c1∧W.frozen? ⟨w.heap.size+1+1,1,none⟩=false∧W.cell? ⟨w.heap.size+1+1,2,none⟩=some c2∧W.frozen? ⟨w.heap.size+1+1,2,none⟩=false:=⟨_,Lib.hid rfl,(((Ext.refl w).alloc _).alloc _).alloc _,by simp only [World.size_alloc];omega,by simp [go_sem],by simp [go_sem],by simp [go_sem],by simp [go_sem],by simp [go_sem],by simp [go_sem],by simp [go_sem],by simp [go_sem],by simp [go_sem],by simp [go_sem],by simp [go_sem],by simp [go_sem],by simp [go_sem],by simp [go_sem],by simp [go_sem],by simp [go_sem],by simp [go_sem],by simp [go_sem]⟩
theorem bx22 (w:World) (T0 T1:TypeId) (a0 a1 b0 b1:Value):∃ W:World,Hid ((w.alloc (.cells #[a0,a1] T0)).alloc (.cells #[b0,b1] T1)=W)∧Ext w W∧w.heap.size+2≤W.heap.size∧W.cell? ⟨w.heap.size,0,none⟩=some a0∧W.frozen? ⟨w.heap.size,0,none⟩=false∧W.cell? ⟨w.heap.size,1,none⟩=some a1∧W.frozen? ⟨w.heap.size,1,none⟩=false∧W.cell? ⟨w.heap.size+1,0,none⟩=some b0∧W.frozen? ⟨w.heap.size+1,0,none⟩=false∧W.cell? ⟨w.heap.size+1,1,none⟩=some b1∧W.frozen? ⟨w.heap.size+1,1,none⟩=false:=⟨_,Lib.hid rfl,((Ext.refl w).alloc _).alloc _,by simp only [World.size_alloc];omega,by simp [go_sem],by simp [go_sem],by simp [go_sem],by simp [go_sem],by simp [go_sem],by simp [go_sem],by simp [go_sem],by simp [go_sem]⟩
theorem bx11 (w:World) (T0 T1:TypeId) (a0 b0:Value):∃ W:World,Hid ((w.alloc (.cells #[a0] T0)).alloc (.cells #[b0] T1)=W)∧Ext w W∧w.heap.size+2≤W.heap.size∧W.cell? ⟨w.heap.size,0,none⟩=some a0∧W.frozen? ⟨w.heap.size,0,none⟩=false∧W.cell? ⟨w.heap.size+1,0,none⟩=some b0∧W.frozen? ⟨w.heap.size+1,0,none⟩=false:=⟨_,Lib.hid rfl,((Ext.refl w).alloc _).alloc _,by simp only [World.size_alloc];omega,by simp [go_sem],by simp [go_sem],by simp [go_sem],by simp [go_sem]⟩
theorem bx1 (w:World) (T0:TypeId) (a0:Value):∃ W:World,Hid (w.alloc (.cells #[a0] T0)=W)∧Ext w W∧w.heap.size+1≤W.heap.size∧W.cell? ⟨w.heap.size,0,none⟩=some a0∧W.frozen? ⟨w.heap.size,0,none⟩=false:=⟨_,Lib.hid rfl,(Ext.refl w).alloc _,by simp only [World.size_alloc];omega,by simp [go_sem],by simp [go_sem]⟩
theorem bx2 (w:World) (T0:TypeId) (a0 a1:Value):∃ W:World,Hid (w.alloc (.cells #[a0,a1] T0)=W)∧Ext w W∧w.heap.size+1≤W.heap.size∧W.cell? ⟨w.heap.size,0,none⟩=some a0∧W.frozen? ⟨w.heap.size,0,none⟩=false∧W.cell? ⟨w.heap.size,1,none⟩=some a1∧W.frozen? ⟨w.heap.size,1,none⟩=false:=⟨_,Lib.hid rfl,(Ext.refl w).alloc _,by simp only [World.size_alloc];omega,by simp [go_sem],by simp [go_sem],by simp [go_sem],by simp [go_sem]⟩
theorem bx2222 (w:World) (T0 T1 T2 T3:TypeId) (a0 a1 b0 b1 c0 c1 d0 d1:Value):∃ W:World,Hid ((((w.alloc (.cells #[a0,a1] T0)).alloc (.cells #[b0,b1] T1)).alloc (.cells #[c0,c1] T2)).alloc (.cells #[d0,d1] T3)=W)∧Ext w W∧w.heap.size+4≤W.heap.size∧W.cell? ⟨w.heap.size,0,none⟩=some a0∧W.frozen? ⟨w.heap.size,0,none⟩=false∧W.cell? ⟨w.heap.size,1,none⟩=some a1∧W.frozen? ⟨w.heap.size,1,none⟩=false∧W.cell? ⟨w.heap.size+1,0,none⟩=some b0∧W.frozen? ⟨w.heap.size+1,0,none⟩=false∧W.cell? ⟨w.heap.size+1,1,none⟩=some b1∧W.frozen? ⟨w.heap.size+1,1,none⟩=false∧W.cell? ⟨w.heap.size+1+1,0,none⟩=some c0∧W.frozen? ⟨w.heap.size+1+1,0,none⟩=false∧W.cell? ⟨w.heap.size+1+1,1,none⟩=some c1∧W.frozen? ⟨w.heap.size+1+1,1,none⟩=false∧W.cell? ⟨w.heap.size+1+1+1,0,none⟩=some d0∧W.frozen? ⟨w.heap.size+1+1+1,0,none⟩=false∧W.cell? ⟨w.heap.size+1+1+1,1,none⟩=some d1∧W.frozen? ⟨w.heap.size+1+1+1,1,none⟩=false:=⟨_,Lib.hid rfl,((((Ext.refl w).alloc _).alloc _).alloc _).alloc _,by simp only [World.size_alloc];omega,by simp [go_sem],by simp [go_sem],by simp [go_sem],by simp [go_sem],by simp [go_sem],by simp [go_sem],by simp [go_sem],by simp [go_sem],by simp [go_sem],by simp [go_sem],by simp [go_sem],by simp [go_sem],by simp [go_sem],by simp [go_sem],by simp [go_sem],by simp [go_sem]⟩
theorem bx1111 (w:World) (T0 T1 T2 T3:TypeId) (a0 b0 c0 d0:Value):∃ W:World,Hid ((((w.alloc (.cells #[a0] T0)).alloc (.cells #[b0] T1)).alloc (.cells #[c0] T2)).alloc (.cells #[d0] T3)=W)∧Ext w W∧w.heap.size+4≤W.heap.size∧W.cell? ⟨w.heap.size,0,none⟩=some a0∧W.frozen? ⟨w.heap.size,0,none⟩=false∧W.cell? ⟨w.heap.size+1,0,none⟩=some b0∧W.frozen? ⟨w.heap.size+1,0,none⟩=false∧W.cell? ⟨w.heap.size+1+1,0,none⟩=some c0∧W.frozen? ⟨w.heap.size+1+1,0,none⟩=false∧W.cell? ⟨w.heap.size+1+1+1,0,none⟩=some d0∧W.frozen? ⟨w.heap.size+1+1+1,0,none⟩=false:=⟨_,Lib.hid rfl,((((Ext.refl w).alloc _).alloc _).alloc _).alloc _,by simp only [World.size_alloc];omega,by simp [go_sem],by simp [go_sem],by simp [go_sem],by simp [go_sem],by simp [go_sem],by simp [go_sem],by simp [go_sem],by simp [go_sem]⟩
theorem bx33 (w:World) (T0 T1:TypeId) (a0 a1 a2 b0 b1 b2:Value):∃ W:World,Hid ((w.alloc (.cells #[a0,a1,a2] T0)).alloc (.cells #[b0,b1,b2] T1)=W)∧Ext w W∧w.heap.size+2≤W.heap.size∧W.cell? ⟨w.heap.size,0,none⟩=some a0∧W.frozen? ⟨w.heap.size,0,none⟩=false∧W.cell? ⟨w.heap.size,1,none⟩=some a1∧W.frozen? ⟨w.heap.size,1,none⟩=false∧W.cell? ⟨w.heap.size,2,none⟩=some a2∧W.frozen? ⟨w.heap.size,2,none⟩=false∧W.cell? ⟨w.heap.size+1,0,none⟩=some b0∧W.frozen? ⟨w.heap.size+1,0,none⟩=false∧W.cell? ⟨w.heap.size+1,1,none⟩=some b1∧W.frozen? ⟨w.heap.size+1,1,none⟩=false∧W.cell? ⟨w.heap.size+1,2,none⟩=some b2∧W.frozen? ⟨w.heap.size+1,2,none⟩=false:=⟨_,Lib.hid rfl,((Ext.refl w).alloc _).alloc _,by simp only [World.size_alloc];omega,by simp [go_sem],by simp [go_sem],by simp [go_sem],by simp [go_sem],by simp [go_sem],by simp [go_sem],by simp [go_sem],by simp [go_sem],by simp [go_sem],by simp [go_sem],by simp [go_sem],by simp [go_sem]⟩
theorem bx31 (w:World) (T0 T1:TypeId) (a0 a1 a2 b0:Value):∃ W:World,Hid ((w.alloc (.cells #[a0,a1,a2] T0)).alloc (.cells #[b0] T1)=W)∧Ext w W∧w.heap.size+2≤W.heap.size∧W.cell? ⟨w.heap.size,0,none⟩=some a0∧W.frozen? ⟨w.heap.size,0,none⟩=false∧W.cell? ⟨w.heap.size,1,none⟩=some a1∧W.frozen? ⟨w.heap.size,1,none⟩=false∧W.cell? ⟨w.heap.size,2,none⟩=some a2∧W.frozen? ⟨w.heap.size,2,none⟩=false∧W.cell? ⟨w.heap.size+1,0,none⟩=some b0∧W.frozen? ⟨w.heap.size+1,0,none⟩=false:=⟨_,Lib.hid rfl,((Ext.refl w).alloc _).alloc _,by simp only [World.size_alloc];omega,by simp [go_sem],by simp [go_sem],by simp [go_sem],by simp [go_sem],by simp [go_sem],by simp [go_sem],by simp [go_sem],by simp [go_sem]⟩
theorem bx32 (w:World) (T0 T1:TypeId) (a0 a1 a2 b0 b1:Value):∃ W:World,Hid ((w.alloc (.cells #[a0,a1,a2] T0)).alloc (.cells #[b0,b1] T1)=W)∧Ext w W∧w.heap.size+2≤W.heap.size∧W.cell? ⟨w.heap.size,0,none⟩=some a0∧W.frozen? ⟨w.heap.size,0,none⟩=false∧W.cell? ⟨w.heap.size,1,none⟩=some a1∧W.frozen? ⟨w.heap.size,1,none⟩=false∧W.cell? ⟨w.heap.size,2,none⟩=some a2∧W.frozen? ⟨w.heap.size,2,none⟩=false∧W.cell? ⟨w.heap.size+1,0,none⟩=some b0∧W.frozen? ⟨w.heap.size+1,0,none⟩=false∧W.cell? ⟨w.heap.size+1,1,none⟩=some b1∧W.frozen? ⟨w.heap.size+1,1,none⟩=false:=⟨_,Lib.hid rfl,((Ext.refl w).alloc _).alloc _,by simp only [World.size_alloc];omega,by simp [go_sem],by simp [go_sem],by simp [go_sem],by simp [go_sem],by simp [go_sem],by simp [go_sem],by simp [go_sem],by simp [go_sem],by simp [go_sem],by simp [go_sem]⟩
theorem Ext.size {a w:World} (h:Ext a w):a.heap.size≤w.heap.size:=Below.size h
theorem Ext.cell {a w:World} (h:Ext a w) {b o:Nat} {v:Value} (hc:a.cell? ⟨b,o,none⟩=some v):w.cell? ⟨b,o,none⟩=some v:=old h hc (zAA hc)
theorem Ext.free {a w:World} (h:Ext a w) {b o:Nat} (hf:a.frozen? ⟨b,o,none⟩=false) (hb:b < a.heap.size):w.frozen? ⟨b,o,none⟩=false:=oldf h hf hb
theorem Ext.grown {a w w':World} {row:Option Nat} (h:Ext a w) (hg:w.grownBy w' row) (hr:∀ k,row=some k→a.heap.size≤k):Ext a w':=Below.grown h hg h.size hr
structure ExtBut (S:Nat→Prop) (a w:World):Prop where
 os:w.os=a.os
 tape:w.tape=a.tape
 output:w.output=a.output
 size:a.heap.size≤w.heap.size
 block:∀ k,k < a.heap.size→¬ S k→w.heap[k]? = a.heap[k]?
theorem ExtBut.refl (S:Nat→Prop) (w:World):ExtBut S w w:=⟨rfl,rfl,rfl,Nat.le_refl _,fun _ _ _=>rfl⟩
theorem Ext.toBut {a w:World} (h:Ext a w) (S:Nat→Prop):ExtBut S a w:=⟨Below.os h,Below.tape h,Below.output h,Below.size h,fun k hk _=>Below.block h k hk⟩
theorem ExtBut.trans {S:Nat→Prop} {a b c:World} (h:ExtBut S a b) (k:ExtBut S b c):ExtBut S a c :=
 ⟨k.os.trans h.os,k.tape.trans h.tape,k.output.trans h.output,Nat.le_trans h.size k.size,fun i hi hs=>(k.block i (Nat.lt_of_lt_of_le hi h.size) hs).trans (h.block i hi hs)⟩
theorem ExtBut.ext {S:Nat→Prop} {a b c:World} (h:ExtBut S a b) (k:Ext b c):ExtBut S a c:=h.trans (k.toBut S)
theorem ExtBut.alloc {S:Nat→Prop} {a w:World} (h:ExtBut S a w) (o:Obj):ExtBut S a (w.alloc o):=h.ext ((Ext.refl w).alloc o)
theorem ExtBut.drew {S:Nat→Prop} {a w:World} (h:ExtBut S a w):ExtBut S a w.drew:=h.ext (Ext.refl w).drew
theorem ExtBut.setCell {S:Nat→Prop} {a w:World} (h:ExtBut S a w) {p:Addr} (hp:S p.block∨a.heap.size≤p.block) (u:Value):ExtBut S a (w.setCell p u) :=
 ⟨h.os,h.tape,h.output,by simpa [World.setCell] using h.size,fun k hk hs=>(Below.heap_setCell w p u k (by
  rintro rfl
  rcases hp with hp|hp
  ·exact hs hp
  ·omega)).trans (h.block k hk hs)⟩
theorem ExtBut.mono {S T:Nat→Prop} {a w:World} (h:ExtBut S a w) (hST:∀ g,S g→g < a.heap.size→T g):ExtBut T a w :=
 ⟨h.os,h.tape,h.output,h.size,fun k hk hT=>h.block k hk (fun hS=>hT (hST k hS hk))⟩
theorem Ext.but {S:Nat→Prop} {a w w':World} (h:Ext a w) (k:ExtBut S w w') (hS:∀ g,S g→a.heap.size≤g):Ext a w' :=
 ⟨k.os.trans (Below.os h),k.tape.trans (Below.tape h),k.output.trans (Below.output h),Nat.le_trans h.size k.size,fun i hi=>(k.block i (Nat.lt_of_lt_of_le hi h.size) (fun hs=>by have:=hS i hs;omega)).trans (Below.block h i hi)⟩
theorem ExtBut.cell {S:Nat→Prop} {a w:World} (h:ExtBut S a w) {b o:Nat} {v:Value} (hc:a.cell? ⟨b,o,none⟩=some v) (hb:¬ S b):w.cell? ⟨b,o,none⟩=some v:=by
 rw [← hc];simp only [World.cell?,h.block b (zAA hc) hb]
theorem ExtBut.free {S:Nat→Prop} {a w:World} (h:ExtBut S a w) {b o:Nat} (hf:a.frozen? ⟨b,o,none⟩=false) (hlt:b < a.heap.size) (hb:¬ S b):w.frozen? ⟨b,o,none⟩=false:=by
 rw [← hf];simp only [World.frozen?,h.block b hlt hb]
def Row (w:World) (t:TypeId) (g:Nat) (l:List Nat):Prop:=w.heap[g]? = some (.cells (l.map fun d:Nat=>Value.int .u32 (d:Int)).toArray t (0,0))
theorem Row.lt {w:World} {t:TypeId} {g:Nat} {l:List Nat} (h:Row w t g l):g < w.heap.size:=by
 rcases Nat.lt_or_ge g w.heap.size with h1|h1
 ·exact h1
 ·unfold Row at h;rw [Array.getElem?_eq_none h1] at h;cases h
theorem Row.cell {w:World} {t:TypeId} {g:Nat} {l:List Nat} (h:Row w t g l) {i d:Nat} (hi:l[i]? = some d):w.cell? ⟨g,i,none⟩=some (.int .u32 (d:Int)):=by
 unfold Row at h
 simp [World.cell?,h,hi]
theorem Row.free {w:World} {t:TypeId} {g:Nat} {l:List Nat} (h:Row w t g l) (i:Nat):w.frozen? ⟨g,i,none⟩=false:=by
 unfold Row at h
 simp [World.frozen?,h]
theorem Row.set_ {w:World} {t:TypeId} {g:Nat} {l:List Nat} (h:Row w t g l) (i d:Nat):Row (w.setCell ⟨g,i,none⟩ (.int .u32 (d:Int))) t g (l.set i d):=by
 unfold Row at h ⊢
 simp [World.setCell,Array.getElem?_modify,h,List.map_set]
theorem Row.extBut {S:Nat→Prop} {w w':World} {t:TypeId} {g:Nat} {l:List Nat} (h:Row w t g l) (hb:ExtBut S w w') (hS:¬ S g):Row w' t g l:=(hb.block g h.lt hS).trans h
theorem Row.ext {w w':World} {t:TypeId} {g:Nat} {l:List Nat} (h:Row w t g l) (hb:Ext w w'):Row w' t g l:=(Below.block hb g h.lt).trans h
theorem Row.drewN {w:World} {t:TypeId} {g:Nat} {l:List Nat} (h:Row w t g l) (n:Nat):Row (w.drewN n) t g l:=h
theorem Row.digs {w:World} {g:Nat} {l:List Nat} (h:Row w 133 g l):Digs w (some ⟨g,0,none⟩) l :=
 fun _=>⟨g,0,rfl,⟨_,_,h⟩,fun j d hj=>by rw [Nat.zero_add];exact h.cell hj⟩
theorem Row.new (w:World) (t:TypeId) (l:List Nat) (cs:Array Value) (h:cs=(l.map fun d:Nat=>Value.int .u32 (d:Int)).toArray):Row (w.alloc (.cells cs t)) t w.heap.size l:=by
 subst h
 show ((w.heap.push _)[w.heap.size]?)=_
 rw [Array.getElem?_push,if_pos rfl]
theorem Digs.nil (w:World) (A:Option Addr):Digs w A []:=fun h=>absurd h (by simp)
theorem zA3 (w:World):IsNat w none 0 0:=by unfold IsNat;rw [zAl];exact ⟨rfl,Digs.nil _ _⟩
theorem IsNat.ext {w w':World} {A:Option Addr} {k n:Nat} (h:IsNat w A k n) (hb:Ext w w'):IsNat w' A k n:=⟨h.1,h.2.below hb⟩
theorem IsNat.alloc {w:World} {A:Option Addr} {k n:Nat} (h:IsNat w A k n) (o:Obj):IsNat (w.alloc o) A k n:=h.ext ((Ext.refl w).alloc o)
theorem IsNat.set_ {w:World} {A:Option Addr} {k n:Nat} (h:IsNat w A k n) {b o:Nat} (u:Value) (hne:∀ o',A≠some ⟨b,o',none⟩):IsNat (w.setCell ⟨b,o,none⟩ u) A k n:=⟨h.1,h.2.set_ u hne⟩
theorem IsNat.setBox {w:World} {A:Option Addr} {k n:Nat} (h:IsNat w A k n) {b o:Nat} {a':Option Addr} {m c:Nat} (hc:w.cell? ⟨b,o,none⟩=some (.slice a' m c)) (u:Value):IsNat (w.setCell ⟨b,o,none⟩ u) A k n:=⟨h.1,h.2.setBox hc u⟩
theorem IsNat.cell {w:World} {A:Option Addr} {k n:Nat} (h:IsNat w A k n) (i:Nat) (hi:i < k) :
  ∃ b off d:Nat,A=some ⟨b,off,none⟩∧b < w.heap.size∧(digs n)[i]? = some d∧d < 4294967296∧w.cell? ⟨b,off+i,none⟩=some (.int .u32 (d:Int)):=by
 have hi':i < (digs n).length:=by have:=h.1;omega
 obtain ⟨b,off,e,hb,hc⟩:=h.2.cell i hi'
 exact ⟨b,off,_,e,hb,List.getElem?_eq_getElem hi',zAS n _ (List.getElem_mem hi'),hc⟩
theorem IsNat.k_zero {w:World} {A:Option Addr} {k n:Nat} (h:IsNat w A k n):k=0↔n=0:=by
 constructor
 ·intro h0
  have:digs n=[]:=List.eq_nil_of_length_eq_zero (by have:=h.1;omega)
  have e:=zAH n
  rw [this] at e;simpa [ofD] using e.symm
 ·intro h0;subst h0;have:=h.1;rw [zAl] at this;exact this
theorem cut_any (A:Option Addr) (n c:Nat) (l:List Nat) (w:World) (hn:n=l.length) (hc:n≤c) (hcm:n≤1099511627776) (hl:∀ d∈l,d < 4294967296) (hA:Digs w A l) :
  Calls Tryz.prog 92 #[.slice A n c] w fun e w'=>∃ k,e = .returned (.agg #[.slice A k k])∧k=(digs (ofD l)).length∧digs (ofD l)=l.take k∧Ext w w':=by
 obtain rfl:n=l.length:=hn
 go_enter Tryz.func92,Tryz.ntmps92
 go_wp2
 go_loop [3] (fun i=>∃ k:Nat,k≤l.length∧(∀ j,k≤j→∀ h:j < l.length,l[j]=0)∧i = .int .i64 k) (fun i=>(intOf i).toNat)
 case atStart=>exact ⟨l.length,Nat.le_refl _,fun j h1 h2=>by omega,rfl⟩
 obtain ⟨k,hk,hz,rfl⟩:=hrel
 by_cases h0:k=0
 ·subst h0
  have HV:=zH (digs_take l 0 hk hl hz (fun h=>absurd h om))
  clear hz
  go_wp2
  exact bodyPost_ret (v:=.agg #[.slice A 0 0]) (by simp [results,Tryz.results92,go_sem]) rfl ⟨0,rfl,by rw [HV.out];simp,HV.out,(Ext.refl _).alloc _⟩
 ·obtain ⟨b,off,rfl,hb,hcell⟩:=hA.cell (k - 1) om
  have hlt:l[k-1] < 4294967296:=hl _ (List.getElem_mem _)
  by_cases hd:l[k-1]=0
  ·have HZ:=zH hz;clear hz
   rw [hd] at hcell
   have HD:=zH hd;clear hd
   have hk0:0 < k:=by omega
   go_wp2
   go_round
   case rel=>exact ⟨k - 1,by omega,fun j h1 h2=>by
     rcases Nat.lt_or_ge j k with h3|h3
     ·obtain rfl:j=k - 1:=by omega
      exact HD.out
     ·exact HZ.out j h3 h2,by go_num⟩
   case measure=>simp [intOf];omega
  ·have HV:=zH (digs_take l k hk hl hz (fun _=>hd))
   have HZ:=zH hz;clear hz
   have hk0:0 < k:=by omega
   have hne:((l[k-1]:Int) == 0)=false:=by simpa using hd
   go_wp2
   exact bodyPost_ret (v:=.agg #[.slice (some ⟨b,off,none⟩) k k]) (by simp [results,Tryz.results92,go_sem]) rfl ⟨k,rfl,by rw [HV.out];simp;omega,HV.out,(Ext.refl _).alloc _⟩
theorem Digs.take {w:World} {A:Option Addr} {l:List Nat} (h:Digs w A l) (k:Nat):Digs w A (l.take k):=by
 intro hl
 obtain ⟨b,off,e,hb,hc⟩:=h (by simp at hl;omega)
 exact ⟨b,off,e,hb,fun j d hj=>hc j d (by rw [List.getElem?_take] at hj;split at hj;exact hj;cases hj)⟩
theorem zBU (A:Option Addr) (n c:Nat) (l:List Nat) (w:World) (hn:n=l.length) (hc:n≤c) (hcm:n≤1099511627776) (hl:∀ d∈l,d < 4294967296) (hA:Digs w A l) :
  Calls Tryz.prog 92 #[.slice A n c] w fun e w'=>∃ k,e = .returned (.agg #[.slice A k k])∧IsNat w' A k (ofD l)∧k≤n∧Ext w w' :=
 (cut_any A n c l w hn hc hcm hl hA).mono fun e w' ⟨k,he,hk,hd,hb⟩ =>
  ⟨k,he,⟨hk,by rw [hd];exact (hA.take k).below hb⟩,by rw [hd] at hk;simp at hk;omega,hb⟩
theorem of_any (n:Nat) (w:World) (hn:n < 18446744073709551616) :
  Calls Tryz.prog 61 #[.int .u64 n] w fun e w'=>∃ A k,e = .returned (.agg #[.slice A k k])∧IsNat w' A k n∧k≤2∧Ext w w':=by
 have HN:=zH hn;clear hn
 have h0:(0:Int)≤n:=by omega
 have hbl:=((Ext.refl w).alloc (.cells #[.slice none 0 0] 47)).alloc (.cells #[.int .u32 (n % 4294967296:Nat),.int .u32 (n / 4294967296 % 4294967296:Nat)] 133)
 have e:ofD [n % 4294967296,n / 4294967296 % 4294967296]=n:=by have:=HN.out;simp only [ofD];omega
 have HD:=Digs.of_block (l:=[n % 4294967296,n / 4294967296 % 4294967296]) (zA7 (w.alloc (.cells #[.slice none 0 0] 47)) (.cells #[.int .u32 (n % 4294967296:Nat),.int .u32 (n / 4294967296 % 4294967296:Nat)] 133)) (by
  intro j d hj
  match j,hj with
  | 0,hj=>simp at hj;subst hj;rfl
  | 1,hj=>simp at hj;subst hj;rfl)
 rw [World.size_alloc] at HD
 have HC:=zBU _ 2 2 _ _ rfl om om (by intro d hd;simp at hd;omega) HD
 rw [e] at HC
 have H:=zH HC;clear HC
 have HBL:=zH hbl;clear hbl
 clear e HD
 go_enter Tryz.func61,Tryz.ntmps61
 go_wp2_with fail
 refine H.out.mono ?_
 rintro e w1 ⟨k,rfl,HK,hk,hb⟩
 have c1:=old hb (b:=w.heap.size) (o:=0) (v:=.slice none 0 0) (by simp) (by simp only [World.size_alloc];omega)
 have f1:=oldf hb (b:=w.heap.size) (o:=0) (by simp [go_sem]) (by simp only [World.size_alloc];omega)
 have c2:=setc (v:=.slice (some ⟨w.heap.size+1,0,none⟩) k k) c1
 go_wp2
 refine bodyPost_ret (v:=.agg #[.slice (some ⟨w.heap.size+1,0,none⟩) k k]) (by simp [results,Tryz.results61,go_sem,c2]) rfl ⟨_,k,rfl,HK.set_ _ (by simp),hk,?_⟩
 exact (HBL.out.trans hb).setCell (p:=⟨w.heap.size,0,none⟩) (Nat.le_refl _) _
end Go.Proofs.YtdkgilioejdmeaaGreat
namespace Go.Proofs
open Go.Shelf
def Tryz.lays128_ren:Go.Shelf.Ren:=⟨fun|128=>160|n=>n,fun|51=>133|3=>3|4=>4|46=>158|5=>5|9=>9|n=>n,fun|n=>n⟩
theorem Tryz.lays128:Go.Proofs.Lays.n128 Tryz.prog Tryz.lays128_ren:={
 mixed:=by kernel_rfl
 f128:=Tryz.func160.trans (congrArg some kr)
 t3:=Tryz.underlying3
 a3:=Tryz.isAgg3
 z3:=Tryz.sizeOf3
 v3:=Tryz.zeroValue3
 t4:=Tryz.underlying4
 a4:=Tryz.isAgg4
 z4:=Tryz.sizeOf4
 v4:=Tryz.zeroValue4
 t5:=Tryz.underlying5
 a5:=Tryz.isAgg5
 z5:=Tryz.sizeOf5
 v5:=Tryz.zeroValue5
 t9:=Tryz.underlying9
 a9:=Tryz.isAgg9
 z9:=Tryz.sizeOf9
 v9:=Tryz.zeroValue9
 t46:=Tryz.underlying158
 a46:=Tryz.isAgg158
 z46:=Tryz.sizeOf158
 v46:=Tryz.zeroValue158
 t51:=Tryz.underlying133
 a51:=Tryz.isAgg133
 z51:=Tryz.sizeOf133
 v51:=Tryz.zeroValue133 }
theorem Tryz.bits_Len32 (x:Int) (w:World) (h0:0≤x) (h1:x≤4294967295) :
  Calls Tryz.prog 160 #[.int .u32 x] w fun e w'=>e = .returned (.int .i64 (Lib.bitLen x.toNat))∧w'=w:=Any.bits_Len32 Tryz.lays128 x w h0 h1
def Tryz.lays133_ren:Go.Shelf.Ren:=⟨fun|133=>222|128=>160|n=>n,fun|51=>133|3=>3|4=>4|46=>158|5=>5|9=>9|n=>n,fun|n=>n⟩
theorem Tryz.lays133:Go.Proofs.Lays.n133 Tryz.prog Tryz.lays133_ren:={
 mixed:=by kernel_rfl
 f128:=Tryz.func160.trans (congrArg some kr)
 f133:=Tryz.func222.trans (congrArg some kr)
 t3:=Tryz.underlying3
 a3:=Tryz.isAgg3
 z3:=Tryz.sizeOf3
 v3:=Tryz.zeroValue3
 t4:=Tryz.underlying4
 a4:=Tryz.isAgg4
 z4:=Tryz.sizeOf4
 v4:=Tryz.zeroValue4
 t5:=Tryz.underlying5
 a5:=Tryz.isAgg5
 z5:=Tryz.sizeOf5
 v5:=Tryz.zeroValue5
 t9:=Tryz.underlying9
 a9:=Tryz.isAgg9
 z9:=Tryz.sizeOf9
 v9:=Tryz.zeroValue9
 t46:=Tryz.underlying158
 a46:=Tryz.isAgg158
 z46:=Tryz.sizeOf158
 v46:=Tryz.zeroValue158
 t51:=Tryz.underlying133
 a51:=Tryz.isAgg133
 z51:=Tryz.sizeOf133
 v51:=Tryz.zeroValue133 }
theorem Tryz.bits_LeadingZeros32 (x:Int) (w:World) (h0:0≤x) (h1:x≤4294967295) :
  Calls Tryz.prog 222 #[.int .u32 x] w fun e w'=>e = .returned (.int .i64 (32 - (Lib.bitLen x.toNat:Int)))∧w'=w:=Any.bits_LeadingZeros32 Tryz.lays133 x w h0 h1
end Go.Proofs
namespace Go.Proofs.YtdkgilioejdmeaaGreat
open Go.RowKit
def bitsN (n:Nat):Nat:=if n=0 then 0 else n.log2+1
theorem zAW (n k:Nat):bitsN n≤k↔n < 2 ^ k:=by
 unfold bitsN
 split
 ·subst_vars;simp [Nat.pow_pos]
 ·rename_i h
  rw [← Nat.log2_lt h];omega
theorem bitsN_eq {n k:Nat} (h0:2 ^ (k - 1)≤n) (h1:n < 2 ^ k) (hk:0 < k):bitsN n=k:=by
 have a:=(zAW n k).2 h1
 rcases Nat.lt_or_ge (bitsN n) k with h|h
 ·have:=(zAW n (k - 1)).1 om;omega
 ·omega
theorem bitsN_zero:bitsN 0=0:=rfl
theorem zAf {n:Nat} (h:n≠0):0 < bitsN n:=by unfold bitsN;rw [if_neg h];omega
theorem zCM {n:Nat}:bitsN n=0↔n=0:=by
 constructor
 ·intro h;rcases Nat.eq_zero_or_pos n with h0|h0
  ·exact h0
  ·have:=zAf (n:=n) om;omega
 ·rintro rfl;rfl
theorem zCj (d:Nat) (h:d < 4294967296):Lib.bitLen d=bitsN d:=by
 by_cases h0:d=0
 ·subst h0;simp [Lib.bitLen,Lib.bitLenAux_zero,bitsN]
 ·obtain ⟨h1,h2,h3⟩:=Lib.bitLenAux_bounds 64 d om h0
  exact (bitsN_eq h2 h3 h1).symm
theorem bits_digs (n:Nat) (_:n≠0) (h':0 < (digs n).length):bitsN n=32*((digs n).length - 1)+bitsN ((digs n)[(digs n).length - 1]):=by
 have hne:digs n≠[]:=by intro e;rw [e] at h';simp at h'
 have hlast:(digs n)[(digs n).length - 1]≠0:=by have:=digs_last n hne;rwa [List.getLast_eq_getElem] at this
 have hd:=zAS n _ (List.getElem_mem (h:=(by omega:(digs n).length - 1 < (digs n).length)))
 have e:=zAT (digs n) ((digs n).length - 1) om
 rw [zAH,List.drop_eq_getElem_cons om] at e
 have hdrop:(digs n).drop ((digs n).length - 1+1)=[]:=List.drop_eq_nil_of_le om
 rw [hdrop] at e
 have hlt:=zBs ((digs n).take ((digs n).length - 1)) (fun d hd=>zAS n d (List.mem_of_mem_take hd))
 have hlen:((digs n).take ((digs n).length - 1)).length=(digs n).length - 1:=by simp
 rw [hlen] at hlt
 generalize (digs n)[(digs n).length - 1]=d at *
 generalize (digs n).length - 1=m at *
 generalize ofD ((digs n).take m)=r at *
 simp only [ofD,Nat.mul_zero,Nat.add_zero] at e
 have hb:=zAf hlast
 have h1:=(zAW d (bitsN d)).1 (Nat.le_refl _)
 have h2:2 ^ (bitsN d - 1)≤d:=by
  rcases Nat.lt_or_ge d (2 ^ (bitsN d - 1)) with h|h
  ·have:=(zAW d (bitsN d - 1)).2 h;omega
  ·exact h
 have hB:(4294967296:Nat) ^ m=2 ^ (32*m):=by rw [Nat.pow_mul]
 rw [hB] at e hlt
 refine bitsN_eq ?_ ?_ om
 ·have:2 ^ (32*m+bitsN d - 1)=2 ^ (32*m)*2 ^ (bitsN d - 1):=by rw [← Nat.pow_add];congr 1;omega
  rw [this,e]
  exact Nat.le_trans (Nat.mul_le_mul_left _ h2) (Nat.le_add_left _ _)
 ·rw [Nat.pow_add,e]
  have:2 ^ (32*m)*(d+1)≤2 ^ (32*m)*2 ^ bitsN d:=Nat.mul_le_mul_left _ h1
  rw [Nat.mul_add] at this;omega
theorem zBj (n:Nat) (b:Nat) (h:bitsN n≤32*b):(digs n).length≤b:=by
 rw [zAr]
 have:=(zAW n _).1 h
 rwa [Nat.pow_mul] at this
theorem IsNat.bits {w:World} {A:Option Addr} {k n:Nat} (h:IsNat w A k n):bitsN n≤32*k:=by
 rw [zAW,Nat.pow_mul]
 have:=zCY n
 rw [← h.1] at this
 exact this
theorem Len32_any (d:Nat) (h:d < 4294967296) (w:World):Calls Tryz.prog 160 #[.int .u32 d] w fun e w'=>e = .returned (.int .i64 (bitsN d:Nat))∧w'=w :=
 (Tryz.bits_Len32 d w om om).mono fun e w' ⟨he,hw⟩=>⟨by rw [he,Int.toNat_natCast,zCj d h],hw⟩
theorem zAc (A:Option Addr) (k n:Nat) (w:World) (h:IsNat w A k n) (hk:k≤100000) :
  Calls Tryz.prog 132 #[.agg #[.slice A k k]] w fun e w'=>e = .returned (.int .i64 (bitsN n:Nat))∧Ext w w':=by
 by_cases h0:k=0
 ·subst h0
  have hn:=h.k_zero.1 rfl
  subst hn
  clear h
  go_enter Tryz.func132,Tryz.ntmps132
  go_wp2
  go_ret
  exact ⟨rfl,(Ext.refl _).alloc _⟩
 ·obtain ⟨b,off,d,rfl,hb,hd,hlt,hcell⟩:=h.cell (k - 1) om
  have hn:n≠0:=fun e=>h0 (h.k_zero.2 e)
  have hkl:=h.1
  have hbits:32*(k - 1)+bitsN d=bitsN n:=by
   have h1:=bits_digs n hn om
   have hd':(digs n)[(digs n).length - 1]'om=d:=by
    rw [List.getElem?_eq_some_iff] at hd
    obtain ⟨h2,h3⟩:=hd
    simpa [hkl] using h3
   rw [h1,hd',hkl]
  have hle:bitsN d≤32:=(zAW d 32).2 om
  have HB:=zH hbits;clear hbits
  have hk0:0 < k:=by omega
  clear h hkl hd hn h0
  go_enter Tryz.func132,Tryz.ntmps132
  go_wp2
  have e1:IntKind.i64.wrap ((k:Int) - 1)=(k:Int) - 1:=IntWalk.i64_in _ om
  have e2:IntKind.i64.wrap (32*((k:Int) - 1))=32*((k:Int) - 1):=IntWalk.i64_in _ om
  have e3:IntKind.i64.wrap (32*((k:Int) - 1)+(bitsN d:Nat))=32*((k:Int) - 1)+(bitsN d:Nat):=IntWalk.i64_in _ om
  have e4:((k:Int) - 1).toNat=k - 1:=by omega
  have p1:(0:Int)≤(k:Int) - 1:=by omega
  have p2:(k:Int) - 1 < k:=by omega
  go_quiet ((go_at_call 160;exact Calls.quiet_of_same (Len32_any _ hlt _)))
  go_wp2
  go_ret
  exact ⟨zBf (by have:=HB.out;omega),((Ext.refl _).alloc _).drewN _⟩
theorem fits_ok (A:Option Addr) (k n:Nat) (w:World) (h:IsNat w A k n) (hk:k≤100000) (hb:bitsN n≤4096) :
  Calls Tryz.prog 164 #[.agg #[.slice A k k]] w fun e w'=>e = .returned (.tuple #[.agg #[.slice A k k],.int .i64 0])∧Ext w w':=by
 have HC:=zH (zAc A k n _ ((h.alloc (.cells #[.slice A k k] 47)).alloc (.cells #[.slice none 0 0] 47)) hk)
 clear h
 have hb0:((bitsN n:Nat):Int)≤4096:=by omega
 go_enter Tryz.func164,Tryz.ntmps164
 go_wp2_with fail
 refine HC.out.mono ?_
 rintro e w1 ⟨rfl,hx⟩
 have c1:=hx.cell (b:=w.heap.size) (o:=0) (v:=.slice A k k) (by simp [go_sem])
 have c2:=hx.cell (b:=w.heap.size+1) (o:=0) (v:=.slice none 0 0) (by simp [go_sem])
 have f2:=hx.free (b:=w.heap.size+1) (o:=0) (by simp [go_sem]) (by simp only [World.size_alloc];omega)
 have c3:=setc (v:=.slice A k k) c2
 have hX:=zH ((((Ext.refl w).alloc _).alloc _).trans hx)
 clear hx
 go_wp2
 refine bodyPost_ret (v:=.tuple #[.agg #[.slice A k k],.int .i64 0]) (by simp [results,Tryz.results164,go_sem,c3]) rfl ⟨rfl,hX.out.setCell (p:=⟨w.heap.size+1,0,none⟩) (Nat.le_succ _) _⟩
theorem zDB (A:Option Addr) (k n:Nat) (w:World) (h:IsNat w A k n) (hk:k≤100000) (hb:4096 < bitsN n) :
  Calls Tryz.prog 164 #[.agg #[.slice A k k]] w fun e w'=>e = .returned (.tuple #[.agg #[.slice none 0 0],.int .i64 3])∧Ext w w':=by
 have HC:=zH (zAc A k n _ ((h.alloc (.cells #[.slice A k k] 47)).alloc (.cells #[.slice none 0 0] 47)) hk)
 clear h
 have hb0:(4096:Int) < (bitsN n:Nat):=by omega
 go_enter Tryz.func164,Tryz.ntmps164
 go_wp2_with fail
 refine HC.out.mono ?_
 rintro e w1 ⟨rfl,hx⟩
 have c1:=hx.cell (b:=w.heap.size) (o:=0) (v:=.slice A k k) (by simp [go_sem])
 have c2:=hx.cell (b:=w.heap.size+1) (o:=0) (v:=.slice none 0 0) (by simp [go_sem])
 have f2:=hx.free (b:=w.heap.size+1) (o:=0) (by simp [go_sem]) (by simp only [World.size_alloc];omega)
 have c3:=setc (v:=.slice none 0 0) c2
 have hX:=zH ((((Ext.refl w).alloc _).alloc _).trans hx)
 clear hx
 go_wp2
 refine bodyPost_ret (v:=.tuple #[.agg #[.slice none 0 0],.int .i64 3]) (by simp [results,Tryz.results164,go_sem,c3]) rfl ⟨rfl,hX.out.setCell (p:=⟨w.heap.size+1,0,none⟩) (Nat.le_succ _) _⟩
def cmpN (a b:Nat):Int:=if a < b then -1 else if a=b then 0 else 1
theorem zBT {a b:Nat} (h:(digs a).length < (digs b).length):a < b:=by
 have h1:=zCY a
 rcases Nat.lt_or_ge a b with h2|h2
 ·exact h2
 ·have:=(zAr b (digs a).length).2 om;omega
theorem digs_inj {a b:Nat} (h:digs a=digs b):a=b:=by rw [← zAH a,← zAH b,h]
theorem ofD_lt_of (l m:List Nat) (j:Nat) (hj:j < l.length) (hlm:l.length=m.length) (hl:∀ d∈l,d < 4294967296) (h:l.drop (j+1)=m.drop (j+1)) (hd:l[j] < m[j]) :
  ofD l < ofD m:=by
 have e1:=zAT l j om
 have e2:=zAT m j om
 rw [List.drop_eq_getElem_cons om] at e1 e2
 rw [h] at e1
 have hlt:=zBs (l.take j) (fun d hd=>hl d (List.mem_of_mem_take hd))
 have hlen:(l.take j).length=j:=by simp;omega
 rw [hlen] at hlt
 simp only [ofD] at e1 e2
 generalize ofD (m.drop (j+1))=r at *
 generalize 4294967296 ^ j=B at *
 have h3:B*(l[j]+4294967296*r)+B≤B*(m[j]+4294967296*r):=by
  rw [← Nat.mul_succ];exact Nat.mul_le_mul_left _ om
 omega
theorem drop_lt {l m:List Nat} {j x y:Nat} (hx:l[j]? = some x) (hy:m[j]? = some y) (hlm:l.length=m.length) (hl:∀ d∈l,d < 4294967296) (h:l.drop (j+1)=m.drop (j+1)) (hd:x < y):ofD l < ofD m:=by
 obtain ⟨h1,rfl⟩:=List.getElem?_eq_some_iff.1 hx
 obtain ⟨h2,rfl⟩:=List.getElem?_eq_some_iff.1 hy
 exact ofD_lt_of l m j h1 hlm hl h hd
theorem drop_eq {l m:List Nat} {j x:Nat} (hx:l[j]? = some x) (hy:m[j]? = some x) (h:l.drop (j+1)=m.drop (j+1)):l.drop j=m.drop j:=by
 obtain ⟨h1,e1⟩:=List.getElem?_eq_some_iff.1 hx
 obtain ⟨h2,e2⟩:=List.getElem?_eq_some_iff.1 hy
 rw [List.drop_eq_getElem_cons h1,List.drop_eq_getElem_cons h2,h,e1,e2]
theorem zBS (A B:Option Addr) (k m a b:Nat) (w:World) (ha:IsNat w A k a) (hb:IsNat w B m b) (hk:k≤100000) (hm:m≤100000) :
  Calls Tryz.prog 60 #[.agg #[.slice A k k],.agg #[.slice B m m]] w fun e w'=>e = .returned (.int .i64 (cmpN a b))∧Ext w w':=by
 rcases Nat.lt_trichotomy k m with hkm|hkm|hkm
 ·have hab:a < b:=zBT (by have:=ha.1;have:=hb.1;omega)
  have HV:Hid (cmpN a b = -1):=if_pos hab
  clear ha hb hab
  go_enter Tryz.func60,Tryz.ntmps60
  go_wp2
  go_ret
  exact ⟨zBf HV.out.symm,((Ext.refl _).alloc _).alloc _⟩
 ·subst hkm
  have H0:Hid (k=(digs a).length):=ha.1
  have H1:Hid (k=(digs b).length):=hb.1
  have HA:=zH (((ha.alloc (.cells #[.slice A k k] 47)).alloc (.cells #[.slice B k k] 47)))
  have HB:=zH (((hb.alloc (.cells #[.slice A k k] 47)).alloc (.cells #[.slice B k k] 47)))
  clear ha hb
  go_enter Tryz.func60,Tryz.ntmps60
  go_wp2
  go_loopw [5] (fun i wr=>∃ j:Nat,j≤k∧i = .int .i64 ((j:Int) - 1)∧(digs a).drop j=(digs b).drop j∧Ext ((w.alloc (.cells #[.slice A k k] 47)).alloc (.cells #[.slice B k k] 47)) wr) (fun i _=>(intOf i+1).toNat)
  case atStart=>exact ⟨k,Nat.le_refl _,rfl,by rw [List.drop_eq_nil_of_le (by have:=H0.out;omega),List.drop_eq_nil_of_le (by have:=H1.out;omega)],Ext.refl _⟩
  obtain ⟨j,hj,rfl,hdr,hx⟩:=hrel
  have HDR:=zH hdr;clear hdr
  by_cases h0:j=0
  ·subst h0
   have HV:Hid (cmpN a b=0):=by
    have:=digs_inj (by simpa using HDR.out);subst this
    simp [Hid,cmpN]
   have HX:=zH hx;clear hx
   go_wp2
   go_ret
   exact ⟨zBf HV.out.symm,(((Ext.refl _).alloc _).alloc _).trans HX.out⟩
  ·obtain ⟨b1,o1,d1,rfl,hb1,hd1,hl1,hc1⟩:=(HA.out.ext hx).cell (j - 1) om
   obtain ⟨b2,o2,d2,rfl,hb2,hd2,hl2,hc2⟩:=(HB.out.ext hx).cell (j - 1) om
   have c1:=hx.cell (b:=w.heap.size) (o:=0) (v:=.slice (some ⟨b1,o1,none⟩) k k) (by simp [go_sem])
   have c2:=hx.cell (b:=w.heap.size+1) (o:=0) (v:=.slice (some ⟨b2,o2,none⟩) k k) (by simp [go_sem])
   have HX:=zH hx;clear hx
   have HD1:=zH hd1;clear hd1
   have HD2:=zH hd2;clear hd2
   have p0:(0:Int)≤(j:Int) - 1:=by omega
   have p1:(j:Int) - 1 < k:=by omega
   have p2:((j:Int) - 1).toNat=j - 1:=by omega
   rcases Nat.lt_trichotomy d1 d2 with hd|hd|hd
   ·have HV:Hid (cmpN a b = -1):=if_pos (by
     have hlt:ofD (digs a) < ofD (digs b):=drop_lt HD1.out HD2.out (by have:=H0.out;have:=H1.out;omega) (zAS a) (by rw [show j - 1+1=j by omega];exact HDR.out) hd
     rwa [zAH,zAH] at hlt)
    have hdi:((d1:Int) < d2):=by omega
    clear hd
    go_wp2
    go_quiet (fail)
    go_wp2
    go_ret
    exact ⟨zBf HV.out.symm,(((Ext.refl _).alloc _).alloc _).trans (HX.out.drewN _)⟩
   ·subst hd
    have hdi:¬ ((d1:Int) < d1):=by omega
    go_wp2
    go_quiet (fail)
    go_wp2
    go_quiet (fail)
    go_wp2
    go_roundw
    case rel=>exact ⟨j - 1,by omega,by go_num,drop_eq HD1.out HD2.out (by rw [show j - 1+1=j by omega];exact HDR.out),HX.out.drewN _⟩
    case measure=>simp [intOf];omega
   ·have HV:Hid (cmpN a b=1):=by
     have hlt:ofD (digs b) < ofD (digs a):=drop_lt HD2.out HD1.out (by have:=H0.out;have:=H1.out;omega) (zAS b) (by rw [show j - 1+1=j by omega];exact HDR.out.symm) hd
     rw [zAH,zAH] at hlt
     unfold Hid cmpN;rw [if_neg om,if_neg om]
    have hdi:((d2:Int) < d1):=by omega
    clear hd
    go_wp2
    go_quiet (fail)
    go_wp2
    go_quiet (fail)
    go_wp2
    go_ret
    exact ⟨zBf HV.out.symm,(((Ext.refl _).alloc _).alloc _).trans ((HX.out.drewN _).drewN _)⟩
 ·have hab:b < a:=zBT (by have:=ha.1;have:=hb.1;omega)
  have HV:Hid (cmpN a b=1):=by unfold Hid cmpN;rw [if_neg om,if_neg om]
  clear ha hb hab
  go_enter Tryz.func60,Tryz.ntmps60
  go_wp2
  go_ret
  exact ⟨zBf HV.out.symm,((Ext.refl _).alloc _).alloc _⟩
def brw (x y b:Nat):Nat:=if x < y+b then 1 else 0
theorem wraps_u32 (n:Int) (h₀ : 0≤n) (h₁ : n < 2 ^ 32):IntKind.u32.wrap n=n:=by show n % 4294967296=n;omega
theorem bits32 (a b:Nat) (ha:a < 4294967296) (hb:b < 4294967296):bits .and .u32 a b=(a &&& b:Nat)∧bits .or .u32 a b=(a ||| b:Nat)∧bits .xor .u32 a b=(a ^^^ b:Nat):=by
 have h:=bits_nat .u32 32 (by decide) wraps_u32 a b ha hb
 refine ⟨h.1,h.2,?_⟩
 have ha':a % 2 ^ IntKind.u32.bits=a:=Nat.mod_eq_of_lt ha
 have hb':b % 2 ^ IntKind.u32.bits=b:=Nat.mod_eq_of_lt hb
 simp only [bits,BitVec.ofInt_natCast,BitVec.toNat_xor,BitVec.toNat_ofNat,ha',hb']
 have:=Nat.xor_lt_two_pow (n:=32) ha hb
 exact wraps_u32 _ (Int.natCast_nonneg _) om
theorem top_lt (a:Nat) (h:a < 4294967296):a / 2147483648 < 2:=by omega
theorem and_lt32 (a b:Nat) (h:a < 4294967296):a &&& b < 4294967296:=Nat.lt_of_le_of_lt Nat.and_le_left h
theorem xor_lt32 (a b:Nat) (h:a < 4294967296) (h':b < 4294967296):a ^^^ b < 4294967296:=Nat.xor_lt_two_pow (n:=32) h h'
theorem top_and (a b:Nat):(a &&& b) / 2147483648=(a / 2147483648) &&& (b / 2147483648):=Nat.and_div_two_pow (n:=31)
theorem top_or (a b:Nat):(a ||| b) / 2147483648=(a / 2147483648) ||| (b / 2147483648):=Nat.or_div_two_pow (n:=31)
theorem top_xor (a b:Nat):(a ^^^ b) / 2147483648=(a / 2147483648) ^^^ (b / 2147483648):=Nat.xor_div_two_pow (n:=31)
theorem brw_bits (x y b d:Nat) (hx:x < 4294967296) (hy:y < 4294967296) (hb:b≤1) (hd:d=(x+4294967296 - y - b) % 4294967296) :
  (((4294967295 ^^^ x) &&& y) ||| ((4294967295 ^^^ (x ^^^ y)) &&& d)) / 2147483648=brw x y b:=by
 rw [top_or,top_and,top_and,top_xor,top_xor,top_xor,show 4294967295 / 2147483648=1 from rfl]
 have hdlt:d < 4294967296:=by omega
 have x2:=top_lt x hx
 have y2:=top_lt y hy
 have d2:=top_lt d hdlt
 unfold brw
 generalize hX:x / 2147483648=X at *
 generalize hY:y / 2147483648=Y at *
 generalize hD:d / 2147483648=D at *
 match X,x2,Y,y2,D,d2 with
 | 0,_,0,_,0,_=>show 0=_;rw [if_neg om]
 | 0,_,0,_,1,_=>show 1=_;rw [if_pos om]
 | 0,_,1,_,0,_=>show 1=_;rw [if_pos om]
 | 0,_,1,_,1,_=>show 1=_;rw [if_pos om]
 | 1,_,0,_,0,_=>show 0=_;rw [if_neg om]
 | 1,_,0,_,1,_=>show 0=_;rw [if_neg om]
 | 1,_,1,_,0,_=>show 0=_;rw [if_neg om]
 | 1,_,1,_,1,_=>show 1=_;rw [if_pos om]
theorem Sub32_any (x y b:Nat) (hx:x < 4294967296) (hy:y < 4294967296) (hb:b≤1) (w:World) :
  Calls Tryz.prog 198 #[.int .u32 x,.int .u32 y,.int .u32 b] w fun e w'=>e = .returned (.tuple #[.int .u32 ((x+4294967296 - y - b) % 4294967296:Nat),.int .u32 (brw x y b:Nat)])∧w'=w:=by
 have hs:IntKind.u32.signed=false:=rfl
 have HE:Hid (Ending.returned (.tuple #[.int .u32 ((((x:Int) - y) % 4294967296 - b) % 4294967296),.int .u32 (bits BinOp.or IntKind.u32 (bits BinOp.and IntKind.u32 (bits BinOp.xor IntKind.u32 IntKind.u32.max x) y)
        (bits BinOp.and IntKind.u32
         (bits BinOp.xor IntKind.u32 IntKind.u32.max (bits BinOp.xor IntKind.u32 x y))
         (((x:Int) - y - b) % 4294967296)) / 2147483648)]) = .returned (.tuple #[.int .u32 ((x+4294967296 - y - b) % 4294967296:Nat),.int .u32 (brw x y b:Nat)])):=by
  have hm:IntKind.u32.max=((4294967295:Nat):Int):=rfl
  have e1:(((x:Int) - y - b) % 4294967296)=((x+4294967296 - y - b) % 4294967296:Nat):=by omega
  obtain ⟨d,hd⟩:∃ d,d=(x+4294967296 - y - b) % 4294967296:=⟨_,rfl⟩
  have hdl:d < 4294967296:=by omega
  have e2:((((x:Int) - y) % 4294967296 - b) % 4294967296)=((x+4294967296 - y - b) % 4294967296:Nat):=by omega
  rw [e1,e2,← hd,hm]
  have k1:=xor_lt32 4294967295 x om hx
  have k2:=xor_lt32 x y hx hy
  have k3:=xor_lt32 4294967295 (x ^^^ y) om k2
  rw [(bits32 4294967295 x om hx).2.2,(bits32 x y hx hy).2.2,(bits32 _ y k1 hy).1,(bits32 4294967295 (x ^^^ y) om k2).2.2,(bits32 _ d k3 hdl).1,
   (bits32 _ _ (and_lt32 _ _ k1) (and_lt32 _ _ k3)).2.1,← brw_bits x y b d hx hy hb hd]
  rfl
 go_enter Tryz.func198,Tryz.ntmps198
 go_wp2
 go_ret2
 exact ⟨HE.out,rfl⟩
theorem brw_eq (x y b:Nat) (hx:x < 4294967296) (hy:y < 4294967296) (hb:b≤1):(x+4294967296 - y - b) % 4294967296+y+b=x+4294967296*brw x y b∧brw x y b≤1:=by
 unfold brw;split <;> omega
theorem zBh (x y b:Nat) (hx:x < 4294967296) (hy:y < 4294967296) (hb:b≤1):∃ q r:Nat,q < 4294967296∧r≤1∧q+y+b=x+4294967296*r ∧
  ∀ w:World,Calls Tryz.prog 198 #[.int .u32 x,.int .u32 y,.int .u32 b] w fun e w'=>e = .returned (.tuple #[.int .u32 q,.int .u32 r])∧w'=w :=
 ⟨(x+4294967296 - y - b) % 4294967296,brw x y b,by omega,(brw_eq x y b hx hy hb).2,(brw_eq x y b hx hy hb).1,Sub32_any x y b hx hy hb⟩
theorem brw_pow (B q y br x z:Nat) (h:q+y+br=x+4294967296*z):B*q+B*y+B*br=B*x+B*4294967296*z:=by
 rw [Nat.mul_assoc,← Nat.mul_add,← Nat.mul_add,← Nat.mul_add,h]
theorem sub_step (l lb p:List Nat) (i br x y q r:Nat) (hx:l[i]? = some x) (hy:y=(lb[i]?).getD 0) (hp:p.length=i) (e:q+y+br=x+4294967296*r)
  (h:ofD p+ofD (lb.take i)=ofD (l.take i)+4294967296 ^ i*br) :
  ofD (p ++ [q])+ofD (lb.take (i+1))=ofD (l.take (i+1))+4294967296 ^ (i+1)*r:=by
 rw [zAM l,zAM lb,zBO,hp,hx,Option.getD_some,← hy,Nat.pow_succ]
 have:=brw_pow (4294967296 ^ i) _ _ _ _ _ e
 generalize 4294967296 ^ i=B at *
 generalize B*q=bq at *
 generalize B*y=qy at *
 generalize B*br=qb at *
 generalize B*x=qx at *
 generalize B*4294967296*r=qz at *
 omega
theorem less_end (l lb p:List Nat) (k b:Nat) (hk:k=l.length) (hm:lb.length≤k) (hp:p.length=k) (hpl:∀ d∈p,d < 4294967296) (hle:ofD lb≤ofD l) (h:ofD p+ofD (lb.take k)=ofD (l.take k)+4294967296 ^ k*b) :
  ofD p+ofD lb=ofD l:=by
 rw [List.take_of_length_le om,List.take_of_length_le om] at h
 have:=zBs p hpl
 rw [hp] at this
 rcases Nat.eq_zero_or_pos b with h0|h0
 ·subst h0;omega
 ·have:4294967296 ^ k*1≤4294967296 ^ k*b:=Nat.mul_le_mul_left _ h0
  omega
theorem less_break (l lb p:List Nat) (j:Nat) (hj:j≤l.length) (hm:lb.length≤j) (hp:p.length=j) (h:ofD p+ofD (lb.take j)=ofD (l.take j)+4294967296 ^ j*0) :
  ofD (p ++ l.drop j)+ofD lb=ofD l:=by
 rw [List.take_of_length_le hm] at h
 rw [zBE,hp,zAT l j hj]
 omega
theorem zCS {l p:List Nat} {j x:Nat} (hp:p.length=j) (hx:l[j]? = some x):(p ++ l.drop j)[j]? = some x:=by
 rw [List.getElem?_append_right om,List.getElem?_drop,hp,Nat.sub_self,Nat.add_zero,hx]
theorem zAq {l p:List Nat} {j x q:Nat} (hp:p.length=j) (hx:l[j]? = some x):(p ++ l.drop j).set j q=(p ++ [q]) ++ l.drop (j+1):=by
 obtain ⟨h1,rfl⟩:=List.getElem?_eq_some_iff.1 hx
 rw [List.drop_eq_getElem_cons h1,List.set_append_right _ _ om,hp,Nat.sub_self,List.set_cons_zero,List.append_assoc,List.singleton_append]
theorem less_any (g k c:Nat) (l lb:List Nat) (B:Option Addr) (m cb:Nat) (w:World) (hk:k=l.length) (hkm:k≤100000) (hkc:k≤c) (hm:m=lb.length) (hmk:m≤k) (hmc:m≤cb) (hl:∀ d∈l,d < 4294967296) (hlb:∀ d∈lb,d < 4294967296)
  (hR:Row w 133 g l) (hB:Digs w B lb) (hne:∀ o,B≠some ⟨g,o,none⟩∨m=0) (hle:ofD lb≤ofD l) :
  Calls Tryz.prog 165 #[.slice (some ⟨g,0,none⟩) k c,.slice B m cb] w fun e w'=>e = .returned (.tuple #[])∧∃ l',Row w' 133 g l'∧l'.length=k∧(∀ d∈l',d < 4294967296)∧ofD l'+ofD lb=ofD l∧ExtBut (· = g) w w':=by
 have HK:=zH hk;clear hk
 have HM:=zH hm;clear hm
 have HL:=zH hl;clear hl
 have HLB:=zH hlb;clear hlb
 have HN:=zH hne;clear hne
 go_enter Tryz.func165,Tryz.ntmps165
 go_wp2
 go_step3
 go_wp2
 go_step3
 go_wp2
 go_loopw [4,9] (fun br i wr=>∃ (j b:Nat) (p:List Nat),j≤k∧b≤1∧i = .int .i64 j∧br = .int .u32 b∧p.length=j∧(∀ d∈p,d < 4294967296)∧Row wr 133 g (p ++ l.drop j)∧Hid (ofD p+ofD (lb.take j)=ofD (l.take j)+4294967296 ^ j*b)∧ExtBut (· = g) w wr) (fun _ i _=>k - (intOf i).toNat)
 case atStart=>exact ⟨0,0,[],Nat.zero_le _,by omega,rfl,rfl,rfl,by simp,hR,by simp [Hid,ofD],ExtBut.refl _ _⟩
 obtain ⟨j,b,p,hj,hb,rfl,rfl,hp,hpl,hRj,HE,hx⟩:=hrel
 have HP:=zH hp;clear hp
 have HPL:=zH hpl;clear hpl
 by_cases h0:j < k
 ·obtain ⟨x,hx0⟩:∃ x,l[j]? = some x:=⟨_,List.getElem?_eq_getElem (by have:=HK.out;omega)⟩
  have hxl:x < 4294967296:=by obtain ⟨h1,rfl⟩:=List.getElem?_eq_some_iff.1 hx0;exact HL.out _ (List.getElem_mem h1)
  have cx:=hRj.cell (zCS HP.out hx0)
  have fx:=hRj.free j
  by_cases h1:j < m
  ·obtain ⟨b2,o2,rfl,hb2,hc2⟩:=hB.cell j (by have:=HM.out;omega)
   have hne2:¬ b2=g:=fun e=>by rcases HN.out o2 with h2|h2;exact h2 (by rw [e]);omega
   have hyl:lb[j]'(by have:=HM.out;omega) < 4294967296:=HLB.out _ (List.getElem_mem _)
   have HY:Hid (lb[j]'(by have:=HM.out;omega)=(lb[j]?).getD 0):=by rw [List.getElem?_eq_getElem (by have:=HM.out;omega)];rfl
   have cy:=hx.cell hc2 hne2
   generalize lb[j]'(by have:=HM.out;omega)=y at *
   obtain ⟨q,r,hq,hr,hqr,hS⟩:=zBh x y b hxl hyl hb
   have HS:=sub_step l lb p j b x y q r hx0 HY.out HP.out hqr HE.out
   have HRN:=hRj.set_ j q
   rw [zAq HP.out hx0] at HRN
   have HXN:=hx.setCell (p:=⟨g,j,none⟩) (.inl rfl) (.int .u32 (q:Nat))
   have HC:=zH hS
   have HHS:=zH HS
   have HHRN:=zH HRN
   have HHXN:=zH HXN
   clear hqr hS hx0 HS HRN HXN hB hR hRj hx
   go_wp2_with (go_at_call 198;refine (HC.out _).mono ?_;rintro e w' ⟨rfl,rfl⟩)
   go_roundw
   case rel=>exact ⟨j+1,r,p ++ [q],by omega,hr,by go_num,rfl,by simp [HP.out],by
    intro d hd
    rcases List.mem_append.1 hd with hd|hd
    ·exact HPL.out d hd
    ·simp at hd;omega,HHRN.out,HHS.out,HHXN.out⟩
   case measure=>simp [intOf];omega
  ·have HY:Hid ((0:Nat)=(lb[j]?).getD 0):=by rw [List.getElem?_eq_none (by have:=HM.out;omega)];rfl
   rcases Nat.eq_zero_or_pos b with hb0|hb0
   ·subst hb0
    have HL2:=zH (less_break l lb p j (by have:=HK.out;omega) (by have:=HM.out;omega) HP.out HE.out)
    have HX:=zH hx;clear hx
    have HR:=zH hRj;clear hRj
    clear hx0 hB hR
    go_wp2
    try rw [Exit.noGoto_normal]
    refine bodyPost_end (results_none rfl _ _ _) rfl ⟨rfl,_,HR.out,by simp [HP.out];have:=HK.out;omega,?_,HL2.out,HX.out⟩
    intro d hd
    rcases List.mem_append.1 hd with hd|hd
    ·exact HPL.out d hd
    ·exact HL.out d (List.mem_of_mem_drop hd)
   ·obtain rfl:b=1:=by omega
    obtain ⟨q,r,hq,hr,hqr,hS⟩:=zBh x 0 1 hxl om hb
    have HS:=sub_step l lb p j 1 x 0 q r hx0 HY.out HP.out hqr HE.out
    have HRN:=hRj.set_ j q
    rw [zAq HP.out hx0] at HRN
    have HXN:=hx.setCell (p:=⟨g,j,none⟩) (.inl rfl) (.int .u32 (q:Nat))
    have HC:=zH hS
    have HHS:=zH HS
    have HHRN:=zH HRN
    have HHXN:=zH HXN
    clear hqr hS hx0 HS HRN HXN hB hR hRj hx
    go_wp2_with (go_at_call 198;refine (HC.out _).mono ?_;rintro e w' ⟨rfl,rfl⟩)
    go_roundw
    case rel=>exact ⟨j+1,r,p ++ [q],by omega,hr,by go_num,rfl,by simp [HP.out],by
     intro d hd
     rcases List.mem_append.1 hd with hd|hd
     ·exact HPL.out d hd
     ·simp at hd;omega,HHRN.out,HHS.out,HHXN.out⟩
    case measure=>simp [intOf];omega
 ·have HX:=zH hx;clear hx
  have HR:=zH hRj;clear hRj
  obtain rfl:j=k:=by omega
  have HF:=zH (less_end l lb p j b HK.out (by have:=HM.out;omega) HP.out HPL.out hle HE.out)
  go_wp2
  rw [Exit.noGoto_normal]
  have e:l.drop j=[]:=List.drop_eq_nil_of_le (by have:=HK.out;omega)
  refine bodyPost_end (results_none rfl _ _ _) rfl ⟨rfl,p,by have:=HR.out;rwa [e,List.append_nil] at this,HP.out,HPL.out,HF.out,HX.out⟩
theorem Tryz.infoU32:(Tryz.prog.info? 133).map (fun i=>(i.zero,i.size,i.bytes))=some (some (.int .u32 0),1,4):=by kernel_rfl
theorem Tryz.sizeU32:(Tryz.prog.info? 133).map (·.size)=some 1:=by kernel_rfl
def zerosA (n:Nat):Array Value:=((List.replicate n 0).map fun d:Nat=>Value.int .u32 (d:Int)).toArray
theorem Row.zeros (w:World) (t:TypeId) (n:Nat):Row (w.alloc (.cells (zerosA n) t)) t w.heap.size (List.replicate n 0):=Row.new w t _ _ rfl
theorem zBC (m:Int) (n:Nat) (h:m=n) (hn:n≤1099511627776) (w:World) :
  (Instr.makeSlice 45 (.int .i64 m) (.int .i64 m)).run Tryz.prog w = .ok (.slice (some ⟨w.heap.size,0,none⟩) n n) (w.alloc (.cells (zerosA n) 133)):=by
 subst h
 obtain ⟨i0,hi,hz0,hz1,hz2⟩:=info_parts Tryz.infoU32
 have hr:=run_make (P:=Tryz.prog) w 45 133 i0 _ Tryz.underlying45 hi hz0 .i64 .i64 n n om om (by rw [hz2];omega) om
 simp only [Int.toNat_natCast] at hr
 rw [hr,hz1,Nat.mul_one]
 have:madeCells (Value.int IntKind.u32 0).cells n=zerosA n:=by
  unfold madeCells zerosA
  apply Array.ext
  ·simp
  ·intro i h1 h2
   simp [Value.cells,Nat.mod_one]
 rw [this]
theorem splice_digs (l Z:List Nat) (h:l.length≤Z.length):splice (Z.map fun d:Nat=>Value.int .u32 (d:Int)) 0 (l.map fun d:Nat=>Value.int .u32 (d:Int))=(l ++ Z.drop l.length).map fun d:Nat=>Value.int .u32 (d:Int):=by
 unfold splice;simp
theorem zAn {w:World} {ops:Array Oper} {rest:List Oper} {o:Oper} {a:Act} {Q:Exit→Act→World→Prop} (hgd:o.guard=none) (d s:Operand)
  (ho:o.op = .call { callee:=.builtin .copy,args:=#[d,s],argTypes:=#[45,45] })
  (g n dCap:Nat) (A:Option Addr) (m sCap:Nat) (hd:a.eval d = .slice (some ⟨g,0,none⟩) n dCap) (hs:a.eval s = .slice A m sCap)
  (Z l:List Nat) (hR:Row w 133 g Z) (hZ:Z.length=n) (hl:l.length=m) (hm:m≤n) (hA:Digs w A l)
  (h:∀ w',Hid (Row w' 133 g (l ++ Z.drop m))→Hid (Below g w w')→wpList Tryz.prog ops Q rest (a.put o.dst (goInt m)) w') :
  wpList Tryz.prog ops Q (o :: rest) a w:=by
 refine wpList_copy_splice hgd d s _ _ ho 133 Tryz.underlying45 Tryz.sizeU32 _ A n dCap m sCap hd hs g 0 (Z.map fun d:Nat=>Value.int .u32 (d:Int)) 133 hR
  (l.map fun d:Nat=>Value.int .u32 (d:Int)) (by simp only [List.length_map,hl];exact (Nat.min_eq_left hm).symm) ?_ (by simp;omega) ?_ g w (Below.refl _ _) (Nat.le_refl _) ?_
 ·intro h0
  obtain ⟨b,off,e,hb,hc⟩:=hA (by simpa using h0)
  refine ⟨rfl,_,e,fun j v hj=>?_⟩
  rw [List.getElem?_map] at hj
  cases hh:l[j]? with
  | none=>rw [hh] at hj;cases hj
  | some x =>
   rw [hh] at hj
   have:=hc j x hh
   simp only [Option.map_some,Option.some.injEq] at hj
   subst hj
   rw [← this]
   unfold Addr.add
   split
   ·subst_vars;rfl
   ·rfl
 ·intro v hv
  obtain ⟨x,_,rfl⟩:=List.mem_map.1 hv
  rfl
 ·intro w' hR' hb'
  have e:(goInt ((l.map fun d:Nat=>Value.int .u32 (d:Int)).length))=goInt m:=by simp [hl]
  rw [e]
  refine h w' ?_ hb'
  have:=hR'.out
  rw [splice_digs l Z om,hl] at this
  exact this
theorem zA6 (l lb p:List Nat) (i c x y q r:Nat) (hx:x=(l[i]?).getD 0) (hy:y=(lb[i]?).getD 0) (hp:p.length=i) (e:c+x+y=q+4294967296*r)
  (h:ofD p+4294967296 ^ i*c=ofD (l.take i)+ofD (lb.take i)) :
  ofD (p ++ [q])+4294967296 ^ (i+1)*r=ofD (l.take (i+1))+ofD (lb.take (i+1)):=by
 rw [zAM l,zAM lb,zBO,hp,← hx,← hy,Nat.pow_succ]
 have:=congrArg (4294967296 ^ i * ·) e
 simp only [Nat.mul_add] at this
 rw [← Nat.mul_assoc] at this
 generalize 4294967296 ^ i=B at *
 generalize B*q=bq at *
 generalize B*y=qy at *
 generalize B*c=qb at *
 generalize B*x=qx at *
 generalize B*4294967296*r=qz at *
 omega
theorem zBw (l:List Nat) (i:Nat):((l ++ [0])[i]?).getD 0=(l[i]?).getD 0:=by
 rcases Nat.lt_trichotomy i l.length with h|h|h
 ·rw [List.getElem?_append_left h]
 ·subst h;simp
 ·rw [List.getElem?_eq_none (by simp;omega),List.getElem?_eq_none om]
theorem twice_le (B c:Nat) (h:1≤c):B+B≤B*4294967296*c:=by
 have:B*4294967296*1≤B*4294967296*c:=Nat.mul_le_mul_left _ h
 rw [Nat.mul_one] at this
 refine Nat.le_trans ?_ this
 rw [← Nat.mul_two]
 exact Nat.mul_le_mul_left _ (by decide)
theorem add_end'' (B C x y z v:Nat) (h1:x < B) (h2:y < C) (h3:C≤B) (h:z+v=x+y) (hv:v=0∨B+B≤v):z=x+y:=by omega
theorem add_end' (B C x y z c:Nat) (h1:x < B) (h2:y < C) (h3:C≤B) (h:z+B*4294967296*c=x+y):z=x+y:=by
 refine add_end'' B C x y z _ h1 h2 h3 h ?_
 rcases Nat.eq_zero_or_pos c with h0|h0
 ·exact .inl (by rw [h0,Nat.mul_zero])
 ·exact .inr (twice_le B c h0)
theorem add_end (l lb p:List Nat) (c:Nat) (hp:p.length=l.length+1) (hm:lb.length≤l.length) (hl:∀ d∈l,d < 4294967296) (hlb:∀ d∈lb,d < 4294967296)
  (h:ofD p+4294967296 ^ (l.length+1)*c=ofD (l.take (l.length+1))+ofD (lb.take (l.length+1))):ofD p=ofD l+ofD lb:=by
 rw [List.take_of_length_le (Nat.le_succ _),List.take_of_length_le (Nat.le_succ_of_le hm),Nat.pow_succ] at h
 have h1:=zBs l hl
 have h2:=zBs lb hlb
 have h3:4294967296 ^ lb.length≤4294967296 ^ l.length:=Nat.pow_le_pow_right (Nat.succ_pos _) hm
 exact add_end' _ _ _ _ _ _ h1 h2 h3 h
set_option maxRecDepth 100000 in
set_option maxHeartbeats 800000 in
theorem Add_ok1 (A B:Option Addr) (k m a b:Nat) (w:World) (ha:IsNat w A k a) (hb:IsNat w B m b) (hk:k≤50000) (hm:m≤50000) (hkm:m≤k) (hbits:bitsN (a+b)≤4096) :
  Calls Tryz.prog 115 #[.agg #[.slice A k k],.agg #[.slice B m m]] w fun e w'=>∃ A' k',e = .returned (.tuple #[.agg #[.slice A' k' k'],.int .i64 0])∧IsNat w' A' k' (a+b)∧k'≤max k m+1∧Ext w w':=by
 have HA0:=ha.1
 have HB0:=hb.1
 have hx0:Ext w (((w.alloc (.cells #[.slice A k k] 47)).alloc (.cells #[.slice B m m] 47)).alloc (.cells #[.slice none 0 0] 47)):=(((Ext.refl w).alloc _).alloc _).alloc _
 have HA:=zH (ha.ext hx0)
 have HB:=zH (hb.ext hx0)
 have HXW:=zH hx0
 have HZ:=zH (Row.zeros (((w.alloc (.cells #[.slice A k k] 47)).alloc (.cells #[.slice B m m] 47)).alloc (.cells #[.slice none 0 0] 47)) 133 (k+1))
 have HZ1:=zH ((HA.out.alloc (.cells (zerosA (k+1)) 133)).2)
 have hlt:¬ ((k:Int) < m):=by omega
 have HK:Hid ((digs a).length=k):=HA.out.1.symm
 have HM:Hid ((digs b).length=m):=HB.out.1.symm
 have hmak:=fun W=>zBC ((k:Int)+1) (k+1) om om W
 have hmk:m≤k:=by omega
 have HBits:=zH hbits
 clear hx0 ha hb HA0 HB0 hbits
 go_enter Tryz.func115,Tryz.ntmps115
 go_wp2_with (with_reducible refine zAn rfl (.tmp 23) (.tmp 25) rfl (w.heap.size+3) (k+1) (k+1) A k k rfl rfl (List.replicate (k+1) 0) (digs a) (by simpa [World.setCell] using HZ.out) (by simp) HK.out om HZ1.out ?_)
 intro w2 HR2 HB2
 have c1:=old HB2.out (b:=w.heap.size+1) (o:=0) (v:=.slice B m m) (by simp [go_sem]) om
 have c2:=old HB2.out (b:=w.heap.size+2) (o:=0) (v:=.slice none 0 0) (by simp [go_sem]) om
 have f2:=oldf HB2.out (b:=w.heap.size+2) (o:=0) (by simp [go_sem]) om
 have hs2:w.heap.size+3 < w2.heap.size:=by have:=Below.size HB2.out;simp at this;omega
 have HR:Hid (Row w2 133 (w.heap.size+3) (digs a ++ [0])):=by
  have:=HR2.out
  have e:List.drop k (List.replicate (k+1) 0)=[0]:=by simp
  first|exact this
 have HXN:Hid (Ext (((w.alloc (.cells #[.slice A k k] 47)).alloc (.cells #[.slice B m m] 47)).alloc (.cells #[.slice none 0 0] 47)) w2):=by
  refine Below.trans (b:=(((w.alloc (.cells #[.slice A k k] 47)).alloc (.cells #[.slice B m m] 47)).alloc (.cells #[.slice none 0 0] 47)).alloc (.cells (zerosA (k+1)) 133)) ((Ext.refl _).alloc _) (Below.mono HB2.out (by simp [World.setCell]))
 have HBd:=zH ((HB.out.ext HXN.out).2)
 have HX2:=zH (HXW.out.trans HXN.out)
 have HNE:Hid (∀ o,B≠some ⟨w.heap.size+3,o,none⟩∨m=0):=by
  intro o
  rcases Nat.eq_zero_or_pos m with h0|h0
  ·exact .inr h0
  ·obtain ⟨b2,o2,d,e,hlt,_⟩:=HB.out.cell 0 h0
   refine .inl ?_
   rw [e];intro he;injection he with he;injection he with h1 _;simp [World.setCell] at hlt;omega
 clear HR2 HB2 HZ HZ1 HA HB HXN HXW
 go_wp2
 go_loopw [7,29] (fun cv i wr=>∃ (j c:Nat) (p:List Nat),j≤k+1∧c≤1∧i = .int .i64 j∧cv = .int .u64 c∧Hid (p.length=j)∧Hid (∀ d∈p,d < 4294967296)∧Hid (Row wr 133 (w.heap.size+3) (p ++ (digs a ++ [0]).drop j))∧Hid (ofD p+4294967296 ^ j*c=ofD ((digs a).take j)+ofD ((digs b).take j))∧Hid (ExtBut (· = w.heap.size+3) w2 wr)) (fun _ i _=>k+1 - (intOf i).toNat)
 case atStart=>exact ⟨0,0,[],Nat.zero_le _,by omega,rfl,rfl,rfl,by simp [Hid],by simpa [Hid] using HR.out,by simp [Hid,ofD],ExtBut.refl _ _⟩
 obtain ⟨j,c,p,hj,hc,rfl,rfl,HP,HPL,HRj,HE,HX⟩:=hrel
 have e1:=HX.out.cell c1 om
 have e2:=HX.out.cell c2 om
 have g2:=HX.out.free f2 om om
 by_cases h0:j < k+1
 ·obtain ⟨x,hx0⟩:∃ x,(digs a ++ [0])[j]? = some x:=⟨_,List.getElem?_eq_getElem (by simp;have:=HK.out;omega)⟩
  have HXX:Hid (x=((digs a)[j]?).getD 0):=by rw [← zBw,hx0];rfl
  have hxl:x < 4294967296:=by rw [HXX.out];exact getD_lt (zAS a) j
  have cx:=HRj.out.cell (zCS HP.out hx0)
  have fx:=HRj.out.free j
  have HX0:=zH hx0
  clear hx0
  have k1:(0:Int)≤(c:Int)+x:=by omega
  by_cases h1:j < m
  ·obtain ⟨b2,o2,eB,hb2,hc2⟩:=HBd.out.cell j (by have:=HM.out;omega)
   have hne2:¬ b2=w.heap.size+3:=fun e=>by rcases HNE.out o2 with h2|h2;exact h2 (by rw [eB,e]);omega
   have hyl:(digs b)[j]'(by have:=HM.out;omega) < 4294967296:=zAS _ _ (List.getElem_mem _)
   have HY:Hid ((digs b)[j]'(by have:=HM.out;omega)=((digs b)[j]?).getD 0):=by rw [List.getElem?_eq_getElem (by have:=HM.out;omega)];rfl
   have cy:=HX.out.cell hc2 hne2
   generalize (digs b)[j]'(by have:=HM.out;omega)=y at *
   obtain ⟨q,hq⟩:∃ q,(c+x+y) % 4294967296=q:=⟨_,rfl⟩
   obtain ⟨r,hr⟩:∃ r,(c+x+y) / 4294967296=r:=⟨_,rfl⟩
   have hqi:((c:Int)+x+y) % 4294967296=q:=by omega
   have hri:((c:Int)+x+y) / 4294967296=r:=by omega
   have HQ:Hid (c+x+y=q+4294967296*r∧q < 4294967296∧r≤1):=⟨by omega,by omega,by omega⟩
   have HS:=zH (zA6 (digs a) (digs b) p j c x y q r HXX.out HY.out HP.out HQ.out.1 HE.out)
   have HRN:=zH (HRj.out.set_ j q)
   have HRN2:Hid (Row (wr.setCell ⟨w.heap.size+3,j,none⟩ (.int .u32 (q:Nat))) 133 (w.heap.size+3) ((p ++ [q]) ++ (digs a ++ [0]).drop (j+1))):=by
    have:=HRN.out;rwa [zAq HP.out HX0.out] at this
   have HXN:=zH (HX.out.setCell (p:=⟨w.heap.size+3,j,none⟩) (.inl rfl) (.int .u32 (q:Nat)))
   clear hq hr hc2 HRN HRj HX HX0 HY
   cases eB
   go_wp2
   go_roundw
   case rel=>exact ⟨j+1,r,p ++ [q],by omega,HQ.out.2.2,by go_num,rfl,by simp [Hid,HP.out],by
    intro d hd
    rcases List.mem_append.1 hd with hd|hd
    ·exact HPL.out d hd
    ·simp at hd;subst hd;exact HQ.out.2.1,HRN2,HS,HXN⟩
   case measure=>simp [intOf];omega
  ·have HY:Hid ((0:Nat)=((digs b)[j]?).getD 0):=by rw [List.getElem?_eq_none (by have:=HM.out;omega)];rfl
   obtain ⟨q,hq⟩:∃ q,(c+x) % 4294967296=q:=⟨_,rfl⟩
   obtain ⟨r,hr⟩:∃ r,(c+x) / 4294967296=r:=⟨_,rfl⟩
   have hqi:((c:Int)+x) % 4294967296=q:=by omega
   have hri:((c:Int)+x) / 4294967296=r:=by omega
   have HQ:Hid (c+x+0=q+4294967296*r∧q < 4294967296∧r≤1):=⟨by omega,by omega,by omega⟩
   have HS:=zH (zA6 (digs a) (digs b) p j c x 0 q r HXX.out HY.out HP.out HQ.out.1 HE.out)
   have HRN:=zH (HRj.out.set_ j q)
   have HRN2:Hid (Row (wr.setCell ⟨w.heap.size+3,j,none⟩ (.int .u32 (q:Nat))) 133 (w.heap.size+3) ((p ++ [q]) ++ (digs a ++ [0]).drop (j+1))):=by
    have:=HRN.out;rwa [zAq HP.out HX0.out] at this
   have HXN:=zH (HX.out.setCell (p:=⟨w.heap.size+3,j,none⟩) (.inl rfl) (.int .u32 (q:Nat)))
   clear hq hr HRN HRj HX HX0 HY
   go_wp2
   go_roundw
   case rel=>exact ⟨j+1,r,p ++ [q],by omega,HQ.out.2.2,by go_num,rfl,by simp [Hid,HP.out],by
    intro d hd
    rcases List.mem_append.1 hd with hd|hd
    ·exact HPL.out d hd
    ·simp at hd;subst hd;exact HQ.out.2.1,HRN2,HS,HXN⟩
   case measure=>simp [intOf];omega
 ·have hjk:j=k+1:=by omega
  have HRow:Hid (Row wr 133 (w.heap.size+3) p):=by
   have:=HRj.out
   rwa [List.drop_eq_nil_of_le (by simp;have:=HK.out;omega),List.append_nil] at this
  have HSum:Hid (ofD p=a+b):=by
   have:=add_end (digs a) (digs b) p c (by rw [HP.out,HK.out,hjk]) (by rw [HK.out,HM.out];exact hmk) (zAS _) (zAS _) (by rw [HK.out,← hjk];exact HE.out)
   rw [zAH,zAH] at this
   unfold Hid;omega
  have HXr:=zH (HX2.out.but HX.out (by rintro g rfl;omega))
  have HCut:=zH (zBU (some ⟨w.heap.size+3,0,none⟩) (k+1) (k+1) p wr (by rw [HP.out,hjk]) (Nat.le_refl _) om HPL.out HRow.out.digs)
  have HJ:=zH hjk
  clear hjk HRj HX HP HPL HE
  go_wp2_with fail
  refine HCut.out.mono ?_
  rintro e w4 ⟨k4,rfl,hn4,hk4,hx4⟩
  have i2:=hx4.cell e2
  have i3:=hx4.free g2 (zAA e2)
  rw [HSum.out] at hn4
  have HX4:=zH (HXr.out.trans hx4)
  have HFits:=zH (fits_ok _ k4 (a+b) w4 hn4 om HBits.out)
  have HN4:=zH hn4
  clear hx4 e1 e2 g2 HCut hn4
  go_wp2_with fail
  refine HFits.out.mono ?_
  rintro e w5 ⟨rfl,hx5⟩
  have j2:=hx5.cell i2
  have j3:=hx5.free i3 (zAA i2)
  have j4:=setc (v:=.slice (some ⟨w.heap.size+3,0,none⟩) k4 k4) j2
  have HX5:=zH (HX4.out.trans hx5)
  have HN5:=zH (HN4.out.ext hx5)
  clear hx5 i2 i3
  go_wp2
  refine bodyPost_ret (v:=.tuple #[.agg #[.slice (some ⟨w.heap.size+3,0,none⟩) k4 k4],.int .i64 0]) (by simp [results,Tryz.results115,go_sem,j4]) rfl ⟨_,k4,rfl,HN5.out.set_ _ (by intro o' he;injection he with he;injection he with h1 _;omega),by omega,HX5.out.setCell (p:=⟨w.heap.size+2,0,none⟩) (by simp only [];omega) _⟩
set_option maxRecDepth 100000 in
set_option maxHeartbeats 800000 in
theorem Add_ok2 (A B:Option Addr) (k m a b:Nat) (w:World) (ha:IsNat w A k a) (hb:IsNat w B m b) (hk:k≤50000) (hm:m≤50000) (hkm:k < m) (hbits:bitsN (a+b)≤4096) :
  Calls Tryz.prog 115 #[.agg #[.slice A k k],.agg #[.slice B m m]] w fun e w'=>∃ A' k',e = .returned (.tuple #[.agg #[.slice A' k' k'],.int .i64 0])∧IsNat w' A' k' (a+b)∧k'≤max k m+1∧Ext w w':=by
 have HA0:=ha.1
 have HB0:=hb.1
 have hx0:Ext w (((w.alloc (.cells #[.slice B m m] 47)).alloc (.cells #[.slice A k k] 47)).alloc (.cells #[.slice none 0 0] 47)):=(((Ext.refl w).alloc _).alloc _).alloc _
 have HA:=zH (hb.ext hx0)
 have HB:=zH (ha.ext hx0)
 have HXW:=zH hx0
 have HZ:=zH (Row.zeros (((w.alloc (.cells #[.slice B m m] 47)).alloc (.cells #[.slice A k k] 47)).alloc (.cells #[.slice none 0 0] 47)) 133 (m+1))
 have HZ1:=zH ((HA.out.alloc (.cells (zerosA (m+1)) 133)).2)
 have hlt:(k:Int) < m:=by omega
 have HK:Hid ((digs b).length=m):=HA.out.1.symm
 have HM:Hid ((digs a).length=k):=HB.out.1.symm
 have hmak:=fun W=>zBC ((m:Int)+1) (m+1) om om W
 have hmk:k≤m:=by omega
 have HBits:=zH hbits
 clear hx0 ha hb HA0 HB0 hbits
 go_enter Tryz.func115,Tryz.ntmps115
 go_wp2_with (with_reducible refine zAn rfl (.tmp 23) (.tmp 25) rfl (w.heap.size+3) (m+1) (m+1) B m m rfl rfl (List.replicate (m+1) 0) (digs b) (by simpa [World.setCell] using HZ.out) (by simp) HK.out om HZ1.out ?_)
 intro w2 HR2 HB2
 have c1:=old HB2.out (b:=w.heap.size+1) (o:=0) (v:=.slice A k k) (by simp [go_sem]) om
 have c2:=old HB2.out (b:=w.heap.size+2) (o:=0) (v:=.slice none 0 0) (by simp [go_sem]) om
 have f2:=oldf HB2.out (b:=w.heap.size+2) (o:=0) (by simp [go_sem]) om
 have hs2:w.heap.size+3 < w2.heap.size:=by have:=Below.size HB2.out;simp at this;omega
 have HR:Hid (Row w2 133 (w.heap.size+3) (digs b ++ [0])):=by
  have:=HR2.out
  have e:List.drop m (List.replicate (m+1) 0)=[0]:=by simp
  first|exact this
 have HXN:Hid (Ext (((w.alloc (.cells #[.slice B m m] 47)).alloc (.cells #[.slice A k k] 47)).alloc (.cells #[.slice none 0 0] 47)) w2):=by
  refine Below.trans (b:=(((w.alloc (.cells #[.slice B m m] 47)).alloc (.cells #[.slice A k k] 47)).alloc (.cells #[.slice none 0 0] 47)).alloc (.cells (zerosA (m+1)) 133)) ((Ext.refl _).alloc _) (Below.mono HB2.out (by simp [World.setCell]))
 have HBd:=zH ((HB.out.ext HXN.out).2)
 have HX2:=zH (HXW.out.trans HXN.out)
 have HNE:Hid (∀ o,A≠some ⟨w.heap.size+3,o,none⟩∨k=0):=by
  intro o
  rcases Nat.eq_zero_or_pos k with h0|h0
  ·exact .inr h0
  ·obtain ⟨b2,o2,d,e,hlt,_⟩:=HB.out.cell 0 h0
   refine .inl ?_
   rw [e];intro he;injection he with he;injection he with h1 _;simp [World.setCell] at hlt;omega
 clear HR2 HB2 HZ HZ1 HA HB HXN HXW
 go_wp2
 go_loopw [7,29] (fun cv i wr=>∃ (j c:Nat) (p:List Nat),j≤m+1∧c≤1∧i = .int .i64 j∧cv = .int .u64 c∧Hid (p.length=j)∧Hid (∀ d∈p,d < 4294967296)∧Hid (Row wr 133 (w.heap.size+3) (p ++ (digs b ++ [0]).drop j))∧Hid (ofD p+4294967296 ^ j*c=ofD ((digs b).take j)+ofD ((digs a).take j))∧Hid (ExtBut (· = w.heap.size+3) w2 wr)) (fun _ i _=>m+1 - (intOf i).toNat)
 case atStart=>exact ⟨0,0,[],Nat.zero_le _,by omega,rfl,rfl,rfl,by simp [Hid],by simpa [Hid] using HR.out,by simp [Hid,ofD],ExtBut.refl _ _⟩
 obtain ⟨j,c,p,hj,hc,rfl,rfl,HP,HPL,HRj,HE,HX⟩:=hrel
 have e1:=HX.out.cell c1 om
 have e2:=HX.out.cell c2 om
 have g2:=HX.out.free f2 om om
 by_cases h0:j < m+1
 ·obtain ⟨x,hx0⟩:∃ x,(digs b ++ [0])[j]? = some x:=⟨_,List.getElem?_eq_getElem (by simp;have:=HK.out;omega)⟩
  have HXX:Hid (x=((digs b)[j]?).getD 0):=by rw [← zBw,hx0];rfl
  have hxl:x < 4294967296:=by rw [HXX.out];exact getD_lt (zAS b) j
  have cx:=HRj.out.cell (zCS HP.out hx0)
  have fx:=HRj.out.free j
  have HX0:=zH hx0
  clear hx0
  have k1:(0:Int)≤(c:Int)+x:=by omega
  by_cases h1:j < k
  ·obtain ⟨b2,o2,eB,hb2,hc2⟩:=HBd.out.cell j (by have:=HM.out;omega)
   have hne2:¬ b2=w.heap.size+3:=fun e=>by rcases HNE.out o2 with h2|h2;exact h2 (by rw [eB,e]);omega
   have hyl:(digs a)[j]'(by have:=HM.out;omega) < 4294967296:=zAS _ _ (List.getElem_mem _)
   have HY:Hid ((digs a)[j]'(by have:=HM.out;omega)=((digs a)[j]?).getD 0):=by rw [List.getElem?_eq_getElem (by have:=HM.out;omega)];rfl
   have cy:=HX.out.cell hc2 hne2
   generalize (digs a)[j]'(by have:=HM.out;omega)=y at *
   obtain ⟨q,hq⟩:∃ q,(c+x+y) % 4294967296=q:=⟨_,rfl⟩
   obtain ⟨r,hr⟩:∃ r,(c+x+y) / 4294967296=r:=⟨_,rfl⟩
   have hqi:((c:Int)+x+y) % 4294967296=q:=by omega
   have hri:((c:Int)+x+y) / 4294967296=r:=by omega
   have HQ:Hid (c+x+y=q+4294967296*r∧q < 4294967296∧r≤1):=⟨by omega,by omega,by omega⟩
   have HS:=zH (zA6 (digs b) (digs a) p j c x y q r HXX.out HY.out HP.out HQ.out.1 HE.out)
   have HRN:=zH (HRj.out.set_ j q)
   have HRN2:Hid (Row (wr.setCell ⟨w.heap.size+3,j,none⟩ (.int .u32 (q:Nat))) 133 (w.heap.size+3) ((p ++ [q]) ++ (digs b ++ [0]).drop (j+1))):=by
    have:=HRN.out;rwa [zAq HP.out HX0.out] at this
   have HXN:=zH (HX.out.setCell (p:=⟨w.heap.size+3,j,none⟩) (.inl rfl) (.int .u32 (q:Nat)))
   clear hq hr hc2 HRN HRj HX HX0 HY
   cases eB
   go_wp2
   go_roundw
   case rel=>exact ⟨j+1,r,p ++ [q],by omega,HQ.out.2.2,by go_num,rfl,by simp [Hid,HP.out],by
    intro d hd
    rcases List.mem_append.1 hd with hd|hd
    ·exact HPL.out d hd
    ·simp at hd;subst hd;exact HQ.out.2.1,HRN2,HS,HXN⟩
   case measure=>simp [intOf];omega
  ·have HY:Hid ((0:Nat)=((digs a)[j]?).getD 0):=by rw [List.getElem?_eq_none (by have:=HM.out;omega)];rfl
   obtain ⟨q,hq⟩:∃ q,(c+x) % 4294967296=q:=⟨_,rfl⟩
   obtain ⟨r,hr⟩:∃ r,(c+x) / 4294967296=r:=⟨_,rfl⟩
   have hqi:((c:Int)+x) % 4294967296=q:=by omega
   have hri:((c:Int)+x) / 4294967296=r:=by omega
   have HQ:Hid (c+x+0=q+4294967296*r∧q < 4294967296∧r≤1):=⟨by omega,by omega,by omega⟩
   have HS:=zH (zA6 (digs b) (digs a) p j c x 0 q r HXX.out HY.out HP.out HQ.out.1 HE.out)
   have HRN:=zH (HRj.out.set_ j q)
   have HRN2:Hid (Row (wr.setCell ⟨w.heap.size+3,j,none⟩ (.int .u32 (q:Nat))) 133 (w.heap.size+3) ((p ++ [q]) ++ (digs b ++ [0]).drop (j+1))):=by
    have:=HRN.out;rwa [zAq HP.out HX0.out] at this
   have HXN:=zH (HX.out.setCell (p:=⟨w.heap.size+3,j,none⟩) (.inl rfl) (.int .u32 (q:Nat)))
   clear hq hr HRN HRj HX HX0 HY
   go_wp2
   go_roundw
   case rel=>exact ⟨j+1,r,p ++ [q],by omega,HQ.out.2.2,by go_num,rfl,by simp [Hid,HP.out],by
    intro d hd
    rcases List.mem_append.1 hd with hd|hd
    ·exact HPL.out d hd
    ·simp at hd;subst hd;exact HQ.out.2.1,HRN2,HS,HXN⟩
   case measure=>simp [intOf];omega
 ·have hjk:j=m+1:=by omega
  have HRow:Hid (Row wr 133 (w.heap.size+3) p):=by
   have:=HRj.out
   rwa [List.drop_eq_nil_of_le (by simp;have:=HK.out;omega),List.append_nil] at this
  have HSum:Hid (ofD p=a+b):=by
   have:=add_end (digs b) (digs a) p c (by rw [HP.out,HK.out,hjk]) (by rw [HK.out,HM.out];exact hmk) (zAS _) (zAS _) (by rw [HK.out,← hjk];exact HE.out)
   rw [zAH,zAH] at this
   unfold Hid;omega
  have HXr:=zH (HX2.out.but HX.out (by rintro g rfl;omega))
  have HCut:=zH (zBU (some ⟨w.heap.size+3,0,none⟩) (m+1) (m+1) p wr (by rw [HP.out,hjk]) (Nat.le_refl _) om HPL.out HRow.out.digs)
  have HJ:=zH hjk
  clear hjk HRj HX HP HPL HE
  go_wp2_with fail
  refine HCut.out.mono ?_
  rintro e w4 ⟨k4,rfl,hn4,hk4,hx4⟩
  have i2:=hx4.cell e2
  have i3:=hx4.free g2 (zAA e2)
  rw [HSum.out] at hn4
  have HX4:=zH (HXr.out.trans hx4)
  have HFits:=zH (fits_ok _ k4 (a+b) w4 hn4 om HBits.out)
  have HN4:=zH hn4
  clear hx4 e1 e2 g2 HCut hn4
  go_wp2_with fail
  refine HFits.out.mono ?_
  rintro e w5 ⟨rfl,hx5⟩
  have j2:=hx5.cell i2
  have j3:=hx5.free i3 (zAA i2)
  have j4:=setc (v:=.slice (some ⟨w.heap.size+3,0,none⟩) k4 k4) j2
  have HX5:=zH (HX4.out.trans hx5)
  have HN5:=zH (HN4.out.ext hx5)
  clear hx5 i2 i3
  go_wp2
  refine bodyPost_ret (v:=.tuple #[.agg #[.slice (some ⟨w.heap.size+3,0,none⟩) k4 k4],.int .i64 0]) (by simp [results,Tryz.results115,go_sem,j4]) rfl ⟨_,k4,rfl,HN5.out.set_ _ (by intro o' he;injection he with he;injection he with h1 _;omega),by omega,HX5.out.setCell (p:=⟨w.heap.size+2,0,none⟩) (by simp only [];omega) _⟩
set_option maxRecDepth 100000 in
set_option maxHeartbeats 800000 in
theorem Add_long1 (A B:Option Addr) (k m a b:Nat) (w:World) (ha:IsNat w A k a) (hb:IsNat w B m b) (hk:k≤50000) (hm:m≤50000) (hkm:m≤k) (hbits:4096 < bitsN (a+b)) :
  Calls Tryz.prog 115 #[.agg #[.slice A k k],.agg #[.slice B m m]] w fun e w'=>e = .returned (.tuple #[.agg #[.slice none 0 0],.int .i64 3])∧Ext w w':=by
 have HA0:=ha.1
 have HB0:=hb.1
 have hx0:Ext w (((w.alloc (.cells #[.slice A k k] 47)).alloc (.cells #[.slice B m m] 47)).alloc (.cells #[.slice none 0 0] 47)):=(((Ext.refl w).alloc _).alloc _).alloc _
 have HA:=zH (ha.ext hx0)
 have HB:=zH (hb.ext hx0)
 have HXW:=zH hx0
 have HZ:=zH (Row.zeros (((w.alloc (.cells #[.slice A k k] 47)).alloc (.cells #[.slice B m m] 47)).alloc (.cells #[.slice none 0 0] 47)) 133 (k+1))
 have HZ1:=zH ((HA.out.alloc (.cells (zerosA (k+1)) 133)).2)
 have hlt:¬ ((k:Int) < m):=by omega
 have HK:Hid ((digs a).length=k):=HA.out.1.symm
 have HM:Hid ((digs b).length=m):=HB.out.1.symm
 have hmak:=fun W=>zBC ((k:Int)+1) (k+1) om om W
 have hmk:m≤k:=by omega
 have HBits:=zH hbits
 clear hx0 ha hb HA0 HB0 hbits
 go_enter Tryz.func115,Tryz.ntmps115
 go_wp2_with (with_reducible refine zAn rfl (.tmp 23) (.tmp 25) rfl (w.heap.size+3) (k+1) (k+1) A k k rfl rfl (List.replicate (k+1) 0) (digs a) (by simpa [World.setCell] using HZ.out) (by simp) HK.out om HZ1.out ?_)
 intro w2 HR2 HB2
 have c1:=old HB2.out (b:=w.heap.size+1) (o:=0) (v:=.slice B m m) (by simp [go_sem]) om
 have c2:=old HB2.out (b:=w.heap.size+2) (o:=0) (v:=.slice none 0 0) (by simp [go_sem]) om
 have f2:=oldf HB2.out (b:=w.heap.size+2) (o:=0) (by simp [go_sem]) om
 have hs2:w.heap.size+3 < w2.heap.size:=by have:=Below.size HB2.out;simp at this;omega
 have HR:Hid (Row w2 133 (w.heap.size+3) (digs a ++ [0])):=by
  have:=HR2.out
  have e:List.drop k (List.replicate (k+1) 0)=[0]:=by simp
  first|exact this
 have HXN:Hid (Ext (((w.alloc (.cells #[.slice A k k] 47)).alloc (.cells #[.slice B m m] 47)).alloc (.cells #[.slice none 0 0] 47)) w2):=by
  refine Below.trans (b:=(((w.alloc (.cells #[.slice A k k] 47)).alloc (.cells #[.slice B m m] 47)).alloc (.cells #[.slice none 0 0] 47)).alloc (.cells (zerosA (k+1)) 133)) ((Ext.refl _).alloc _) (Below.mono HB2.out (by simp [World.setCell]))
 have HBd:=zH ((HB.out.ext HXN.out).2)
 have HX2:=zH (HXW.out.trans HXN.out)
 have HNE:Hid (∀ o,B≠some ⟨w.heap.size+3,o,none⟩∨m=0):=by
  intro o
  rcases Nat.eq_zero_or_pos m with h0|h0
  ·exact .inr h0
  ·obtain ⟨b2,o2,d,e,hlt,_⟩:=HB.out.cell 0 h0
   refine .inl ?_
   rw [e];intro he;injection he with he;injection he with h1 _;simp [World.setCell] at hlt;omega
 clear HR2 HB2 HZ HZ1 HA HB HXN HXW
 go_wp2
 go_loopw [7,29] (fun cv i wr=>∃ (j c:Nat) (p:List Nat),j≤k+1∧c≤1∧i = .int .i64 j∧cv = .int .u64 c∧Hid (p.length=j)∧Hid (∀ d∈p,d < 4294967296)∧Hid (Row wr 133 (w.heap.size+3) (p ++ (digs a ++ [0]).drop j))∧Hid (ofD p+4294967296 ^ j*c=ofD ((digs a).take j)+ofD ((digs b).take j))∧Hid (ExtBut (· = w.heap.size+3) w2 wr)) (fun _ i _=>k+1 - (intOf i).toNat)
 case atStart=>exact ⟨0,0,[],Nat.zero_le _,by omega,rfl,rfl,rfl,by simp [Hid],by simpa [Hid] using HR.out,by simp [Hid,ofD],ExtBut.refl _ _⟩
 obtain ⟨j,c,p,hj,hc,rfl,rfl,HP,HPL,HRj,HE,HX⟩:=hrel
 have e1:=HX.out.cell c1 om
 have e2:=HX.out.cell c2 om
 have g2:=HX.out.free f2 om om
 by_cases h0:j < k+1
 ·obtain ⟨x,hx0⟩:∃ x,(digs a ++ [0])[j]? = some x:=⟨_,List.getElem?_eq_getElem (by simp;have:=HK.out;omega)⟩
  have HXX:Hid (x=((digs a)[j]?).getD 0):=by rw [← zBw,hx0];rfl
  have hxl:x < 4294967296:=by rw [HXX.out];exact getD_lt (zAS a) j
  have cx:=HRj.out.cell (zCS HP.out hx0)
  have fx:=HRj.out.free j
  have HX0:=zH hx0
  clear hx0
  have k1:(0:Int)≤(c:Int)+x:=by omega
  by_cases h1:j < m
  ·obtain ⟨b2,o2,eB,hb2,hc2⟩:=HBd.out.cell j (by have:=HM.out;omega)
   have hne2:¬ b2=w.heap.size+3:=fun e=>by rcases HNE.out o2 with h2|h2;exact h2 (by rw [eB,e]);omega
   have hyl:(digs b)[j]'(by have:=HM.out;omega) < 4294967296:=zAS _ _ (List.getElem_mem _)
   have HY:Hid ((digs b)[j]'(by have:=HM.out;omega)=((digs b)[j]?).getD 0):=by rw [List.getElem?_eq_getElem (by have:=HM.out;omega)];rfl
   have cy:=HX.out.cell hc2 hne2
   generalize (digs b)[j]'(by have:=HM.out;omega)=y at *
   obtain ⟨q,hq⟩:∃ q,(c+x+y) % 4294967296=q:=⟨_,rfl⟩
   obtain ⟨r,hr⟩:∃ r,(c+x+y) / 4294967296=r:=⟨_,rfl⟩
   have hqi:((c:Int)+x+y) % 4294967296=q:=by omega
   have hri:((c:Int)+x+y) / 4294967296=r:=by omega
   have HQ:Hid (c+x+y=q+4294967296*r∧q < 4294967296∧r≤1):=⟨by omega,by omega,by omega⟩
   have HS:=zH (zA6 (digs a) (digs b) p j c x y q r HXX.out HY.out HP.out HQ.out.1 HE.out)
   have HRN:=zH (HRj.out.set_ j q)
   have HRN2:Hid (Row (wr.setCell ⟨w.heap.size+3,j,none⟩ (.int .u32 (q:Nat))) 133 (w.heap.size+3) ((p ++ [q]) ++ (digs a ++ [0]).drop (j+1))):=by
    have:=HRN.out;rwa [zAq HP.out HX0.out] at this
   have HXN:=zH (HX.out.setCell (p:=⟨w.heap.size+3,j,none⟩) (.inl rfl) (.int .u32 (q:Nat)))
   clear hq hr hc2 HRN HRj HX HX0 HY
   cases eB
   go_wp2
   go_roundw
   case rel=>exact ⟨j+1,r,p ++ [q],by omega,HQ.out.2.2,by go_num,rfl,by simp [Hid,HP.out],by
    intro d hd
    rcases List.mem_append.1 hd with hd|hd
    ·exact HPL.out d hd
    ·simp at hd;subst hd;exact HQ.out.2.1,HRN2,HS,HXN⟩
   case measure=>simp [intOf];omega
  ·have HY:Hid ((0:Nat)=((digs b)[j]?).getD 0):=by rw [List.getElem?_eq_none (by have:=HM.out;omega)];rfl
   obtain ⟨q,hq⟩:∃ q,(c+x) % 4294967296=q:=⟨_,rfl⟩
   obtain ⟨r,hr⟩:∃ r,(c+x) / 4294967296=r:=⟨_,rfl⟩
   have hqi:((c:Int)+x) % 4294967296=q:=by omega
   have hri:((c:Int)+x) / 4294967296=r:=by omega
   have HQ:Hid (c+x+0=q+4294967296*r∧q < 4294967296∧r≤1):=⟨by omega,by omega,by omega⟩
   have HS:=zH (zA6 (digs a) (digs b) p j c x 0 q r HXX.out HY.out HP.out HQ.out.1 HE.out)
   have HRN:=zH (HRj.out.set_ j q)
   have HRN2:Hid (Row (wr.setCell ⟨w.heap.size+3,j,none⟩ (.int .u32 (q:Nat))) 133 (w.heap.size+3) ((p ++ [q]) ++ (digs a ++ [0]).drop (j+1))):=by
    have:=HRN.out;rwa [zAq HP.out HX0.out] at this
   have HXN:=zH (HX.out.setCell (p:=⟨w.heap.size+3,j,none⟩) (.inl rfl) (.int .u32 (q:Nat)))
   clear hq hr HRN HRj HX HX0 HY
   go_wp2
   go_roundw
   case rel=>exact ⟨j+1,r,p ++ [q],by omega,HQ.out.2.2,by go_num,rfl,by simp [Hid,HP.out],by
    intro d hd
    rcases List.mem_append.1 hd with hd|hd
    ·exact HPL.out d hd
    ·simp at hd;subst hd;exact HQ.out.2.1,HRN2,HS,HXN⟩
   case measure=>simp [intOf];omega
 ·have hjk:j=k+1:=by omega
  have HRow:Hid (Row wr 133 (w.heap.size+3) p):=by
   have:=HRj.out
   rwa [List.drop_eq_nil_of_le (by simp;have:=HK.out;omega),List.append_nil] at this
  have HSum:Hid (ofD p=a+b):=by
   have:=add_end (digs a) (digs b) p c (by rw [HP.out,HK.out,hjk]) (by rw [HK.out,HM.out];exact hmk) (zAS _) (zAS _) (by rw [HK.out,← hjk];exact HE.out)
   rw [zAH,zAH] at this
   unfold Hid;omega
  have HXr:=zH (HX2.out.but HX.out (by rintro g rfl;omega))
  have HCut:=zH (zBU (some ⟨w.heap.size+3,0,none⟩) (k+1) (k+1) p wr (by rw [HP.out,hjk]) (Nat.le_refl _) om HPL.out HRow.out.digs)
  have HJ:=zH hjk
  clear hjk HRj HX HP HPL HE
  go_wp2_with fail
  refine HCut.out.mono ?_
  rintro e w4 ⟨k4,rfl,hn4,hk4,hx4⟩
  have i2:=hx4.cell e2
  have i3:=hx4.free g2 (zAA e2)
  rw [HSum.out] at hn4
  have HX4:=zH (HXr.out.trans hx4)
  have HFits:=zH (zDB _ k4 (a+b) w4 hn4 om HBits.out)
  have HN4:=zH hn4
  clear hx4 e1 e2 g2 HCut hn4
  go_wp2_with fail
  refine HFits.out.mono ?_
  rintro e w5 ⟨rfl,hx5⟩
  have j2:=hx5.cell i2
  have j3:=hx5.free i3 (zAA i2)
  have j4:=setc (v:=.slice none 0 0) j2
  have HX5:=zH (HX4.out.trans hx5)
  clear hx5 i2 i3
  go_wp2
  refine bodyPost_ret (v:=.tuple #[.agg #[.slice none 0 0],.int .i64 3]) (by simp [results,Tryz.results115,go_sem,j4]) rfl ⟨rfl,HX5.out.setCell (p:=⟨w.heap.size+2,0,none⟩) (by simp only [];omega) _⟩
set_option maxRecDepth 100000 in
set_option maxHeartbeats 800000 in
theorem Add_long2 (A B:Option Addr) (k m a b:Nat) (w:World) (ha:IsNat w A k a) (hb:IsNat w B m b) (hk:k≤50000) (hm:m≤50000) (hkm:k < m) (hbits:4096 < bitsN (a+b)) :
  Calls Tryz.prog 115 #[.agg #[.slice A k k],.agg #[.slice B m m]] w fun e w'=>e = .returned (.tuple #[.agg #[.slice none 0 0],.int .i64 3])∧Ext w w':=by
 have HA0:=ha.1
 have HB0:=hb.1
 have hx0:Ext w (((w.alloc (.cells #[.slice B m m] 47)).alloc (.cells #[.slice A k k] 47)).alloc (.cells #[.slice none 0 0] 47)):=(((Ext.refl w).alloc _).alloc _).alloc _
 have HA:=zH (hb.ext hx0)
 have HB:=zH (ha.ext hx0)
 have HXW:=zH hx0
 have HZ:=zH (Row.zeros (((w.alloc (.cells #[.slice B m m] 47)).alloc (.cells #[.slice A k k] 47)).alloc (.cells #[.slice none 0 0] 47)) 133 (m+1))
 have HZ1:=zH ((HA.out.alloc (.cells (zerosA (m+1)) 133)).2)
 have hlt:(k:Int) < m:=by omega
 have HK:Hid ((digs b).length=m):=HA.out.1.symm
 have HM:Hid ((digs a).length=k):=HB.out.1.symm
 have hmak:=fun W=>zBC ((m:Int)+1) (m+1) om om W
 have hmk:k≤m:=by omega
 have HBits:=zH hbits
 clear hx0 ha hb HA0 HB0 hbits
 go_enter Tryz.func115,Tryz.ntmps115
 go_wp2_with (with_reducible refine zAn rfl (.tmp 23) (.tmp 25) rfl (w.heap.size+3) (m+1) (m+1) B m m rfl rfl (List.replicate (m+1) 0) (digs b) (by simpa [World.setCell] using HZ.out) (by simp) HK.out om HZ1.out ?_)
 intro w2 HR2 HB2
 have c1:=old HB2.out (b:=w.heap.size+1) (o:=0) (v:=.slice A k k) (by simp [go_sem]) om
 have c2:=old HB2.out (b:=w.heap.size+2) (o:=0) (v:=.slice none 0 0) (by simp [go_sem]) om
 have f2:=oldf HB2.out (b:=w.heap.size+2) (o:=0) (by simp [go_sem]) om
 have hs2:w.heap.size+3 < w2.heap.size:=by have:=Below.size HB2.out;simp at this;omega
 have HR:Hid (Row w2 133 (w.heap.size+3) (digs b ++ [0])):=by
  have:=HR2.out
  have e:List.drop m (List.replicate (m+1) 0)=[0]:=by simp
  first|exact this
 have HXN:Hid (Ext (((w.alloc (.cells #[.slice B m m] 47)).alloc (.cells #[.slice A k k] 47)).alloc (.cells #[.slice none 0 0] 47)) w2):=by
  refine Below.trans (b:=(((w.alloc (.cells #[.slice B m m] 47)).alloc (.cells #[.slice A k k] 47)).alloc (.cells #[.slice none 0 0] 47)).alloc (.cells (zerosA (m+1)) 133)) ((Ext.refl _).alloc _) (Below.mono HB2.out (by simp [World.setCell]))
 have HBd:=zH ((HB.out.ext HXN.out).2)
 have HX2:=zH (HXW.out.trans HXN.out)
 have HNE:Hid (∀ o,A≠some ⟨w.heap.size+3,o,none⟩∨k=0):=by
  intro o
  rcases Nat.eq_zero_or_pos k with h0|h0
  ·exact .inr h0
  ·obtain ⟨b2,o2,d,e,hlt,_⟩:=HB.out.cell 0 h0
   refine .inl ?_
   rw [e];intro he;injection he with he;injection he with h1 _;simp [World.setCell] at hlt;omega
 clear HR2 HB2 HZ HZ1 HA HB HXN HXW
 go_wp2
 go_loopw [7,29] (fun cv i wr=>∃ (j c:Nat) (p:List Nat),j≤m+1∧c≤1∧i = .int .i64 j∧cv = .int .u64 c∧Hid (p.length=j)∧Hid (∀ d∈p,d < 4294967296)∧Hid (Row wr 133 (w.heap.size+3) (p ++ (digs b ++ [0]).drop j))∧Hid (ofD p+4294967296 ^ j*c=ofD ((digs b).take j)+ofD ((digs a).take j))∧Hid (ExtBut (· = w.heap.size+3) w2 wr)) (fun _ i _=>m+1 - (intOf i).toNat)
 case atStart=>exact ⟨0,0,[],Nat.zero_le _,by omega,rfl,rfl,rfl,by simp [Hid],by simpa [Hid] using HR.out,by simp [Hid,ofD],ExtBut.refl _ _⟩
 obtain ⟨j,c,p,hj,hc,rfl,rfl,HP,HPL,HRj,HE,HX⟩:=hrel
 have e1:=HX.out.cell c1 om
 have e2:=HX.out.cell c2 om
 have g2:=HX.out.free f2 om om
 by_cases h0:j < m+1
 ·obtain ⟨x,hx0⟩:∃ x,(digs b ++ [0])[j]? = some x:=⟨_,List.getElem?_eq_getElem (by simp;have:=HK.out;omega)⟩
  have HXX:Hid (x=((digs b)[j]?).getD 0):=by rw [← zBw,hx0];rfl
  have hxl:x < 4294967296:=by rw [HXX.out];exact getD_lt (zAS b) j
  have cx:=HRj.out.cell (zCS HP.out hx0)
  have fx:=HRj.out.free j
  have HX0:=zH hx0
  clear hx0
  have k1:(0:Int)≤(c:Int)+x:=by omega
  by_cases h1:j < k
  ·obtain ⟨b2,o2,eB,hb2,hc2⟩:=HBd.out.cell j (by have:=HM.out;omega)
   have hne2:¬ b2=w.heap.size+3:=fun e=>by rcases HNE.out o2 with h2|h2;exact h2 (by rw [eB,e]);omega
   have hyl:(digs a)[j]'(by have:=HM.out;omega) < 4294967296:=zAS _ _ (List.getElem_mem _)
   have HY:Hid ((digs a)[j]'(by have:=HM.out;omega)=((digs a)[j]?).getD 0):=by rw [List.getElem?_eq_getElem (by have:=HM.out;omega)];rfl
   have cy:=HX.out.cell hc2 hne2
   generalize (digs a)[j]'(by have:=HM.out;omega)=y at *
   obtain ⟨q,hq⟩:∃ q,(c+x+y) % 4294967296=q:=⟨_,rfl⟩
   obtain ⟨r,hr⟩:∃ r,(c+x+y) / 4294967296=r:=⟨_,rfl⟩
   have hqi:((c:Int)+x+y) % 4294967296=q:=by omega
   have hri:((c:Int)+x+y) / 4294967296=r:=by omega
   have HQ:Hid (c+x+y=q+4294967296*r∧q < 4294967296∧r≤1):=⟨by omega,by omega,by omega⟩
   have HS:=zH (zA6 (digs b) (digs a) p j c x y q r HXX.out HY.out HP.out HQ.out.1 HE.out)
   have HRN:=zH (HRj.out.set_ j q)
   have HRN2:Hid (Row (wr.setCell ⟨w.heap.size+3,j,none⟩ (.int .u32 (q:Nat))) 133 (w.heap.size+3) ((p ++ [q]) ++ (digs b ++ [0]).drop (j+1))):=by
    have:=HRN.out;rwa [zAq HP.out HX0.out] at this
   have HXN:=zH (HX.out.setCell (p:=⟨w.heap.size+3,j,none⟩) (.inl rfl) (.int .u32 (q:Nat)))
   clear hq hr hc2 HRN HRj HX HX0 HY
   cases eB
   go_wp2
   go_roundw
   case rel=>exact ⟨j+1,r,p ++ [q],by omega,HQ.out.2.2,by go_num,rfl,by simp [Hid,HP.out],by
    intro d hd
    rcases List.mem_append.1 hd with hd|hd
    ·exact HPL.out d hd
    ·simp at hd;subst hd;exact HQ.out.2.1,HRN2,HS,HXN⟩
   case measure=>simp [intOf];omega
  ·have HY:Hid ((0:Nat)=((digs a)[j]?).getD 0):=by rw [List.getElem?_eq_none (by have:=HM.out;omega)];rfl
   obtain ⟨q,hq⟩:∃ q,(c+x) % 4294967296=q:=⟨_,rfl⟩
   obtain ⟨r,hr⟩:∃ r,(c+x) / 4294967296=r:=⟨_,rfl⟩
   have hqi:((c:Int)+x) % 4294967296=q:=by omega
   have hri:((c:Int)+x) / 4294967296=r:=by omega
   have HQ:Hid (c+x+0=q+4294967296*r∧q < 4294967296∧r≤1):=⟨by omega,by omega,by omega⟩
   have HS:=zH (zA6 (digs b) (digs a) p j c x 0 q r HXX.out HY.out HP.out HQ.out.1 HE.out)
   have HRN:=zH (HRj.out.set_ j q)
   have HRN2:Hid (Row (wr.setCell ⟨w.heap.size+3,j,none⟩ (.int .u32 (q:Nat))) 133 (w.heap.size+3) ((p ++ [q]) ++ (digs b ++ [0]).drop (j+1))):=by
    have:=HRN.out;rwa [zAq HP.out HX0.out] at this
   have HXN:=zH (HX.out.setCell (p:=⟨w.heap.size+3,j,none⟩) (.inl rfl) (.int .u32 (q:Nat)))
   clear hq hr HRN HRj HX HX0 HY
   go_wp2
   go_roundw
   case rel=>exact ⟨j+1,r,p ++ [q],by omega,HQ.out.2.2,by go_num,rfl,by simp [Hid,HP.out],by
    intro d hd
    rcases List.mem_append.1 hd with hd|hd
    ·exact HPL.out d hd
    ·simp at hd;subst hd;exact HQ.out.2.1,HRN2,HS,HXN⟩
   case measure=>simp [intOf];omega
 ·have hjk:j=m+1:=by omega
  have HRow:Hid (Row wr 133 (w.heap.size+3) p):=by
   have:=HRj.out
   rwa [List.drop_eq_nil_of_le (by simp;have:=HK.out;omega),List.append_nil] at this
  have HSum:Hid (ofD p=a+b):=by
   have:=add_end (digs b) (digs a) p c (by rw [HP.out,HK.out,hjk]) (by rw [HK.out,HM.out];exact hmk) (zAS _) (zAS _) (by rw [HK.out,← hjk];exact HE.out)
   rw [zAH,zAH] at this
   unfold Hid;omega
  have HXr:=zH (HX2.out.but HX.out (by rintro g rfl;omega))
  have HCut:=zH (zBU (some ⟨w.heap.size+3,0,none⟩) (m+1) (m+1) p wr (by rw [HP.out,hjk]) (Nat.le_refl _) om HPL.out HRow.out.digs)
  have HJ:=zH hjk
  clear hjk HRj HX HP HPL HE
  go_wp2_with fail
  refine HCut.out.mono ?_
  rintro e w4 ⟨k4,rfl,hn4,hk4,hx4⟩
  have i2:=hx4.cell e2
  have i3:=hx4.free g2 (zAA e2)
  rw [HSum.out] at hn4
  have HX4:=zH (HXr.out.trans hx4)
  have HFits:=zH (zDB _ k4 (a+b) w4 hn4 om HBits.out)
  have HN4:=zH hn4
  clear hx4 e1 e2 g2 HCut hn4
  go_wp2_with fail
  refine HFits.out.mono ?_
  rintro e w5 ⟨rfl,hx5⟩
  have j2:=hx5.cell i2
  have j3:=hx5.free i3 (zAA i2)
  have j4:=setc (v:=.slice none 0 0) j2
  have HX5:=zH (HX4.out.trans hx5)
  clear hx5 i2 i3
  go_wp2
  refine bodyPost_ret (v:=.tuple #[.agg #[.slice none 0 0],.int .i64 3]) (by simp [results,Tryz.results115,go_sem,j4]) rfl ⟨rfl,HX5.out.setCell (p:=⟨w.heap.size+2,0,none⟩) (by simp only [];omega) _⟩
theorem Add_ok (A B:Option Addr) (k m a b:Nat) (w:World) (ha:IsNat w A k a) (hb:IsNat w B m b) (hk:k≤50000) (hm:m≤50000) (hbits:bitsN (a+b)≤4096) :
  Calls Tryz.prog 115 #[.agg #[.slice A k k],.agg #[.slice B m m]] w fun e w'=>∃ A' k',e = .returned (.tuple #[.agg #[.slice A' k' k'],.int .i64 0])∧IsNat w' A' k' (a+b)∧k'≤max k m+1∧Ext w w':=by
 rcases Nat.lt_or_ge k m with h|h
 ·exact Add_ok2 A B k m a b w ha hb hk hm h hbits
 ·exact Add_ok1 A B k m a b w ha hb hk hm h hbits
theorem Add_long (A B:Option Addr) (k m a b:Nat) (w:World) (ha:IsNat w A k a) (hb:IsNat w B m b) (hk:k≤50000) (hm:m≤50000) (hbits:4096 < bitsN (a+b)) :
  Calls Tryz.prog 115 #[.agg #[.slice A k k],.agg #[.slice B m m]] w fun e w'=>e = .returned (.tuple #[.agg #[.slice none 0 0],.int .i64 3])∧Ext w w':=by
 rcases Nat.lt_or_ge k m with h|h
 ·exact Add_long2 A B k m a b w ha hb hk hm h hbits
 ·exact Add_long1 A B k m a b w ha hb hk hm h hbits
end Go.Proofs.YtdkgilioejdmeaaGreat
namespace Go.Proofs.YtdkgilioejdmeaaGreat
open Go.RowKit
theorem mul_step_nat (P R c x y z q r op oO ob:Nat) (e:c+x*y+z=q+4294967296*r) (T:Nat) (hT:T=R*4294967296) (hR:∃ Q,R=P*Q∧ob=ob) (obn:Nat) (hob:x*P*obn=x*P*ob+R*(x*y))
  (h:op+R*c=oO+x*P*ob):op+R*q+T*r=oO+R*z+x*P*obn:=by
 subst hT
 rw [hob]
 have:=congrArg (R * ·) e
 simp only [Nat.mul_add] at this
 rw [Nat.mul_assoc R 4294967296 r]
 omega
theorem mul_step (O lb p:List Nat) (i j c x y z q r:Nat) (hz:O[i+j]? = some z) (hy:lb[j]? = some y) (hp:p.length=i+j) (e:c+x*y+z=q+4294967296*r)
  (h:ofD p+4294967296 ^ (i+j)*c=ofD (O.take (i+j))+x*4294967296 ^ i*ofD (lb.take j)) :
  ofD (p ++ [q])+4294967296 ^ (i+(j+1))*r=ofD (O.take (i+(j+1)))+x*4294967296 ^ i*ofD (lb.take (j+1)):=by
 rw [← Nat.add_assoc,zAM O,zAM lb,zBO,hp,hz,hy,Option.getD_some,Option.getD_some]
 refine mul_step_nat (4294967296 ^ i) (4294967296 ^ (i+j)) c x y z q r (ofD p) (ofD (O.take (i+j))) (ofD (lb.take j)) e _ (Nat.pow_succ ..) ⟨4294967296 ^ j,Nat.pow_add _ _ _,rfl⟩ _ ?_ h
 rw [Nat.mul_add,Nat.pow_add]
 congr 1
 rw [Nat.mul_comm x y,Nat.mul_assoc x,← Nat.mul_assoc _ _ y,Nat.mul_comm x,Nat.mul_assoc]
theorem mul_bound (c x y z:Nat) (hc:c < 4294967296) (hx:x < 4294967296) (hy:y < 4294967296) (hz:z < 4294967296) :
  x*y+z < 18446744073709551616∧c+x*y+z < 18446744073709551616∧(c+x*y+z) / 4294967296 < 4294967296:=by
 have h1:x*y≤4294967295*4294967295:=Nat.mul_le_mul om om
 omega
theorem mul_names (c x y z:Nat) (hc:c < 4294967296) (hx:x < 4294967296) (hy:y < 4294967296) (hz:z < 4294967296):∃ s q r:Nat,
  IntKind.u64.wrap ((c:Int)+IntKind.u64.wrap (IntKind.u64.wrap ((x:Int)*y)+z))=(s:Int)∧(s:Int) % 4294967296=q∧(s:Int) / 4294967296=r∧(c+x*y+z=q+4294967296*r∧q < 4294967296∧r < 4294967296):=by
 obtain ⟨h1,h2,h3⟩:=mul_bound c x y z hc hx hy hz
 obtain ⟨v,hv⟩:∃ v,x*y=v:=⟨_,rfl⟩
 rw [hv] at h1 h2 h3 ⊢
 refine ⟨c+v+z,(c+v+z) % 4294967296,(c+v+z) / 4294967296,?_,by omega,by omega,by omega,by omega,h3⟩
 have e:(x:Int)*y=(v:Int):=by rw [← hv];simp
 have w1:∀ n:Int,0≤n→n < 18446744073709551616→IntKind.u64.wrap n=n:=by
  intro n h0 h1;show n % 18446744073709551616=n;omega
 rw [e,w1 v om om,w1 (v+z) om om,w1 _ om om]
 omega
theorem zCR (O:List Nat) (n N:Nat) (hN:O.length=N) (h:∀ j,n≤j→j < N→O[j]? = some 0):ofD (O.drop n)=0:=by
 refine ofD_zeros _ (fun d hd=>?_)
 obtain ⟨i,hi,rfl⟩:=List.getElem_of_mem hd
 rw [List.length_drop] at hi
 have:=h (n+i) om om
 rw [List.getElem_drop]
 rw [List.getElem?_eq_getElem om] at this
 injection this
theorem prod_end (O p la lb:List Nat) (i m k c x b:Nat) (hO:O.length=k+m) (hm:lb.length=m) (hb:ofD lb=b) (hp:p.length=i+m) (hv:ofD O=ofD (la.take i)*b)
  (hz:∀ j,i+m≤j→j < k+m→O[j]? = some 0) (h:ofD p+4294967296 ^ (i+m)*c=ofD (O.take (i+m))+x*4294967296 ^ i*ofD (lb.take m)) (hx:la[i]? = some x) :
  ofD ((p ++ [c]) ++ O.drop (i+m+1))=ofD (la.take (i+1))*b:=by
 have h1:=zCR O (i+m) _ hO hz
 have h2:=zCR O (i+m+1) _ hO (fun j hj=>hz j om)
 have e3:ofD (O.take (i+m))=ofD O:=by
  rcases Nat.lt_or_ge O.length (i+m) with h3|h3
  ·rw [List.take_of_length_le om]
  ·rw [zAT O (i+m) h3,h1,Nat.mul_zero,Nat.add_zero]
 have e4:lb.take m=lb:=List.take_of_length_le om
 rw [zBE,h2,Nat.mul_zero,Nat.add_zero,zBO,hp,h,zAM,hx,Option.getD_some,e3,e4,hb,Nat.add_mul,← hv,Nat.mul_comm x]
structure ProdInv (g k m a b i:Nat) (wr:World) (O:List Nat):Prop where
 row:Row wr 133 g O
 len:O.length=k+m
 lt:∀ d∈O,d < 4294967296
 val:ofD O=ofD ((digs a).take i)*b
 rest:∀ j,i+m≤j→j < k+m→O[j]? = some 0
structure MulInv (g i m b x:Nat) (O:List Nat) (wr:World) (j c:Nat) (p:List Nat):Prop where
 len:p.length=i+j
 lt:∀ d∈p,d < 4294967296
 row:Row wr 133 g (p ++ O.drop (i+j))
 val:ofD p+4294967296 ^ (i+j)*c=ofD (O.take (i+j))+x*4294967296 ^ i*ofD ((digs b).take j)
set_option maxRecDepth 100000 in
theorem zDH (A B:Option Addr) (k m a b:Nat) (w:World) (ha:IsNat w A k a) (hb:IsNat w B m b) (hk:k≤50000) (hm:m≤50000) :
  Calls Tryz.prog 163 #[.agg #[.slice A k k],.agg #[.slice B m m]] w fun e w'=>∃ A' k',e = .returned (.agg #[.slice A' k' k'])∧IsNat w' A' k' (a*b)∧k'≤k+m∧Ext w w':=by
 have hmak:=fun W=>zBC ((k:Int)+m) (k+m) om om W
 have HX0:=zH ((((Ext.refl w).alloc (.cells #[.slice A k k] 47)).alloc (.cells #[.slice B m m] 47)).alloc (.cells #[.slice none 0 0] 47))
 have HW:=zH (HX0.out.alloc (.cells (zerosA (k+m)) 133))
 have HA:=zH (ha.ext HW.out)
 have HB:=zH (hb.ext HW.out)
 have HZ:=zH (Row.zeros (((w.alloc (.cells #[.slice A k k] 47)).alloc (.cells #[.slice B m m] 47)).alloc (.cells #[.slice none 0 0] 47)) 133 (k+m))
 have HZ':Hid (Row ((((w.alloc (.cells #[.slice A k k] 47)).alloc (.cells #[.slice B m m] 47)).alloc (.cells #[.slice none 0 0] 47)).alloc (.cells (zerosA (k+m)) 133)) 133 (w.heap.size+3) (List.replicate (k+m) 0)):=by
  have:=HZ.out
  rw [World.size_alloc,World.size_alloc,World.size_alloc] at this
  exact this
 clear HZ
 have HZ:=HZ'
 clear HZ'
 have HAlt:Hid (∀ o g,A=some ⟨g,o,none⟩→k=0∨g < w.heap.size):=by
  intro o g e
  rcases Nat.eq_zero_or_pos k with h0|h0
  ·exact .inl h0
  ·obtain ⟨b2,o2,d,e2,hlt,_⟩:=ha.cell 0 h0
   rw [e] at e2;injection e2 with e2;injection e2 with e2 _;subst e2;exact .inr hlt
 have HBlt:Hid (∀ o g,B=some ⟨g,o,none⟩→m=0∨g < w.heap.size):=by
  intro o g e
  rcases Nat.eq_zero_or_pos m with h0|h0
  ·exact .inl h0
  ·obtain ⟨b2,o2,d,e2,hlt,_⟩:=hb.cell 0 h0
   rw [e] at e2;injection e2 with e2;injection e2 with e2 _;subst e2;exact .inr hlt
 have HK:Hid ((digs a).length=k):=ha.1.symm
 have HM:Hid ((digs b).length=m):=hb.1.symm
 clear ha hb
 go_enter Tryz.func163,Tryz.ntmps163
 go_wp2
 obtain ⟨W0,hW0⟩:∃ W0:World,(((w.alloc (.cells #[.slice A k k] 47)).alloc (.cells #[.slice B m m] 47)).alloc (.cells #[.slice none 0 0] 47)).alloc (.cells (zerosA (k+m)) 133)=W0:=⟨_,rfl⟩
 have c0:W0.cell? ⟨w.heap.size,0,none⟩=some (.slice A k k):=by rw [← hW0];simp [go_sem]
 have c1:W0.cell? ⟨w.heap.size+1,0,none⟩=some (.slice B m m):=by rw [← hW0];simp [go_sem]
 have c2:W0.cell? ⟨w.heap.size+2,0,none⟩=some (.slice none 0 0):=by rw [← hW0];simp [go_sem]
 have f2:W0.frozen? ⟨w.heap.size+2,0,none⟩=false:=by rw [← hW0];simp [go_sem]
 have hs:w.heap.size+3 < W0.heap.size:=by rw [← hW0];simp
 rw [hW0] at HW HA HB HZ
 rw [hW0]
 clear hW0 hmak
 go_loopw [22] (fun i wr=>∃ (i':Nat) (O:List Nat),i'≤k∧i = .int .i64 i'∧Hid (ProdInv (w.heap.size+3) k m a b i' wr O)∧Hid (ExtBut (· = w.heap.size+3) W0 wr)) (fun i _=>k - (intOf i).toNat)
 case atStart =>
  refine ⟨0,List.replicate (k+m) 0,Nat.zero_le _,rfl,⟨HZ.out,by simp,by simp,by simp [ofD,zBN],?_⟩,ExtBut.refl _ _⟩
  intro j h1 h2
  rw [List.getElem?_replicate,if_pos h2]
 obtain ⟨i,O,hi,rfl,HI,HX⟩:=hrel
 obtain ⟨wo,rfl⟩:∃ wo:World,wo=wr:=⟨_,rfl⟩
 have d0:=HX.out.cell c0 om
 have d1:=HX.out.cell c1 om
 have d2:=HX.out.cell c2 om
 have g2:=HX.out.free f2 om om
 have hso:w.heap.size+3 < wo.heap.size:=Nat.lt_of_lt_of_le hs HX.out.size
 by_cases h0:i < k
 ·obtain ⟨bA,oA,x,eA,hbA,hxA,hxl,hcA⟩:=HA.out.cell i h0
  have hneA:¬ bA=w.heap.size+3:=fun e=>by rcases HAlt.out _ _ eA with h2|h2 <;> omega
  have cA:=HX.out.cell hcA hneA
  have HXA:=zH hxA
  clear hxA hcA
  cases eA
  go_wp2
  go_loopw [8,30] (fun cv jv wr2=>∃ (j c:Nat) (p:List Nat),j≤m∧c < 4294967296∧jv = .int .i64 j∧cv = .int .u64 c∧Hid (MulInv (w.heap.size+3) i m b x O wr2 j c p)∧Hid (ExtBut (· = w.heap.size+3) wo wr2)) (fun _ jv _=>m - (intOf jv).toNat)
  case atStart =>
   refine ⟨0,0,O.take i,Nat.zero_le _,by omega,rfl,rfl,⟨by have:=HI.out.len;simp;omega,fun d hd=>HI.out.lt d (List.mem_of_mem_take hd),by have:=HI.out.row;simpa using this,by simp [ofD]⟩,ExtBut.refl _ _⟩
  obtain ⟨j,c,p,hj,hc,rfl,rfl,HJ,HXJ⟩:=hrel
  have e1:=HXJ.out.cell d1 om
  by_cases h1:j < m
  ·obtain ⟨bB,oB,y,eB,hbB,hyB,hyl,hcB⟩:=HB.out.cell j h1
   have hneB:¬ bB=w.heap.size+3:=fun e=>by rcases HBlt.out _ _ eB with h2|h2 <;> omega
   have cB:=HXJ.out.cell (HX.out.cell hcB hneB) hneB
   obtain ⟨z,hz⟩:∃ z,O[i+j]? = some z:=⟨_,List.getElem?_eq_getElem (by have:=HI.out.len;omega)⟩
   have hzl:z < 4294967296:=by obtain ⟨h1,rfl⟩:=List.getElem?_eq_some_iff.1 hz;exact HI.out.lt _ (List.getElem_mem h1)
   have cz:=HJ.out.row.cell (zCS HJ.out.len hz)
   have fz:=HJ.out.row.free (i+j)
   have HYB:=zH hyB
   have HZZ:=zH hz
   clear hyB hz hcB
   cases eB
   obtain ⟨s,q,r,hs1,hs2,hs3,hs4⟩:=mul_names c x y z hc hxl hyl hzl
   have HS:=zH hs4
   clear hs4
   have HSt:=zH (mul_step O (digs b) p i j c x y z q r HZZ.out HYB.out HJ.out.len HS.out.1 HJ.out.val)
   have HRN:=zH (HJ.out.row.set_ (i+j) q)
   have HRN2:Hid (Row (wr.setCell ⟨w.heap.size+3,i+j,none⟩ (.int .u32 (q:Nat))) 133 (w.heap.size+3) ((p ++ [q]) ++ O.drop (i+j+1))):=by
    have:=HRN.out;rwa [zAq HJ.out.len HZZ.out] at this
   have HXN:=zH (HXJ.out.setCell (p:=⟨w.heap.size+3,i+j,none⟩) (.inl rfl) (.int .u32 (q:Nat)))
   have HPL:=zH HJ.out.lt
   have HPN:=zH HJ.out.len
   clear HRN HJ HXJ HZZ HYB
   go_wp2
   go_roundw
   case rel=>exact ⟨j+1,r,p ++ [q],by omega,HS.out.2.2,by go_num,rfl,⟨by simp [HPN.out];omega,by
    intro d hd
    rcases List.mem_append.1 hd with hd|hd
    ·exact HPL.out d hd
    ·simp at hd;subst hd;exact HS.out.2.1,HRN2.out,HSt.out⟩,HXN⟩
   case measure=>simp [intOf];omega
  ·obtain rfl:j=m:=by omega
   obtain ⟨z,hz⟩:∃ z,O[i+j]? = some z:=⟨_,List.getElem?_eq_getElem (by have:=HI.out.len;omega)⟩
   have fz:=HJ.out.row.free (i+j)
   have cz:=HJ.out.row.cell (zCS HJ.out.len hz)
   have hz0:z=0:=by have:=HI.out.rest (i+j) om om;rw [hz] at this;injection this
   have HZZ:=zH hz
   have HZ0:=zH hz0
   have HRN:=zH (HJ.out.row.set_ (i+j) c)
   have HRN2:Hid (Row (wr.setCell ⟨w.heap.size+3,i+j,none⟩ (.int .u32 (c:Nat))) 133 (w.heap.size+3) ((p ++ [c]) ++ O.drop (i+j+1))):=by
    have:=HRN.out;rwa [zAq HJ.out.len HZZ.out] at this
   have HXN:=zH (HX.out.trans (HXJ.out.setCell (p:=⟨w.heap.size+3,i+j,none⟩) (.inl rfl) (.int .u32 (c:Nat))))
   have HPI:Hid (ProdInv (w.heap.size+3) k j a b (i+1) (wr.setCell ⟨w.heap.size+3,i+j,none⟩ (.int .u32 (c:Nat))) ((p ++ [c]) ++ O.drop (i+j+1))):=by
    refine ⟨HRN2.out,?_,?_,?_,?_⟩
    ·have:=HJ.out.len;have:=HI.out.len;simp;omega
    ·intro d hd
     rcases List.mem_append.1 hd with hd|hd
     ·rcases List.mem_append.1 hd with hd|hd
      ·exact HJ.out.lt d hd
      ·simp at hd;subst hd;exact hc
     ·exact HI.out.lt d (List.mem_of_mem_drop hd)
    ·exact prod_end O p (digs a) (digs b) i j k c x b HI.out.len HM.out (zAH b) HJ.out.len HI.out.val HI.out.rest HJ.out.val HXA.out
    ·intro l h1 h2
     rw [List.getElem?_append_right (by simp;have:=HJ.out.len;omega),List.getElem?_drop]
     have e:i+j+1+(l - (p ++ [c]).length)=l:=by simp;have:=HJ.out.len;omega
     rw [e]
     exact HI.out.rest l om h2
   have hcm:(c:Int) % 4294967296=c:=by omega
   clear HRN HRN2 HJ HXJ HZZ HX HI hz hz0
   go_wp2
   go_roundw
   case rel=>exact ⟨i+1,_,by omega,by go_num,HPI,HXN⟩
   case measure=>simp [intOf];omega
 ·obtain rfl:i=k:=by omega
  have HV:Hid (ofD O=a*b):=by
   have:=HI.out.val
   rwa [List.take_of_length_le (by have:=HK.out;omega),zAH] at this
  have HCut:=zH (zBU (some ⟨w.heap.size+3,0,none⟩) (i+m) (i+m) O wo HI.out.len.symm (Nat.le_refl _) om HI.out.lt HI.out.row.digs)
  have HXr:=zH (HW.out.but HX.out (by rintro g rfl;omega))
  clear HI HX
  go_wp2_with fail
  refine HCut.out.mono ?_
  rintro e w4 ⟨k4,rfl,hn4,hk4,hx4⟩
  have i2:=hx4.cell d2
  have i3:=hx4.free g2 (zAA d2)
  have i4:=setc (v:=.slice (some ⟨w.heap.size+3,0,none⟩) k4 k4) i2
  rw [HV.out] at hn4
  have HX4:=zH (HXr.out.trans hx4)
  have HN4:=zH hn4
  clear hx4 d0 d1 d2 g2 HCut hn4
  go_wp2
  refine bodyPost_ret (v:=.agg #[.slice (some ⟨w.heap.size+3,0,none⟩) k4 k4]) (by simp [results,Tryz.results163,go_sem,i4]) rfl ⟨_,k4,rfl,HN4.out.set_ _ (by intro o' he;injection he with he;injection he with h1 _;omega),hk4,HX4.out.setCell (p:=⟨w.heap.size+2,0,none⟩) (by simp only [];omega) _⟩
theorem bitsN_ge {n:Nat} (h:n≠0):2 ^ (bitsN n - 1)≤n:=by
 have:=zAf h
 rcases Nat.lt_or_ge n (2 ^ (bitsN n - 1)) with h1|h1
 ·have:=(zAW n (bitsN n - 1)).2 h1;omega
 ·exact h1
theorem bitsN_mul_ge {a b:Nat} (ha:a≠0) (hb:b≠0):bitsN a+bitsN b - 1≤bitsN (a*b):=by
 have h1:=bitsN_ge ha
 have h2:=bitsN_ge hb
 have p1:=zAf ha
 have p2:=zAf hb
 have h3:=Nat.mul_le_mul h1 h2
 rw [← Nat.pow_add] at h3
 rcases Nat.lt_or_ge (bitsN (a*b)) (bitsN a+bitsN b - 1) with h|h
 ·have h4:=(zAW (a*b) (bitsN a - 1+(bitsN b - 1))).1 om
  omega
 ·exact h
theorem mul_long_of {a b:Nat} (ha:bitsN a≤4096) (hb:bitsN b≤4096) (h:4097 < bitsN a+bitsN b):4096 < bitsN (a*b):=by
 have h1:a≠0:=by rintro rfl;rw [bitsN_zero] at h;omega
 have h2:b≠0:=by rintro rfl;rw [bitsN_zero] at h;omega
 have:=bitsN_mul_ge h1 h2
 omega
set_option maxRecDepth 100000 in
theorem Mul_ok (A B:Option Addr) (k m a b:Nat) (w:World) (ha:IsNat w A k a) (hb:IsNat w B m b) (hk:k≤50000) (hm:m≤50000) (hA:bitsN a≤4096) (hB:bitsN b≤4096) (hab:bitsN (a*b)≤4096) :
  Calls Tryz.prog 113 #[.agg #[.slice A k k],.agg #[.slice B m m]] w fun e w'=>∃ A' k',e = .returned (.tuple #[.agg #[.slice A' k' k'],.int .i64 0])∧IsNat w' A' k' (a*b)∧k'≤k+m∧Ext w w':=by
 have hsum:((bitsN a:Nat):Int)+(bitsN b:Nat)≤4097:=by
  have:bitsN a+bitsN b≤4097:=by
   rcases Nat.lt_or_ge 4097 (bitsN a+bitsN b) with h|h
   ·have:=mul_long_of hA hB h;omega
   ·exact h
  omega
 have HBits:=zH hab
 clear hab
 have HX0:=zH ((((Ext.refl w).alloc (.cells #[.slice A k k] 47)).alloc (.cells #[.slice B m m] 47)).alloc (.cells #[.slice none 0 0] 47))
 have hwr:IntKind.i64.wrap (((bitsN a:Nat):Int)+(bitsN b:Nat))=((bitsN a:Nat):Int)+(bitsN b:Nat):=by
  have h1:=ha.bits
  have h2:=hb.bits
  exact IntWalk.i64_in _ om
 have HAA:=zH (ha.ext HX0.out)
 have HBB:=zH (hb.ext HX0.out)
 clear ha hb
 go_enter Tryz.func113,Tryz.ntmps113
 go_wp2_with fail
 obtain ⟨W0,hW0⟩:∃ W0:World,((w.alloc (.cells #[.slice A k k] 47)).alloc (.cells #[.slice B m m] 47)).alloc (.cells #[.slice none 0 0] 47)=W0:=⟨_,rfl⟩
 have c0:W0.cell? ⟨w.heap.size,0,none⟩=some (.slice A k k):=by rw [← hW0];simp [go_sem]
 have c1:W0.cell? ⟨w.heap.size+1,0,none⟩=some (.slice B m m):=by rw [← hW0];simp [go_sem]
 have c2:W0.cell? ⟨w.heap.size+2,0,none⟩=some (.slice none 0 0):=by rw [← hW0];simp [go_sem]
 have f2:W0.frozen? ⟨w.heap.size+2,0,none⟩=false:=by rw [← hW0];simp [go_sem]
 have hs:w.heap.size+2 < W0.heap.size:=by rw [← hW0];simp
 rw [hW0] at HX0 HAA HBB
 rw [hW0]
 clear hW0
 have HE0:=zH (Ext.refl W0)
 go_region_held3 (fun w'=>w'.cell? ⟨w.heap.size,0,none⟩=some (.slice A k k)∧w'.cell? ⟨w.heap.size+1,0,none⟩=some (.slice B m m)∧Ext W0 w')
  (first|(exact ⟨c0,c1,HE0.out.drew⟩)|(exact ⟨Ext.cell hx c0,Ext.cell hx c1,Ext.trans HE0.out.drew hx⟩)|(exact ⟨Ext.cell hx (‹_∧_∧Ext W0 _›).1,Ext.cell hx (‹_∧_∧Ext W0 _›).2.1,Ext.trans (‹_∧_∧Ext W0 _›).2.2 hx⟩))
  (first
   | (go_at_call_of 132 (Value.agg #[.slice A k k]);refine (zAc A k a _ ?_ om).mono ?_;(refine HAA.out.ext ?_;first|exact HE0.out.drew);rintro e w' ⟨rfl,hx⟩)
   | (go_at_call_of 132 (Value.agg #[.slice B m m]);refine (zAc B m b _ ?_ om).mono ?_;(refine HBB.out.ext ?_;first|exact (‹_∧_∧Ext W0 _›).2.2);rintro e w' ⟨rfl,hx⟩))
 obtain ⟨q0,q1,q2⟩:=‹_∧_∧Ext W0 _›
 have c3:=q2.cell c2
 have f3:=q2.free f2 (zAA c2)
 have HQ:=zH (HX0.out.trans q2)
 have HQA:=zH (HAA.out.ext q2)
 have HQB:=zH (HBB.out.ext q2)
 clear q2 hx c2 f2 c0 c1
 go_wp2_with fail
 refine (zDH A B k m a b _ HQA.out HQB.out hk hm).mono ?_
 rintro e w3 ⟨A3,k3,rfl,hn3,hk3,hx3⟩
 have c4:=hx3.cell c3
 have f4:=hx3.free f3 (zAA c3)
 have HX3:=zH (HQ.out.trans hx3)
 have HF:=zH (fits_ok A3 k3 (a*b) w3 hn3 om HBits.out)
 have HN3:=zH hn3
 have HL3:Hid (∀ o g,A3=some ⟨g,o,none⟩→k3=0∨g < w3.heap.size):=by
  intro o g e
  rcases Nat.eq_zero_or_pos k3 with h0|h0
  ·exact .inl h0
  ·obtain ⟨b2,o2,d,e2,hlt,_⟩:=hn3.cell 0 h0
   rw [e] at e2;injection e2 with e2;injection e2 with e2 _;subst e2;exact .inr hlt
 clear hx3 hn3
 go_wp2_with fail
 refine HF.out.mono ?_
 rintro e w4 ⟨rfl,hx4⟩
 have c5:=hx4.cell c4
 have f5:=hx4.free f4 (zAA c4)
 have HX4:=zH (HX3.out.trans hx4)
 have c6:=setc (v:=.slice A3 k3 k3) c5
 have HN4:=zH (HN3.out.ext hx4)
 clear hx4 c4 f4 c3 f3
 go_wp2
 refine bodyPost_ret (v:=.tuple #[.agg #[.slice A3 k3 k3],.int .i64 0]) (by simp [results,Tryz.results113,go_sem,c6]) rfl ⟨A3,k3,rfl,?_,hk3,HX4.out.setCell (p:=⟨w.heap.size+2,0,none⟩) (by simp only [];omega) _⟩
 exact HN4.out.setBox c5 _
set_option maxRecDepth 100000 in
theorem Mul_long1 (A B:Option Addr) (k m a b:Nat) (w:World) (ha:IsNat w A k a) (hb:IsNat w B m b) (hk:k≤50000) (hm:m≤50000) (hab:4097 < bitsN a+bitsN b) :
  Calls Tryz.prog 113 #[.agg #[.slice A k k],.agg #[.slice B m m]] w fun e w'=>e = .returned (.tuple #[.agg #[.slice none 0 0],.int .i64 3])∧Ext w w':=by
 have hsum:(4097:Int) < (bitsN a:Nat)+(bitsN b:Nat):=by omega
 clear hab
 have HX0:=zH ((((Ext.refl w).alloc (.cells #[.slice A k k] 47)).alloc (.cells #[.slice B m m] 47)).alloc (.cells #[.slice none 0 0] 47))
 have hwr:IntKind.i64.wrap (((bitsN a:Nat):Int)+(bitsN b:Nat))=((bitsN a:Nat):Int)+(bitsN b:Nat):=by
  have h1:=ha.bits
  have h2:=hb.bits
  exact IntWalk.i64_in _ om
 have HAA:=zH (ha.ext HX0.out)
 have HBB:=zH (hb.ext HX0.out)
 clear ha hb
 go_enter Tryz.func113,Tryz.ntmps113
 go_wp2_with fail
 obtain ⟨W0,hW0⟩:∃ W0:World,((w.alloc (.cells #[.slice A k k] 47)).alloc (.cells #[.slice B m m] 47)).alloc (.cells #[.slice none 0 0] 47)=W0:=⟨_,rfl⟩
 have c0:W0.cell? ⟨w.heap.size,0,none⟩=some (.slice A k k):=by rw [← hW0];simp [go_sem]
 have c1:W0.cell? ⟨w.heap.size+1,0,none⟩=some (.slice B m m):=by rw [← hW0];simp [go_sem]
 have c2:W0.cell? ⟨w.heap.size+2,0,none⟩=some (.slice none 0 0):=by rw [← hW0];simp [go_sem]
 have f2:W0.frozen? ⟨w.heap.size+2,0,none⟩=false:=by rw [← hW0];simp [go_sem]
 have hs:w.heap.size+2 < W0.heap.size:=by rw [← hW0];simp
 rw [hW0] at HX0 HAA HBB
 rw [hW0]
 clear hW0
 have HE0:=zH (Ext.refl W0)
 go_region_held3 (fun w'=>w'.cell? ⟨w.heap.size,0,none⟩=some (.slice A k k)∧w'.cell? ⟨w.heap.size+1,0,none⟩=some (.slice B m m)∧Ext W0 w')
  (first|(exact ⟨c0,c1,HE0.out.drew⟩)|(exact ⟨Ext.cell hx c0,Ext.cell hx c1,Ext.trans HE0.out.drew hx⟩)|(exact ⟨Ext.cell hx (‹_∧_∧Ext W0 _›).1,Ext.cell hx (‹_∧_∧Ext W0 _›).2.1,Ext.trans (‹_∧_∧Ext W0 _›).2.2 hx⟩))
  (first
   | (go_at_call_of 132 (Value.agg #[.slice A k k]);refine (zAc A k a _ ?_ om).mono ?_;(refine HAA.out.ext ?_;first|exact HE0.out.drew);rintro e w' ⟨rfl,hx⟩)
   | (go_at_call_of 132 (Value.agg #[.slice B m m]);refine (zAc B m b _ ?_ om).mono ?_;(refine HBB.out.ext ?_;first|exact (‹_∧_∧Ext W0 _›).2.2);rintro e w' ⟨rfl,hx⟩))
 obtain ⟨q0,q1,q2⟩:=‹_∧_∧Ext W0 _›
 have c3:=q2.cell c2
 have f3:=q2.free f2 (zAA c2)
 have HQ:=zH (HX0.out.trans q2)
 have HQA:=zH (HAA.out.ext q2)
 have HQB:=zH (HBB.out.ext q2)
 clear q2 hx c2 f2 c0 c1
 have c4:=setc (v:=.slice none 0 0) c3
 go_wp2
 refine bodyPost_ret (v:=.tuple #[.agg #[.slice none 0 0],.int .i64 3]) (by simp [results,Tryz.results113,go_sem,c4]) rfl ⟨rfl,HQ.out.setCell (p:=⟨w.heap.size+2,0,none⟩) (by simp only [];omega) _⟩
set_option maxRecDepth 100000 in
theorem Mul_long2 (A B:Option Addr) (k m a b:Nat) (w:World) (ha:IsNat w A k a) (hb:IsNat w B m b) (hk:k≤50000) (hm:m≤50000) (hab:bitsN a+bitsN b≤4097) (hlong:4096 < bitsN (a*b)) :
  Calls Tryz.prog 113 #[.agg #[.slice A k k],.agg #[.slice B m m]] w fun e w'=>e = .returned (.tuple #[.agg #[.slice none 0 0],.int .i64 3])∧Ext w w':=by
 have hsum:((bitsN a:Nat):Int)+(bitsN b:Nat)≤4097:=by omega
 have HBits:=zH hlong
 clear hab hlong
 have HX0:=zH ((((Ext.refl w).alloc (.cells #[.slice A k k] 47)).alloc (.cells #[.slice B m m] 47)).alloc (.cells #[.slice none 0 0] 47))
 have hwr:IntKind.i64.wrap (((bitsN a:Nat):Int)+(bitsN b:Nat))=((bitsN a:Nat):Int)+(bitsN b:Nat):=by
  have h1:=ha.bits
  have h2:=hb.bits
  exact IntWalk.i64_in _ om
 have HAA:=zH (ha.ext HX0.out)
 have HBB:=zH (hb.ext HX0.out)
 clear ha hb
 go_enter Tryz.func113,Tryz.ntmps113
 go_wp2_with fail
 obtain ⟨W0,hW0⟩:∃ W0:World,((w.alloc (.cells #[.slice A k k] 47)).alloc (.cells #[.slice B m m] 47)).alloc (.cells #[.slice none 0 0] 47)=W0:=⟨_,rfl⟩
 have c0:W0.cell? ⟨w.heap.size,0,none⟩=some (.slice A k k):=by rw [← hW0];simp [go_sem]
 have c1:W0.cell? ⟨w.heap.size+1,0,none⟩=some (.slice B m m):=by rw [← hW0];simp [go_sem]
 have c2:W0.cell? ⟨w.heap.size+2,0,none⟩=some (.slice none 0 0):=by rw [← hW0];simp [go_sem]
 have f2:W0.frozen? ⟨w.heap.size+2,0,none⟩=false:=by rw [← hW0];simp [go_sem]
 have hs:w.heap.size+2 < W0.heap.size:=by rw [← hW0];simp
 rw [hW0] at HX0 HAA HBB
 rw [hW0]
 clear hW0
 have HE0:=zH (Ext.refl W0)
 go_region_held3 (fun w'=>w'.cell? ⟨w.heap.size,0,none⟩=some (.slice A k k)∧w'.cell? ⟨w.heap.size+1,0,none⟩=some (.slice B m m)∧Ext W0 w')
  (first|(exact ⟨c0,c1,HE0.out.drew⟩)|(exact ⟨Ext.cell hx c0,Ext.cell hx c1,Ext.trans HE0.out.drew hx⟩)|(exact ⟨Ext.cell hx (‹_∧_∧Ext W0 _›).1,Ext.cell hx (‹_∧_∧Ext W0 _›).2.1,Ext.trans (‹_∧_∧Ext W0 _›).2.2 hx⟩))
  (first
   | (go_at_call_of 132 (Value.agg #[.slice A k k]);refine (zAc A k a _ ?_ om).mono ?_;(refine HAA.out.ext ?_;first|exact HE0.out.drew);rintro e w' ⟨rfl,hx⟩)
   | (go_at_call_of 132 (Value.agg #[.slice B m m]);refine (zAc B m b _ ?_ om).mono ?_;(refine HBB.out.ext ?_;first|exact (‹_∧_∧Ext W0 _›).2.2);rintro e w' ⟨rfl,hx⟩))
 obtain ⟨q0,q1,q2⟩:=‹_∧_∧Ext W0 _›
 have c3:=q2.cell c2
 have f3:=q2.free f2 (zAA c2)
 have HQ:=zH (HX0.out.trans q2)
 have HQA:=zH (HAA.out.ext q2)
 have HQB:=zH (HBB.out.ext q2)
 clear q2 hx c2 f2 c0 c1
 go_wp2_with fail
 refine (zDH A B k m a b _ HQA.out HQB.out hk hm).mono ?_
 rintro e w3 ⟨A3,k3,rfl,hn3,hk3,hx3⟩
 have c4:=hx3.cell c3
 have f4:=hx3.free f3 (zAA c3)
 have HX3:=zH (HQ.out.trans hx3)
 have HF:=zH (zDB A3 k3 (a*b) w3 hn3 om HBits.out)
 have HN3:=zH hn3
 have HL3:Hid (∀ o g,A3=some ⟨g,o,none⟩→k3=0∨g < w3.heap.size):=by
  intro o g e
  rcases Nat.eq_zero_or_pos k3 with h0|h0
  ·exact .inl h0
  ·obtain ⟨b2,o2,d,e2,hlt,_⟩:=hn3.cell 0 h0
   rw [e] at e2;injection e2 with e2;injection e2 with e2 _;subst e2;exact .inr hlt
 clear hx3 hn3
 go_wp2_with fail
 refine HF.out.mono ?_
 rintro e w4 ⟨rfl,hx4⟩
 have c5:=hx4.cell c4
 have f5:=hx4.free f4 (zAA c4)
 have HX4:=zH (HX3.out.trans hx4)
 have c6:=setc (v:=.slice none 0 0) c5
 clear hx4 c4 f4 c3 f3
 go_wp2
 refine bodyPost_ret (v:=.tuple #[.agg #[.slice none 0 0],.int .i64 3]) (by simp [results,Tryz.results113,go_sem,c6]) rfl ⟨rfl,HX4.out.setCell (p:=⟨w.heap.size+2,0,none⟩) (by simp only [];omega) _⟩
theorem Mul_long (A B:Option Addr) (k m a b:Nat) (w:World) (ha:IsNat w A k a) (hb:IsNat w B m b) (hk:k≤50000) (hm:m≤50000) (hab:4096 < bitsN (a*b)) :
  Calls Tryz.prog 113 #[.agg #[.slice A k k],.agg #[.slice B m m]] w fun e w'=>e = .returned (.tuple #[.agg #[.slice none 0 0],.int .i64 3])∧Ext w w':=by
 rcases Nat.lt_or_ge 4097 (bitsN a+bitsN b) with h|h
 ·exact Mul_long1 A B k m a b w ha hb hk hm h
 ·exact Mul_long2 A B k m a b w ha hb hk hm h hab
theorem zAk (n:Int) (h₀ : 0≤n) (h₁ : n < 2 ^ 64):IntKind.u64.wrap n=n:=by show n % 18446744073709551616=n;omega
theorem zCv (r d:Nat) (hr:r < 4294967296) (hd:d < 4294967296):bits .or .u64 ((r:Int)*4294967296) d=((r*4294967296+d:Nat):Int):=by
 have:=bits_join .u64 64 (by decide) zAk 32 ((r:Int)*4294967296) d om om om om om om
 rw [this];omega
theorem short_names (r d by_:Nat) (hr:r < by_) (hb:by_ < 4294967296) (hd:d < 4294967296):∃ x q r':Nat,bits .or .u64 ((r:Int)*4294967296) d=(x:Int)∧(x:Int).tdiv by_=q∧(x:Int).tmod by_=r'∧(x:Int) / by_=q∧(x:Int) % by_=r'∧(q:Int) % 4294967296=q ∧
  (r*4294967296+d=q*by_+r'∧q < 4294967296∧r' < by_):=by
 refine ⟨r*4294967296+d,(r*4294967296+d) / by_,(r*4294967296+d) % by_,zCv r d om hd,?_,?_,?_,?_,?_,?_,?_,?_⟩
 ·rw [Int.tdiv_eq_ediv_of_nonneg om];simp
 ·rw [Int.tmod_eq_emod_of_nonneg om];simp
 ·simp
 ·simp
 ·have h1:(r*4294967296+d) / by_ < 4294967296:=Nat.div_lt_of_lt_mul (by
   have:(r+1)*4294967296≤by_*4294967296:=Nat.mul_le_mul_right _ hr
   omega)
  generalize (r*4294967296+d) / by_=q at *
  omega
 ·rw [Nat.mul_comm _ by_];exact (Nat.div_add_mod _ _).symm
 ·exact Nat.div_lt_of_lt_mul (by
   have:(r+1)*4294967296≤by_*4294967296:=Nat.mul_le_mul_right _ hr
   omega)
 ·exact Nat.mod_lt _ om
theorem short_step (l qs:List Nat) (j d by_ r q r':Nat) (hd:l[j]? = some d) (e:r*4294967296+d=q*by_+r') (h:ofD (l.drop (j+1))=ofD qs*by_+r):ofD (l.drop j)=ofD (q :: qs)*by_+r':=by
 obtain ⟨h1,rfl⟩:=List.getElem?_eq_some_iff.1 hd
 rw [List.drop_eq_getElem_cons h1]
 simp only [ofD]
 rw [h,Nat.add_mul,Nat.mul_add,Nat.mul_assoc]
 omega
def RowX (w:World) (t:TypeId) (g:Nat) (l:List Nat) (z:List Value):Prop:=w.heap[g]? = some (.cells ((l.map fun d:Nat=>Value.int .u32 (d:Int)) ++ z).toArray t (0,0))
theorem RowX.cell {w:World} {t:TypeId} {g:Nat} {l:List Nat} {z:List Value} (h:RowX w t g l z) {i d:Nat} (hi:l[i]? = some d):w.cell? ⟨g,i,none⟩=some (.int .u32 (d:Int)):=by
 unfold RowX at h
 have hl:i < l.length:=(List.getElem?_eq_some_iff.1 hi).1
 simp only [World.cell?,h,List.getElem?_toArray]
 rw [List.getElem?_append_left (by simpa using hl)]
 simp [hi]
theorem RowX.free {w:World} {t:TypeId} {g:Nat} {l:List Nat} {z:List Value} (h:RowX w t g l z) (i:Nat):w.frozen? ⟨g,i,none⟩=false:=by
 unfold RowX at h
 simp [World.frozen?,h]
theorem RowX.set_ {w:World} {t:TypeId} {g:Nat} {l:List Nat} {z:List Value} (h:RowX w t g l z) (i d:Nat) (hi:i < l.length):RowX (w.setCell ⟨g,i,none⟩ (.int .u32 (d:Int))) t g (l.set i d) z:=by
 unfold RowX at h ⊢
 simp only [World.setCell,Array.getElem?_modify,h,if_true,Option.map_some]
 congr 2
 simp only [List.map_set]
 rw [List.setIfInBounds_toArray,List.set_append_left _ _ (by simpa using hi)];simp
theorem RowX.digs {w:World} {g:Nat} {l:List Nat} {z:List Value} (h:RowX w 133 g l z):Digs w (some ⟨g,0,none⟩) l :=
 fun _=>⟨g,0,rfl,⟨_,_,h⟩,fun j d hj=>by rw [Nat.zero_add];exact h.cell hj⟩
theorem short_any (g k c:Nat) (l:List Nat) (by_:Nat) (zz:List Value) (w:World) (hk:k=l.length) (hkm:k≤100000) (hl:∀ d∈l,d < 4294967296) (hb0:0 < by_) (hb:by_ < 4294967296)
  (hR:RowX w 133 g l zz) :
  Calls Tryz.prog 91 #[.slice (some ⟨g,0,none⟩) k c,.int .u32 by_] w fun e w'=>∃ (l':List Nat) (r:Nat),e = .returned (.int .u32 r)∧RowX w' 133 g l' zz∧l'.length=k∧(∀ d∈l',d < 4294967296)∧r < by_∧ofD l=ofD l'*by_+r∧ExtBut (· = g) w w':=by
 have HK:=zH hk;clear hk
 have HL:=zH hl;clear hl
 go_enter Tryz.func91,Tryz.ntmps91
 go_wp2
 go_loopw [5,6] (fun rv iv wr=>∃ (j r:Nat) (qs:List Nat),j≤k∧r < by_∧iv = .int .i64 ((j:Int) - 1)∧rv = .int .u64 r∧Hid (qs.length+j=k)∧Hid (∀ d∈qs,d < 4294967296)∧Hid (RowX wr 133 g (l.take j ++ qs) zz)∧Hid (ofD (l.drop j)=ofD qs*by_+r)∧Hid (ExtBut (· = g) w wr)) (fun _ i _=>(intOf i+1).toNat)
 case atStart=>exact ⟨k,0,[],Nat.le_refl _,hb0,rfl,rfl,by simp [Hid],by simp [Hid],by have:=HK.out;subst this;simpa [Hid] using hR,by have:=HK.out;subst this;simp [Hid,ofD],ExtBut.refl _ _⟩
 obtain ⟨j,r,qs,hj,hr,rfl,rfl,HQ,HQL,HRj,HE,HX⟩:=hrel
 by_cases h0:j=0
 ·subst h0
  go_wp2
  go_ret
  exact ⟨qs,r,rfl,by have:=HRj.out;simpa using this,by have:=HQ.out;omega,HQL.out,hr,by have:=HE.out;simpa using this,HX.out⟩
 ·obtain ⟨d,hd⟩:∃ d,l[j - 1]? = some d:=⟨_,List.getElem?_eq_getElem (by have:=HK.out;omega)⟩
  have hdl:d < 4294967296:=by obtain ⟨h1,rfl⟩:=List.getElem?_eq_some_iff.1 hd;exact HL.out _ (List.getElem_mem h1)
  have hat:(l.take j ++ qs)[j - 1]? = some d:=by rw [List.getElem?_append_left (by simp;have:=HK.out;omega),List.getElem?_take,if_pos om];exact hd
  have cd:wr.cell? ⟨g,j - 1,none⟩=some (.int .u32 (d:Int)):=HRj.out.cell hat
  have fd:=HRj.out.free (j - 1)
  have p0:(0:Int)≤(j:Int) - 1:=by omega
  have p1:(j:Int) - 1 < k:=by omega
  have p2:((j:Int) - 1).toNat=j - 1:=by omega
  obtain ⟨x,q,r',e1,e2,e3,e4,e5,e6,e7⟩:=short_names r d by_ hr hb hdl
  have HQ7:=zH e7;clear e7
  have hne:((by_:Int) == 0)=false:=by rw [beq_eq_false_iff_ne];omega
  have HSt:=zH (short_step l qs (j - 1) d by_ r q r' hd HQ7.out.1 (by rw [show j - 1+1=j by omega];exact HE.out))
  have HRN:Hid (RowX (wr.setCell ⟨g,j - 1,none⟩ (.int .u32 (q:Int))) 133 g (l.take (j - 1) ++ (q :: qs)) zz):=by
   have:=HRj.out.set_ (j - 1) q (by simp;have:=HK.out;have:=HQ.out;omega)
   have e:(l.take j ++ qs).set (j - 1) q=l.take (j - 1) ++ (q :: qs):=by
    have hj':j - 1 < l.length:=by have:=HK.out;omega
    obtain ⟨i,rfl⟩:∃ i,j=i+1:=⟨j - 1,by omega⟩
    simp only [Nat.add_sub_cancel] at hj' ⊢
    have hl:(l.take i).length=i:=by rw [List.length_take];omega
    rw [List.take_succ_eq_append_getElem hj',List.append_assoc,List.set_append_right _ _ om,hl,Nat.sub_self]
    rfl
   rwa [e] at this
  have HXN:=zH (HX.out.setCell (p:=⟨g,j - 1,none⟩) (.inl rfl) (.int .u32 (q:Int)))
  have HD:=zH hd
  clear hd hat HE HX HRj
  go_wp2
  go_region
  go_wp2
  go_roundw
  case rel=>exact ⟨j - 1,r',q :: qs,by omega,HQ7.out.2.2,by go_num,rfl,by have:=HQ.out;simp [Hid];omega,by
   intro d hd
   rcases List.mem_cons.1 hd with rfl|hd
   ·exact HQ7.out.2.1
   ·exact HQL.out d hd,HRN,HSt,HXN.out.drew⟩
  case measure=>simp [intOf];omega
theorem pow32_le {n:Nat} (hn:n < 32):2 ^ n≤2147483648:=Nat.le_trans (Nat.pow_le_pow_right om (Nat.le_of_lt_succ hn)) (Nat.le_refl (2 ^ 31))
theorem or_low (c d n:Nat) (hc:c < 2 ^ n) (hn:n < 32) (hd:d < 4294967296):bits .or .u64 (c:Int) (IntKind.u64.wrap ((d:Int)*2 ^ n))=((c+d*2 ^ n:Nat):Int):=by
 have hp:=pow32_le hn
 have h1:d*2 ^ n≤4294967295*2147483648:=Nat.mul_le_mul om hp
 have e:(d:Int)*2 ^ n=((d*2 ^ n:Nat):Int):=by simp
 rw [e,zAk _ om om,(bits_nat .u64 64 (by decide) zAk c (d*2 ^ n) om om).2]
 congr 1
 rw [Nat.or_comm,Nat.mul_comm d,← Nat.two_pow_add_eq_or_of_lt hc d]
 omega
theorem up_names (c d n:Nat) (hc:c < 2 ^ n) (hn:n < 32) (hd:d < 4294967296):∃ s q r:Nat,bits .or .u64 (c:Int) (IntKind.u64.wrap ((d:Int)*2 ^ n))=(s:Int)∧(s:Int) % 4294967296=q∧(s:Int) / 4294967296=r ∧
  (c+d*2 ^ n=q+4294967296*r∧q < 4294967296∧r < 2 ^ n∧r < 2147483648):=by
 have hp:=pow32_le hn
 refine ⟨c+d*2 ^ n,(c+d*2 ^ n) % 4294967296,(c+d*2 ^ n) / 4294967296,or_low c d n hc hn hd,by simp,by simp,(Nat.mod_add_div _ _).symm,Nat.mod_lt _ om,?_,?_⟩
 ·exact Nat.div_lt_of_lt_mul (by
   have:(d+1)*2 ^ n≤4294967296*2 ^ n:=Nat.mul_le_mul_right _ hd
   rw [Nat.add_mul] at this;omega)
 ·refine Nat.lt_of_lt_of_le (m:=2 ^ n) ?_ hp
  exact Nat.div_lt_of_lt_mul (by
   have:(d+1)*2 ^ n≤4294967296*2 ^ n:=Nat.mul_le_mul_right _ hd
   rw [Nat.add_mul] at this;omega)
theorem up_step_nat (R c dn q r op ol:Nat) (e:c+dn=q+4294967296*r) (h:op+R*c=ol):op+R*q+R*4294967296*r=ol+R*dn:=by
 have:=congrArg (R * ·) e
 simp only [Nat.mul_add] at this
 rw [Nat.mul_assoc]
 omega
theorem up_step (l p:List Nat) (j c d n q r:Nat) (hd:d=(l[j]?).getD 0) (hp:p.length=j) (e:c+d*2 ^ n=q+4294967296*r) (h:ofD p+4294967296 ^ j*c=ofD (l.take j)*2 ^ n) :
  ofD (p ++ [q])+4294967296 ^ (j+1)*r=ofD (l.take (j+1))*2 ^ n:=by
 rw [zAM,← hd,zBO,hp,Nat.pow_succ,Nat.add_mul,Nat.mul_assoc _ d]
 exact up_step_nat _ _ _ _ _ _ _ e h
theorem up_end (B x c y:Nat) (h:x+B*c=y) (hy:y < B):x=y:=by
 rcases Nat.eq_zero_or_pos c with h0|h0
 ·subst h0;simpa using h
 ·have:B*1≤B*c:=Nat.mul_le_mul_left _ h0
  omega
theorem up_any (A:Option Addr) (m c0:Nat) (l:List Nat) (n size:Nat) (w:World) (hm:m=l.length) (hmk:m≤100000) (hl:∀ d∈l,d < 4294967296) (hA:Digs w A l) (hn:n < 32) (hsz:size≤100000) (hms:m≤size)
  (hfit:ofD l*2 ^ n < 4294967296 ^ size) :
  Calls Tryz.prog 223 #[.slice A m c0,.int .i64 n,.int .i64 size] w fun e w'=>∃ (g:Nat) (p:List Nat),e = .returned (.slice (some ⟨g,0,none⟩) size size)∧w.heap.size≤g∧Row w' 133 g p∧p.length=size∧(∀ d∈p,d < 4294967296)∧ofD p=ofD l*2 ^ n∧Ext w w':=by
 have HMK:=zH hm;clear hm
 have HL:=zH hl;clear hl
 have HA:=zH hA;clear hA
 have HF:=zH hfit;clear hfit
 have hmak:=fun W=>zBC (size:Int) size rfl om W
 have HZ:=zH (Row.zeros w 133 size)
 have HX0:=zH ((Ext.refl w).alloc (.cells (zerosA size) 133))
 go_enter Tryz.func223,Tryz.ntmps223
 go_wp2
 obtain ⟨W0,hW0⟩:∃ W0:World,w.alloc (.cells (zerosA size) 133)=W0:=⟨_,rfl⟩
 rw [hW0] at HZ HX0
 rw [hW0]
 have hs0:w.heap.size < W0.heap.size:=by rw [← hW0];simp
 clear hW0 hmak
 go_loopw [8,14] (fun cv iv wr=>∃ (j c:Nat) (p:List Nat),j≤size∧c < 2147483648∧Hid (c < 2 ^ n)∧iv = .int .i64 j∧cv = .int .u64 c∧Hid (p.length=j)∧Hid (∀ d∈p,d < 4294967296)∧Hid (∃ z,Row wr 133 w.heap.size (p ++ z)∧z.length=size - j)∧Hid (ofD p+4294967296 ^ j*c=ofD (l.take j)*2 ^ n)∧Hid (ExtBut (· = w.heap.size) W0 wr)) (fun _ i _=>size - (intOf i).toNat)
 case atStart=>exact ⟨0,0,[],Nat.zero_le _,by omega,Nat.two_pow_pos _,rfl,rfl,rfl,by simp [Hid],⟨_,HZ.out,by simp⟩,by simp [Hid,ofD],ExtBut.refl _ _⟩
 obtain ⟨j,c,p,hj,hc,HC,rfl,rfl,HP,HPL,HRj,HE,HX⟩:=hrel
 by_cases h0:j < size
 ·obtain ⟨z,hz,hzl⟩:=HRj.out
  obtain ⟨z0,zs,rfl⟩:∃ z0 zs,z=z0 :: zs:=by
   cases z with
   | nil=>simp at hzl;omega
   | cons a b=>exact ⟨a,b,rfl⟩
  have cz:wr.cell? ⟨w.heap.size,j,none⟩=some (.int .u32 (z0:Int)):=hz.cell (by rw [List.getElem?_append_right (by have:=HP.out;omega),HP.out,Nat.sub_self];rfl)
  have fz:=hz.free j
  have hn0:(0:Int)≤n:=by omega
  by_cases h1:j < m
  ·obtain ⟨b2,o2,eB,hb2,hc2⟩:=HA.out.cell j (by have:=HMK.out;omega)
   have HDE:Hid (l[j]'(by have:=HMK.out;omega)=(l[j]?).getD 0):=by rw [List.getElem?_eq_getElem (by have:=HMK.out;omega)];rfl
   have hd:l[j]'(by have:=HMK.out;omega) < 4294967296:=HL.out _ (List.getElem_mem _)
   have hne2:¬ b2=w.heap.size:=by omega
   have cy:=HX.out.cell (HX0.out.cell hc2) hne2
   generalize l[j]'(by have:=HMK.out;omega)=d at *
   cases eB
   obtain ⟨s,q,r,hs1,hs2,hs3,hs4⟩:=up_names c d n HC.out hn hd
   have HS:=zH hs4
   clear hs4
   have HSt:=zH (up_step l p j c d n q r HDE.out HP.out HS.out.1 HE.out)
   have HRN:Hid (∃ z,Row (wr.setCell ⟨w.heap.size,j,none⟩ (.int .u32 (q:Nat))) 133 w.heap.size ((p ++ [q]) ++ z)∧z.length=size - (j+1)):=by
    have:=hz.set_ j q
    have e:(p ++ z0 :: zs).set j q=(p ++ [q]) ++ zs:=by rw [List.set_append_right _ _ (by have:=HP.out;omega),HP.out,Nat.sub_self,List.set_cons_zero,List.append_assoc,List.singleton_append]
    rw [e] at this
    exact ⟨zs,this,by simp at hzl;omega⟩
   have HXN:=zH (HX.out.setCell (p:=⟨w.heap.size,j,none⟩) (.inl rfl) (.int .u32 (q:Nat)))
   clear hz hzl HX HRj
   go_wp2
   go_roundw
   case rel=>exact ⟨j+1,r,p ++ [q],by omega,HS.out.2.2.2,HS.out.2.2.1,by go_num,rfl,by simp [Hid,HP.out],by
    intro d hd
    rcases List.mem_append.1 hd with hd|hd
    ·exact HPL.out d hd
    ·simp at hd;subst hd;exact HS.out.2.1,HRN,HSt,HXN⟩
   case measure=>simp [intOf];omega
  ·have hs2:(c:Int) % 4294967296=c:=by omega
   have hs3:(c:Int) / 4294967296=(0:Nat):=by omega
   have HSt:=zH (up_step l p j c 0 n c 0 (by rw [List.getElem?_eq_none (by have:=HMK.out;omega)];rfl) HP.out (by simp) HE.out)
   have HRN:Hid (∃ z,Row (wr.setCell ⟨w.heap.size,j,none⟩ (.int .u32 (c:Nat))) 133 w.heap.size ((p ++ [c]) ++ z)∧z.length=size - (j+1)):=by
    have:=hz.set_ j c
    have e:(p ++ z0 :: zs).set j c=(p ++ [c]) ++ zs:=by rw [List.set_append_right _ _ (by have:=HP.out;omega),HP.out,Nat.sub_self,List.set_cons_zero,List.append_assoc,List.singleton_append]
    rw [e] at this
    exact ⟨zs,this,by simp at hzl;omega⟩
   have HXN:=zH (HX.out.setCell (p:=⟨w.heap.size,j,none⟩) (.inl rfl) (.int .u32 (c:Nat)))
   clear hz hzl HX HRj
   go_wp2
   go_roundw
   case rel=>exact ⟨j+1,0,p ++ [c],by omega,by omega,Nat.two_pow_pos _,by go_num,rfl,by simp [Hid,HP.out],by
    intro d hd
    rcases List.mem_append.1 hd with hd|hd
    ·exact HPL.out d hd
    ·simp at hd;omega,HRN,HSt,HXN⟩
   case measure=>simp [intOf];omega
 ·obtain rfl:j=size:=by omega
  have HR:Hid (Row wr 133 w.heap.size p):=by
   obtain ⟨z,hz,hzl⟩:=HRj.out
   have:z=[]:=List.eq_nil_of_length_eq_zero om
   rw [this,List.append_nil] at hz
   exact hz
  have HV:Hid (ofD p=ofD l*2 ^ n):=by
   have:=HE.out
   rw [List.take_of_length_le (by have:=HMK.out;omega)] at this
   exact up_end _ _ _ _ this HF.out
  have HXX:=zH (HX0.out.but HX.out (by rintro g rfl;omega))
  clear HRj HE HX
  go_wp2
  go_ret
  exact ⟨w.heap.size,p,rfl,Nat.le_refl _,HR.out,HP.out,HPL.out,HV.out,HXX.out⟩
theorem or_high (d y:Nat) (hd:d < 4294967296) (hy:y < 4294967296):bits .or .u64 (d:Int) ((y:Int)*4294967296)=((d+y*4294967296:Nat):Int):=by
 have e:(y:Int)*4294967296=((y*4294967296:Nat):Int):=by simp
 rw [e,(bits_nat .u64 64 (by decide) zAk d (y*4294967296) om om).2]
 congr 1
 rw [Nat.or_comm,Nat.mul_comm y,← Nat.two_pow_add_eq_or_of_lt (i:=32) hd y]
 omega
theorem zCl (l:List Nat) (j:Nat) (hl:∀ d∈l,d < 4294967296):ofD l / 4294967296 ^ j=ofD (l.drop j):=by
 rcases Nat.lt_or_ge l.length j with h|h
 ·rw [List.drop_eq_nil_of_le om]
  refine Nat.div_eq_of_lt (Nat.lt_of_lt_of_le (zBs l hl) (Nat.pow_le_pow_right om om))
 ·have e:=zAT l j h
  have h2:=zBs (l.take j) (fun d hd=>hl d (List.mem_of_mem_take hd))
  have h3:(l.take j).length=j:=by simp;omega
  rw [h3] at h2
  rw [e,Nat.add_mul_div_left _ _ (Nat.pow_pos om),Nat.div_eq_of_lt h2,Nat.zero_add]
theorem zAa (l:List Nat) (j:Nat):ofD (l.drop j)=(l[j]?).getD 0+4294967296*ofD (l.drop (j+1)):=by
 rcases Nat.lt_or_ge j l.length with h|h
 ·rw [List.drop_eq_getElem_cons h,List.getElem?_eq_getElem h];rfl
 ·rw [List.drop_eq_nil_of_le h,List.drop_eq_nil_of_le om,List.getElem?_eq_none h];rfl
theorem down_digit (x h n:Nat) (hn:n < 32):(x+4294967296*(4294967296*h)) / 2 ^ n % 4294967296=x / 2 ^ n % 4294967296:=by
 have e:(4294967296:Nat)=2 ^ n*2 ^ (32 - n):=by rw [← Nat.pow_add,show n+(32 - n)=32 by omega]
 have e2:4294967296*(4294967296*h)=2 ^ n*(4294967296*(2 ^ (32 - n)*h)):=by
  conv=>lhs;lhs;rw [e]
  rw [Nat.mul_assoc]
  congr 1
  rw [← Nat.mul_assoc,Nat.mul_comm (2 ^ (32 - n)),Nat.mul_assoc]
 rw [e2,Nat.add_mul_div_left _ _ (Nat.two_pow_pos n),Nat.add_mul_mod_self_left]
theorem down_step (l p:List Nat) (j n q x y:Nat) (hn:n < 32) (hl:∀ d∈l,d < 4294967296) (hx:x=(l[j]?).getD 0) (hy:y=(l[j+1]?).getD 0) (hp:p.length=j) (e:(x+y*4294967296) / 2 ^ n % 4294967296=q)
  (h:ofD p=ofD l / 2 ^ n % 4294967296 ^ j):ofD (p ++ [q])=ofD l / 2 ^ n % 4294967296 ^ (j+1):=by
 rw [zBO,hp,Nat.pow_succ,Nat.mod_mul,← h,Nat.div_div_eq_div_mul,Nat.mul_comm (2 ^ n),← Nat.div_div_eq_div_mul,zCl l j hl,zAa l j,zAa l (j+1),← hx,← hy,← e]
 rw [Nat.mul_add,← Nat.add_assoc,Nat.mul_comm 4294967296 y]
 rw [down_digit _ _ n hn]
theorem down_names (d y n:Nat) (hn:n < 32) (hd:d < 4294967296) (hy:y < 4294967296):∃ s t q:Nat,bits .or .u64 (d:Int) ((y:Int)*4294967296)=(s:Int)∧(s:Int) / 2 ^ n=t∧(t:Int) % 4294967296=q∧((d+y*4294967296) / 2 ^ n % 4294967296=q∧q < 4294967296) :=
 ⟨d+y*4294967296,(d+y*4294967296) / 2 ^ n,_,or_high d y hd hy,by simp,rfl,by simp,Nat.mod_lt _ om⟩
theorem down_any (A:Option Addr) (m c0:Nat) (l:List Nat) (n:Nat) (w:World) (hm:m=l.length) (hmk:m≤100000) (hl:∀ d∈l,d < 4294967296) (hA:Digs w A l) (hn:n < 32) :
  Calls Tryz.prog 225 #[.slice A m c0,.int .i64 n] w fun e w'=>∃ A' k',e = .returned (.agg #[.slice A' k' k'])∧IsNat w' A' k' (ofD l / 2 ^ n)∧k'≤m∧Ext w w':=by
 have HMK:=zH hm;clear hm
 have HL:=zH hl;clear hl
 have HA:=zH hA;clear hA
 have hmak:=fun W=>zBC (m:Int) m rfl om W
 have HZ0:=Row.zeros (w.alloc (.cells #[.slice none 0 0] 47)) 133 m
 rw [World.size_alloc] at HZ0
 have HZ:=zH HZ0
 clear HZ0
 have HX0:=zH (((Ext.refl w).alloc (.cells #[.slice none 0 0] 47)).alloc (.cells (zerosA m) 133))
 go_enter Tryz.func225,Tryz.ntmps225
 go_wp2
 obtain ⟨W0,hW0⟩:∃ W0:World,(w.alloc (.cells #[.slice none 0 0] 47)).alloc (.cells (zerosA m) 133)=W0:=⟨_,rfl⟩
 have c2:W0.cell? ⟨w.heap.size,0,none⟩=some (.slice none 0 0):=by rw [← hW0];simp [go_sem]
 have f2:W0.frozen? ⟨w.heap.size,0,none⟩=false:=by rw [← hW0];simp [go_sem]
 rw [hW0] at HZ HX0
 rw [hW0]
 have hs0:w.heap.size+1 < W0.heap.size:=by rw [← hW0];simp
 clear hW0 hmak
 go_loopw [13] (fun iv wr=>∃ (j:Nat) (p:List Nat),j≤m∧iv = .int .i64 j∧Hid (p.length=j)∧Hid (∀ d∈p,d < 4294967296)∧Hid (∃ z,Row wr 133 (w.heap.size+1) (p ++ z)∧z.length=m - j)∧Hid (ofD p=ofD l / 2 ^ n % 4294967296 ^ j)∧Hid (ExtBut (· = w.heap.size+1) W0 wr)) (fun i _=>m - (intOf i).toNat)
 case atStart=>exact ⟨0,[],Nat.zero_le _,rfl,rfl,by simp [Hid],⟨_,HZ.out,by simp⟩,by simp [Hid,ofD,Nat.mod_one],ExtBut.refl _ _⟩
 obtain ⟨j,p,hj,rfl,HP,HPL,HRj,HE,HX⟩:=hrel
 have e2:=HX.out.cell c2 om
 have g2:=HX.out.free f2 om om
 by_cases h0:j < m
 ·obtain ⟨z,hz,hzl⟩:=HRj.out
  obtain ⟨z0,zs,rfl⟩:∃ z0 zs,z=z0 :: zs:=by
   cases z with
   | nil=>simp at hzl;omega
   | cons a b=>exact ⟨a,b,rfl⟩
  have cz:wr.cell? ⟨w.heap.size+1,j,none⟩=some (.int .u32 (z0:Int)):=hz.cell (by rw [List.getElem?_append_right (by have:=HP.out;omega),HP.out,Nat.sub_self];rfl)
  have fz:=hz.free j
  have hn0:(0:Int)≤n:=by omega
  obtain ⟨b2,o2,eB,hb2,hc2⟩:=HA.out.cell j (by have:=HMK.out;omega)
  have HDE:Hid (l[j]'(by have:=HMK.out;omega)=(l[j]?).getD 0):=by rw [List.getElem?_eq_getElem (by have:=HMK.out;omega)];rfl
  have hd:l[j]'(by have:=HMK.out;omega) < 4294967296:=HL.out _ (List.getElem_mem _)
  have hne2:¬ b2=w.heap.size+1:=by omega
  have cx:=HX.out.cell (HX0.out.cell hc2) hne2
  generalize l[j]'(by have:=HMK.out;omega)=d at *
  by_cases h1:j+1 < m
  ·obtain ⟨b3,o3,eC,hb3,hc3⟩:=HA.out.cell (j+1) (by have:=HMK.out;omega)
   have HYE:Hid (l[j+1]'(by have:=HMK.out;omega)=(l[j+1]?).getD 0):=by rw [List.getElem?_eq_getElem (by have:=HMK.out;omega)];rfl
   have hy:l[j+1]'(by have:=HMK.out;omega) < 4294967296:=HL.out _ (List.getElem_mem _)
   have hne3:¬ b3=w.heap.size+1:=by omega
   have cy:=HX.out.cell (HX0.out.cell hc3) hne3
   generalize l[j+1]'(by have:=HMK.out;omega)=y at *
   cases eB
   cases eC
   obtain ⟨s,t,q,hs1,hs2,hs3,hs4⟩:=down_names d y n hn hd hy
   have HS:=zH hs4
   clear hs4
   have HSt:=zH (down_step l p j n q d y hn HL.out HDE.out HYE.out HP.out HS.out.1 HE.out)
   have HRN:Hid (∃ z,Row (wr.setCell ⟨w.heap.size+1,j,none⟩ (.int .u32 (q:Nat))) 133 (w.heap.size+1) ((p ++ [q]) ++ z)∧z.length=m - (j+1)):=by
    have:=hz.set_ j q
    have e:(p ++ z0 :: zs).set j q=(p ++ [q]) ++ zs:=by rw [List.set_append_right _ _ (by have:=HP.out;omega),HP.out,Nat.sub_self,List.set_cons_zero,List.append_assoc,List.singleton_append]
    rw [e] at this
    exact ⟨zs,this,by simp at hzl;omega⟩
   have HXN:=zH (HX.out.setCell (p:=⟨w.heap.size+1,j,none⟩) (.inl rfl) (.int .u32 (q:Nat)))
   clear hz hzl HX HRj hc2 hc3
   go_wp2
   go_roundw
   case rel=>exact ⟨j+1,p ++ [q],by omega,by go_num,by simp [Hid,HP.out],by
    intro d hd
    rcases List.mem_append.1 hd with hd|hd
    ·exact HPL.out d hd
    ·simp at hd;subst hd;exact HS.out.2,HRN,HSt,HXN⟩
   case measure=>simp [intOf];omega
  ·have HYE:Hid ((0:Nat)=(l[j+1]?).getD 0):=by rw [List.getElem?_eq_none (by have:=HMK.out;omega)];rfl
   cases eB
   obtain ⟨t,q,hs2,hs3,hs4⟩:∃ t q:Nat,(d:Int) / 2 ^ n=t∧(t:Int) % 4294967296=q∧((d+0*4294967296) / 2 ^ n % 4294967296=q∧q < 4294967296) :=
    ⟨d / 2 ^ n,_,by simp,by simp;rfl,by simp,Nat.mod_lt _ om⟩
   have HS:=zH hs4
   clear hs4
   have HSt:=zH (down_step l p j n q d 0 hn HL.out HDE.out HYE.out HP.out HS.out.1 HE.out)
   have HRN:Hid (∃ z,Row (wr.setCell ⟨w.heap.size+1,j,none⟩ (.int .u32 (q:Nat))) 133 (w.heap.size+1) ((p ++ [q]) ++ z)∧z.length=m - (j+1)):=by
    have:=hz.set_ j q
    have e:(p ++ z0 :: zs).set j q=(p ++ [q]) ++ zs:=by rw [List.set_append_right _ _ (by have:=HP.out;omega),HP.out,Nat.sub_self,List.set_cons_zero,List.append_assoc,List.singleton_append]
    rw [e] at this
    exact ⟨zs,this,by simp at hzl;omega⟩
   have HXN:=zH (HX.out.setCell (p:=⟨w.heap.size+1,j,none⟩) (.inl rfl) (.int .u32 (q:Nat)))
   clear hz hzl HX HRj hc2
   go_wp2
   go_roundw
   case rel=>exact ⟨j+1,p ++ [q],by omega,by go_num,by simp [Hid,HP.out],by
    intro d hd
    rcases List.mem_append.1 hd with hd|hd
    ·exact HPL.out d hd
    ·simp at hd;subst hd;exact HS.out.2,HRN,HSt,HXN⟩
   case measure=>simp [intOf];omega
 ·obtain rfl:j=m:=by omega
  have HR:Hid (Row wr 133 (w.heap.size+1) p):=by
   obtain ⟨z,hz,hzl⟩:=HRj.out
   have:z=[]:=List.eq_nil_of_length_eq_zero om
   rw [this,List.append_nil] at hz
   exact hz
  have HV:Hid (ofD p=ofD l / 2 ^ n):=by
   have:=HE.out
   rwa [Nat.mod_eq_of_lt] at this
   refine Nat.lt_of_le_of_lt (Nat.div_le_self _ _) ?_
   have h2:=zBs l HL.out
   rwa [← HMK.out] at h2
  have HXX:=zH (HX0.out.but HX.out (by rintro g rfl;omega))
  have HCut:=zH (zBU (some ⟨w.heap.size+1,0,none⟩) j j p wr HP.out.symm (Nat.le_refl _) om HPL.out HR.out.digs)
  clear HRj HE HX
  go_wp2_with fail
  refine HCut.out.mono ?_
  rintro e w4 ⟨k4,rfl,hn4,hk4,hx4⟩
  have i2:=hx4.cell e2
  have i3:=hx4.free g2 (zAA e2)
  have i4:=setc (v:=.slice (some ⟨w.heap.size+1,0,none⟩) k4 k4) i2
  rw [HV.out] at hn4
  have HX4:=zH (HXX.out.trans hx4)
  have HN4:=zH hn4
  clear hx4 e2 g2 HCut hn4
  go_wp2
  refine bodyPost_ret (v:=.agg #[.slice (some ⟨w.heap.size+1,0,none⟩) k4 k4]) (by simp [results,Tryz.results225,go_sem,i4]) rfl ⟨_,k4,rfl,HN4.out.setBox i2 _,hk4,HX4.out.setCell (p:=⟨w.heap.size,0,none⟩) (Nat.le_refl _) _⟩
theorem win_at {pre M post:List Nat} {off i x:Nat} (hp:pre.length=off) (hx:M[i]? = some x):(pre ++ (M ++ post))[off+i]? = some x:=by
 have hi:i < M.length:=(List.getElem?_eq_some_iff.1 hx).1
 rw [List.getElem?_append_right om,hp,Nat.add_sub_cancel_left,List.getElem?_append_left hi,hx]
theorem win_set {pre M post:List Nat} {off i q:Nat} (hp:pre.length=off) (hi:i < M.length):(pre ++ (M ++ post)).set (off+i) q=pre ++ (M.set i q ++ post):=by
 rw [List.set_append_right _ _ om,hp,Nat.add_sub_cancel_left,List.set_append_left _ _ hi]
theorem away_step_nat (R c br dy z q r br' xi op vx xo:Nat) (e1:c+dy=q+4294967296*r) (e2:z+q+br=xi+4294967296*br') (h:op+vx=xo+R*c+R*br) :
  (op+R*z)+(vx+R*dy)=(xo+R*xi)+R*4294967296*r+R*4294967296*br':=by
 have h1:=congrArg (R * ·) e1
 have h2:=congrArg (R * ·) e2
 simp only [Nat.mul_add] at h1 h2
 rw [Nat.mul_assoc R 4294967296 r,Nat.mul_assoc R 4294967296 br']
 omega
theorem away_step (x v p:List Nat) (i c br y d z q r br' xi:Nat) (hx:x[i]? = some xi) (hy:y=(v[i]?).getD 0) (hp:p.length=i) (e1:c+y*d=q+4294967296*r) (e2:z+q+br=xi+4294967296*br')
  (h:ofD p+ofD (v.take i)*d=ofD (x.take i)+4294967296 ^ i*c+4294967296 ^ i*br) :
  ofD (p ++ [z])+ofD (v.take (i+1))*d=ofD (x.take (i+1))+4294967296 ^ (i+1)*r+4294967296 ^ (i+1)*br':=by
 rw [zAM x,zAM v,zBO,hp,hx,Option.getD_some,← hy,Nat.pow_succ,Nat.add_mul,Nat.mul_assoc _ y d]
 exact away_step_nat _ _ _ _ _ _ _ _ _ _ _ _ e1 e2 h
theorem away_names (c y d:Nat) (hc:c < 4294967296) (hy:y < 4294967296) (hd:d < 4294967296):∃ s q r:Nat,
  IntKind.u64.wrap ((c:Int)+IntKind.u64.wrap ((y:Int)*d))=(s:Int)∧(s:Int) % 4294967296=q∧(s:Int) / 4294967296=r∧(c+y*d=q+4294967296*r∧q < 4294967296∧r < 4294967296):=by
 obtain ⟨h1,h2,h3⟩:=mul_bound c y d 0 hc hy hd om
 obtain ⟨v,hv⟩:∃ v,y*d=v:=⟨_,rfl⟩
 rw [hv] at h1 h2 h3 ⊢
 simp only [Nat.add_zero] at h1 h2 h3
 refine ⟨c+v,(c+v) % 4294967296,(c+v) / 4294967296,?_,by omega,by omega,by omega,by omega,h3⟩
 have e:(y:Int)*d=(v:Int):=by rw [← hv];simp
 rw [e,zAk v om om,zAk _ om om]
 omega
structure AwayInv (g off d:Nat) (pre x post v:List Nat) (wr:World) (j c br:Nat) (p:List Nat):Prop where
 len:p.length=j
 lt:∀ d∈p,d < 4294967296
 row:Row wr 133 g (pre ++ ((p ++ x.drop j) ++ post))
 val:ofD p+ofD (v.take j)*d=ofD (x.take j)+4294967296 ^ j*c+4294967296 ^ j*br
 last:j≤v.length∨c=0
structure AwayPost (g:Nat) (pre x post v:List Nat) (d:Nat) (w w':World) (br:Nat) (x':List Nat):Prop where
 row:Row w' 133 g (pre ++ (x' ++ post))
 len:x'.length=x.length
 lt:∀ d∈x',d < 4294967296
 le:br≤1
 val:ofD x'+ofD v*d=ofD x+4294967296 ^ x.length*br
 ext:ExtBut (· = g) w w'
theorem away_any (g off k c0:Nat) (pre x post v:List Nat) (B:Option Addr) (m cb d:Nat) (w:World) (hpre:pre.length=off) (hk:k=x.length) (hm:m=v.length) (hmk:k=m+1) (hkm:k≤100000) (hom:off≤100000)
  (hx:∀ d∈x,d < 4294967296) (hv:∀ d∈v,d < 4294967296) (hd:d < 4294967296) (hR:Row w 133 g (pre ++ (x ++ post))) (hB:Digs w B v) (hne:∀ o,B≠some ⟨g,o,none⟩∨m=0) :
  Calls Tryz.prog 224 #[.slice (some ⟨g,off,none⟩) k c0,.slice B m cb,.int .u32 d] w fun e w'=>∃ (br:Nat) (x':List Nat),e = .returned (.bool (br != 0))∧AwayPost g pre x post v d w w' br x':=by
 have hmk1:k≤m+1:=by omega
 have hmk2:m+1≤k:=by omega
 clear hmk
 have HPre:=zH hpre;clear hpre
 have HK:=zH hk;clear hk
 have HM:=zH hm;clear hm
 have HX:=zH hx;clear hx
 have HV:=zH hv;clear hv
 have HR:=zH hR;clear hR
 have HB:=zH hB;clear hB
 have HN:=zH hne;clear hne
 go_enter Tryz.func224,Tryz.ntmps224
 go_wp2
 go_loopw [7,8,12] (fun cv bv iv wr=>∃ (j c br:Nat) (p:List Nat),j≤k∧c < 4294967296∧br≤1∧iv = .int .i64 j∧cv = .int .u64 c∧bv = .int .u32 br∧Hid (AwayInv g off d pre x post v wr j c br p)∧Hid (ExtBut (· = g) w wr)) (fun _ _ i _=>k - (intOf i).toNat)
 case atStart=>exact ⟨0,0,0,[],Nat.zero_le _,by omega,by omega,rfl,rfl,rfl,⟨rfl,by simp,by simpa using HR.out,by simp [ofD],.inl (Nat.zero_le _)⟩,ExtBut.refl _ _⟩
 obtain ⟨j,c,br,p,hj,hc,hbr,rfl,rfl,rfl,HI,HE⟩:=hrel
 by_cases h0:j < k
 ·obtain ⟨xi,hxi⟩:∃ xi,x[j]? = some xi:=⟨_,List.getElem?_eq_getElem (by have:=HK.out;omega)⟩
  have hxl:xi < 4294967296:=by obtain ⟨h1,rfl⟩:=List.getElem?_eq_some_iff.1 hxi;exact HX.out _ (List.getElem_mem h1)
  have cx:=HI.out.row.cell (win_at HPre.out (zCS HI.out.len hxi))
  have fx:=HI.out.row.free (off+j)
  by_cases h1:j < m
  ·obtain ⟨b2,o2,eB,hb2,hc2⟩:=HB.out.cell j (by have:=HM.out;omega)
   have HYE:Hid (v[j]'(by have:=HM.out;omega)=(v[j]?).getD 0):=by rw [List.getElem?_eq_getElem (by have:=HM.out;omega)];rfl
   have hy:v[j]'(by have:=HM.out;omega) < 4294967296:=HV.out _ (List.getElem_mem _)
   have hne2:¬ b2=g:=fun e=>by rcases HN.out o2 with h2|h2;exact h2 (by rw [eB,e]);omega
   have cy:=HE.out.cell hc2 hne2
   generalize v[j]'(by have:=HM.out;omega)=y at *
   cases eB
   obtain ⟨s,q,r,hs1,hs2,hs3,hs4⟩:=away_names c y d hc hy hd
   have HS:=zH hs4
   clear hs4
   obtain ⟨z,br',hz,hbr',hzb,hSub⟩:=zBh xi q br hxl HS.out.2.1 hbr
   have HSub:=zH hSub
   have HSt:=zH (away_step x v p j c br y d z q r br' xi hxi HYE.out HI.out.len HS.out.1 hzb HI.out.val)
   have HRN:Hid (Row (wr.setCell ⟨g,off+j,none⟩ (.int .u32 (z:Nat))) 133 g (pre ++ (((p ++ [z]) ++ x.drop (j+1)) ++ post))):=by
    have:=HI.out.row.set_ (off+j) z
    rwa [win_set HPre.out (by simp;have:=HI.out.len;have:=HK.out;omega),zAq HI.out.len hxi] at this
   have HXN:=zH (HE.out.setCell (p:=⟨g,off+j,none⟩) (.inl rfl) (.int .u32 (z:Nat)))
   have HP:=zH HI.out.len
   have HPL:=zH HI.out.lt
   have HZL:=zH hz
   clear hxi hzb hSub HI HE hz hc2
   go_wp2_with (go_at_call 198;refine (HSub.out _).mono ?_;rintro e w' ⟨rfl,rfl⟩)
   go_roundw
   case rel=>exact ⟨j+1,r,br',p ++ [z],by omega,HS.out.2.2,hbr',by go_num,rfl,rfl,⟨by simp [HP.out],by
    intro d hd
    rcases List.mem_append.1 hd with hd|hd
    ·exact HPL.out d hd
    ·simp at hd;subst hd;exact HZL.out,HRN.out,HSt.out,.inl (by have:=HM.out;omega)⟩,HXN⟩
   case measure=>simp [intOf];omega
  ·have hyz:Hid ((0:Nat)=(v[j]?).getD 0):=by rw [List.getElem?_eq_none (by have:=HM.out;omega)];rfl
   have hs2:(c:Int) % 4294967296=c:=by omega
   have hs3:(c:Int) / 4294967296=(0:Nat):=by omega
   obtain ⟨z,br',hz,hbr',hzb,hSub⟩:=zBh xi c br hxl hc hbr
   have HSub:=zH hSub
   have HSt:=zH (away_step x v p j c br 0 d z c 0 br' xi hxi hyz.out HI.out.len (by simp) hzb HI.out.val)
   have HRN:Hid (Row (wr.setCell ⟨g,off+j,none⟩ (.int .u32 (z:Nat))) 133 g (pre ++ (((p ++ [z]) ++ x.drop (j+1)) ++ post))):=by
    have:=HI.out.row.set_ (off+j) z
    rwa [win_set HPre.out (by simp;have:=HI.out.len;have:=HK.out;omega),zAq HI.out.len hxi] at this
   have HXN:=zH (HE.out.setCell (p:=⟨g,off+j,none⟩) (.inl rfl) (.int .u32 (z:Nat)))
   have HP:=zH HI.out.len
   have HPL:=zH HI.out.lt
   have HZL:=zH hz
   clear hxi hzb hSub HI HE hz
   go_wp2_with (go_at_call 198;refine (HSub.out _).mono ?_;rintro e w' ⟨rfl,rfl⟩)
   go_roundw
   case rel=>exact ⟨j+1,0,br',p ++ [z],by omega,om,hbr',by go_num,rfl,rfl,⟨by simp [HP.out],by
    intro d hd
    rcases List.mem_append.1 hd with hd|hd
    ·exact HPL.out d hd
    ·simp at hd;subst hd;exact HZL.out,HRN.out,HSt.out,.inr rfl⟩,HXN⟩
   case measure=>simp [intOf];omega
 ·obtain rfl:j=k:=by omega
  have hc0:Hid (c=0):=by
   rcases HI.out.last with h2|h2
   ·have:=HM.out;omega
   ·exact h2
  have HF:Hid (AwayPost g pre x post v d w wr br p):=by
   refine ⟨?_,by rw [HI.out.len,HK.out],HI.out.lt,hbr,?_,HE.out⟩
   ·have:=HI.out.row
    rwa [List.drop_eq_nil_of_le (by have:=HK.out;omega),List.append_nil] at this
   ·have:=HI.out.val
    rw [hc0.out,Nat.mul_zero,Nat.add_zero,List.take_of_length_le (by have:=HM.out;omega),List.take_of_length_le (by have:=HK.out;omega)] at this
    rw [← HK.out];exact this
  clear HI HE
  by_cases hb0:br=0
  ·subst hb0
   go_wp2
   go_ret
   exact ⟨0,p,rfl,HF.out⟩
  ·obtain rfl:br=1:=by omega
   go_wp2
   go_ret
   exact ⟨1,p,rfl,HF.out⟩
theorem guess_high (B P vt v2 vl u2 ul d rest x V X:Nat) (hV:V=(vt*B+v2)*P+vl) (hX:X=(x*B+u2)*P+ul) (hul:ul < P) (hx:x=d*vt+rest) (h:rest*B+u2 < d*v2):X < d*V:=by
 have h1:(x*B+u2+1)*P≤(d*(vt*B+v2))*P:=Nat.mul_le_mul_right _ (by
  rw [hx,Nat.add_mul,Nat.mul_add,Nat.mul_assoc];omega)
 have h2:(d*(vt*B+v2))*P≤d*V:=by rw [hV,Nat.mul_assoc];exact Nat.mul_le_mul_left _ (Nat.le_add_right _ _)
 rw [Nat.add_mul,Nat.one_mul] at h1
 omega
theorem guess_low (B P vt v2 vl u2 ul d rest x V X:Nat) (hV:V=(vt*B+v2)*P+vl) (hvl:vl < P) (hX:X=(x*B+u2)*P+ul) (hx:x=d*vt+rest) (h:d*v2≤rest*B+u2) (hd:d < B) (hvt:0 < vt):d*V≤X+V:=by
 have h1:(d*(vt*B+v2))*P≤(x*B+u2)*P:=Nat.mul_le_mul_right _ (by
  rw [hx,Nat.add_mul,Nat.mul_add,Nat.mul_assoc];omega)
 have h2:d*V≤(d*(vt*B+v2))*P+d*P:=by
  rw [hV,Nat.mul_add,← Nat.mul_assoc]
  exact Nat.add_le_add_left (Nat.mul_le_mul_left _ (Nat.le_of_lt hvl)) _
 have h3:d*P≤B*P:=Nat.mul_le_mul_right _ (Nat.le_of_lt hd)
 have h4:B*P≤(vt*B+v2)*P:=Nat.mul_le_mul_right _ (by
  have:1*B≤vt*B:=Nat.mul_le_mul_right _ hvt
  omega)
 omega
theorem guess_rest (B vt d rest x:Nat) (hx:x=d*vt+rest) (hxb:x≤vt*B+(B - 1)) (hB:0 < B) (hr:B≤rest):d < B:=by
 rcases Nat.lt_or_ge d B with h|h
 ·exact h
 ·have:B*vt≤d*vt:=Nat.mul_le_mul_right _ h
  rw [Nat.mul_comm B] at this
  omega
theorem div_one_of (X V d:Nat) (hV:0 < V) (h1:X / V≤d) (h2:d*V≤X+V):d=X / V∨d=X / V+1:=by
 have h3:d≤(X+V) / V:=(Nat.le_div_iff_mul_le hV).2 h2
 rw [Nat.add_div_right _ hV] at h3
 generalize X / V=q at *
 have:q.succ=q+1:=rfl
 omega
theorem above_of (X V d:Nat) (h:X < d*V):X / V≤d - 1∧1≤d:=by
 have hd:X / V < d:=Nat.div_lt_of_lt_mul (by rwa [Nat.mul_comm])
 generalize X / V=q at *
 omega
theorem away_right (X V d br x' M:Nat) (h:x'+V*d=X+M*br) (hbr:br≤1) (hx:x' < M) (hd:d=X / V):br=0∧x'=X % V:=by
 have h1:=Nat.div_add_mod X V
 rw [← hd] at h1
 generalize X % V=r at *
 generalize V*d=vd at *
 clear hd
 rcases Nat.eq_zero_or_pos br with h0|h0
 ·subst h0;omega
 ·obtain rfl:br=1:=by omega
  omega
theorem away_wrong (X V d br x' M:Nat) (hV:0 < V) (h:x'+V*d=X+M*br) (hbr:br≤1) (hx:x' < M) (hd:d=X / V+1):br=1∧x'+V=X % V+M:=by
 have h1:=Nat.div_add_mod X V
 have h2:=Nat.mod_lt X hV
 rw [hd,Nat.mul_add,Nat.mul_one] at h
 clear hd
 generalize X % V=r at *
 generalize V*(X / V)=vd at *
 rcases Nat.eq_zero_or_pos br with h0|h0
 ·subst h0;omega
 ·obtain rfl:br=1:=by omega
  omega
theorem top_zero (l:List Nat) (n:Nat) (hl:l.length=n+1) (h:ofD l < 4294967296 ^ n):l=l.take n ++ [0]:=by
 have e:=zAT l n om
 obtain ⟨d,hd⟩:∃ d,l.drop n=[d]:=by
  have hlen:(l.drop n).length=1:=by rw [List.length_drop];omega
  match h2:l.drop n,hlen with
  | [d],_=>exact ⟨d,rfl⟩
 rw [hd] at e
 have e2:ofD [d]=d:=by simp [ofD]
 rw [e2] at e
 have hd0:d=0:=by
  rcases Nat.eq_zero_or_pos d with h0|h0
  ·exact h0
  ·have:4294967296 ^ n*1≤4294967296 ^ n*d:=Nat.mul_le_mul_left _ h0
   omega
 rw [← hd0,← hd,List.take_append_drop]
theorem ofD_top2 (l:List Nat) (p d1 d0:Nat) (hl:l.length=p+2) (h1:l[p+1]? = some d1) (h0:l[p]? = some d0):ofD l=(d1*4294967296+d0)*4294967296 ^ p+ofD (l.take p):=by
 have e:=zAT l p om
 have e0:=zAa l p
 have e1:=zAa l (p+1)
 rw [h0,Option.getD_some] at e0
 have z1:l.drop (p+1+1)=[]:=List.drop_eq_nil_of_le om
 rw [h1,Option.getD_some,z1] at e1
 rw [e1] at e0
 simp only [ofD,Nat.mul_zero,Nat.add_zero] at e0
 rw [e,e0,Nat.mul_comm (4294967296 ^ p),Nat.mul_comm 4294967296 d1,Nat.add_comm,Nat.add_comm d0]
theorem ofD_top3 (l:List Nat) (p d2 d1 d0:Nat) (hl:l.length=p+3) (h2:l[p+2]? = some d2) (h1:l[p+1]? = some d1) (h0:l[p]? = some d0) :
  ofD l=((d2*4294967296+d1)*4294967296+d0)*4294967296 ^ p+ofD (l.take p):=by
 have e:=zAT l p om
 have e0:=zAa l p
 have e1:=zAa l (p+1)
 have e2:=zAa l (p+2)
 rw [h0,Option.getD_some] at e0
 rw [h1,Option.getD_some] at e1
 have z1:l.drop (p+2+1)=[]:=List.drop_eq_nil_of_le om
 rw [h2,Option.getD_some,z1] at e2
 rw [show p+1+1=p+2 from rfl,e2] at e1
 rw [e1] at e0
 simp only [ofD,Nat.mul_zero,Nat.add_zero] at e0
 have e3:d0+4294967296*(d1+4294967296*d2)=(d2*4294967296+d1)*4294967296+d0:=by omega
 rw [e,e0,e3,Nat.mul_comm (4294967296 ^ p),Nat.add_comm]
theorem zCC (l:List Nat) (p:Nat) (hl:∀ d∈l,d < 4294967296) (hp:p≤l.length):ofD (l.take p) < 4294967296 ^ p:=by
 have:=zBs (l.take p) (fun d hd=>hl d (List.mem_of_mem_take hd))
 rwa [List.length_take,Nat.min_eq_left hp] at this
structure Step (x v:List Nat) (n t1 t0 u2 vT v2:Nat):Prop where
 hn:2≤n
 lx:x.length=n+1
 lv:v.length=n
 dx:∀ d∈x,d < 4294967296
 dv:∀ d∈v,d < 4294967296
 x1:x[n]? = some t1
 x0:x[n - 1]? = some t0
 x2:x[n - 2]? = some u2
 v1:v[n - 1]? = some vT
 v2:v[n - 2]? = some v2
 high:2147483648≤vT
 lt:ofD x < 4294967296*ofD v
theorem zBk {l:List Nat} (hl:∀ d∈l,d < 4294967296) {i d:Nat} (h:l[i]? = some d):d < 4294967296:=by
 obtain ⟨h1,rfl⟩:=List.getElem?_eq_some_iff.1 h;exact hl _ (List.getElem_mem h1)
theorem Step.X {x v:List Nat} {n t1 t0 u2 vT v2:Nat} (h:Step x v n t1 t0 u2 vT v2):ofD x=((t1*4294967296+t0)*4294967296+u2)*4294967296 ^ (n - 2)+ofD (x.take (n - 2)):=by
 have hn:=h.hn
 refine ofD_top3 x (n - 2) t1 t0 u2 (by rw [h.lx];omega) ?_ ?_ h.x2
 ·rw [show n - 2+2=n by omega];exact h.x1
 ·rw [show n - 2+1=n - 1 by omega];exact h.x0
theorem Step.V {x v:List Nat} {n t1 t0 u2 vT v2:Nat} (h:Step x v n t1 t0 u2 vT v2):ofD v=(vT*4294967296+v2)*4294967296 ^ (n - 2)+ofD (v.take (n - 2)):=by
 have hn:=h.hn
 refine ofD_top2 v (n - 2) vT v2 (by rw [h.lv];omega) ?_ h.v2
 rw [show n - 2+1=n - 1 by omega];exact h.v1
theorem Step.xl {x v:List Nat} {n t1 t0 u2 vT v2:Nat} (h:Step x v n t1 t0 u2 vT v2):ofD (x.take (n - 2)) < 4294967296 ^ (n - 2):=zCC _ _ h.dx (by rw [h.lx];omega)
theorem Step.vl {x v:List Nat} {n t1 t0 u2 vT v2:Nat} (h:Step x v n t1 t0 u2 vT v2):ofD (v.take (n - 2)) < 4294967296 ^ (n - 2):=zCC _ _ h.dv (by rw [h.lv];omega)
theorem Step.vpos {x v:List Nat} {n t1 t0 u2 vT v2:Nat} (h:Step x v n t1 t0 u2 vT v2):0 < ofD v:=by
 have:=h.lt
 rcases Nat.eq_zero_or_pos (ofD v) with h0|h0
 ·rw [h0] at this;omega
 ·exact h0
theorem top_abs (B P T u2 vT v2 xl vl X V:Nat) (hX:X=(T*B+u2)*P+xl) (hV:V=(vT*B+v2)*P+vl) (hvl:vl < P) (hv2:v2 < B) (hlt:X < B*V):T < (vT+1)*B:=by
 rcases Nat.lt_or_ge T ((vT+1)*B) with hc|hc
 ·exact hc
 ·exfalso
  have h1:(vT+1)*B*B*P≤T*B*P:=Nat.mul_le_mul_right _ (Nat.mul_le_mul_right _ hc)
  have h2:T*B*P≤X:=by
   rw [hX];exact Nat.le_trans (Nat.mul_le_mul_right _ (Nat.le_add_right _ _)) (Nat.le_add_right _ _)
  have h3:(vT*B+v2+1)*P≤(vT+1)*B*P:=Nat.mul_le_mul_right _ (by rw [Nat.add_mul];omega)
  have h4:V≤(vT+1)*B*P:=by rw [Nat.add_mul _ 1,Nat.one_mul] at h3;omega
  have h5:B*V≤B*((vT+1)*B*P):=Nat.mul_le_mul_left _ h4
  have h6:B*((vT+1)*B*P)=(vT+1)*B*B*P:=by rw [Nat.mul_comm B,Nat.mul_assoc _ P B,Nat.mul_comm P B,← Nat.mul_assoc]
  omega
theorem first_abs (B P T u2 vT v2 xl vl X V q:Nat) (hX:X=(T*B+u2)*P+xl) (hV:V=(vT*B+v2)*P+vl) (hxl:xl < P) (hu2:u2 < B) (hq:q*V≤X):q*vT≤T:=by
 rcases Nat.lt_or_ge T (q*vT) with hc|hc
 ·exfalso
  have h1:q*(vT*B*P)≤q*V:=by
   rw [hV];exact Nat.mul_le_mul_left _ (Nat.le_trans (Nat.mul_le_mul_right _ (Nat.le_add_right _ _)) (Nat.le_add_right _ _))
  have h2:(T+1)*B*P≤q*vT*B*P:=Nat.mul_le_mul_right _ (Nat.mul_le_mul_right _ hc)
  have h3:q*vT*B*P=q*(vT*B*P):=by rw [Nat.mul_assoc q,Nat.mul_assoc q]
  have h4:(T*B+u2+1)*P≤(T+1)*B*P:=Nat.mul_le_mul_right _ (by rw [Nat.add_mul];omega)
  rw [Nat.add_mul _ 1,Nat.one_mul] at h4
  omega
 ·exact hc
theorem Step.top {x v:List Nat} {n t1 t0 u2 vT v2:Nat} (h:Step x v n t1 t0 u2 vT v2):t1*4294967296+t0 < (vT+1)*4294967296 :=
 top_abs 4294967296 (4294967296 ^ (n - 2)) _ u2 vT v2 (ofD (x.take (n - 2))) (ofD (v.take (n - 2))) (ofD x) (ofD v) h.X h.V h.vl (zBk h.dv h.v2) h.lt
theorem quot_small (T vT B:Nat) (h:T < (vT+1)*B) (hv:B≤2*vT):T / vT≤B+1:=by
 rcases Nat.eq_zero_or_pos vT with h0|h0
 ·subst h0;simp
 ·refine Nat.le_of_lt_succ (Nat.div_lt_of_lt_mul ?_)
  have e:vT*(B+1+1)=vT*B+(vT+vT):=by rw [Nat.mul_add,Nat.mul_add];omega
  rw [Nat.add_mul] at h
  show T < vT*(B+1+1)
  omega
structure Guess (x v:List Nat) (T vT d rest:Nat):Prop where
 eq:T=d*vT+rest
 rest:rest < 4294967296
 ge:ofD x / ofD v≤d
 le:d≤4294967297
theorem Step.first {x v:List Nat} {n t1 t0 u2 vT v2:Nat} (h:Step x v n t1 t0 u2 vT v2):Guess x v (t1*4294967296+t0) vT ((t1*4294967296+t0) / vT) ((t1*4294967296+t0) % vT):=by
 have hv:=h.high
 have htop:=h.top
 have hvT:=zBk h.dv h.v1
 have hq:=first_abs 4294967296 (4294967296 ^ (n - 2)) (t1*4294967296+t0) u2 vT v2 (ofD (x.take (n - 2))) (ofD (v.take (n - 2))) (ofD x) (ofD v) (ofD x / ofD v) h.X h.V h.xl (zBk h.dx h.x2) (Nat.div_mul_le_self _ _)
 refine ⟨?_,Nat.lt_trans (Nat.mod_lt _ om) hvT,(Nat.le_div_iff_mul_le om).2 hq,quot_small _ _ _ htop om⟩
 rw [Nat.mul_comm _ vT];exact (Nat.div_add_mod _ _).symm
theorem Guess.q_lt {x v:List Nat} {n t1 t0 u2 vT v2:Nat} (h:Step x v n t1 t0 u2 vT v2):ofD x / ofD v < 4294967296:=Nat.div_lt_of_lt_mul (by have:=h.lt;rwa [Nat.mul_comm (ofD v)])
theorem Guess.down {x v:List Nat} {n t1 t0 u2 vT v2 d rest:Nat} (h:Step x v n t1 t0 u2 vT v2) (g:Guess x v (t1*4294967296+t0) vT d rest) (hc:4294967296≤d∨rest*4294967296+u2 < d*v2) :
  1≤d∧ofD x / ofD v≤d - 1∧t1*4294967296+t0=(d - 1)*vT+(rest+vT):=by
 have hd:1≤d∧ofD x / ofD v≤d - 1:=by
  rcases hc with hc|hc
  ·have:=Guess.q_lt h;omega
  ·have:=above_of (ofD x) (ofD v) d (guess_high 4294967296 (4294967296 ^ (n - 2)) vT v2 (ofD (v.take (n - 2))) u2 (ofD (x.take (n - 2))) d rest (t1*4294967296+t0) (ofD v) (ofD x) h.V h.X h.xl g.eq hc)
   exact ⟨this.2,this.1⟩
 refine ⟨hd.1,hd.2,?_⟩
 rw [g.eq]
 obtain ⟨e,rfl⟩:∃ e,d=e+1:=⟨d - 1,by omega⟩
 rw [Nat.add_sub_cancel,Nat.add_mul];omega
theorem Guess.done {x v:List Nat} {n t1 t0 u2 vT v2 d rest:Nat} (h:Step x v n t1 t0 u2 vT v2) (e:t1*4294967296+t0=d*vT+rest) (hge:ofD x / ofD v≤d) (hc:d < 4294967296∧d*v2≤rest*4294967296+u2) :
  d < 4294967296∧(d=ofD x / ofD v∨d=ofD x / ofD v+1) :=
 ⟨hc.1,div_one_of _ _ _ h.vpos hge (guess_low 4294967296 (4294967296 ^ (n - 2)) vT v2 (ofD (v.take (n - 2))) u2 (ofD (x.take (n - 2))) d rest (t1*4294967296+t0) (ofD v) (ofD x) h.V h.vl h.X e hc.2 hc.1 (by have:=h.high;omega))⟩
theorem Guess.left {x v:List Nat} {n t1 t0 u2 vT v2 d rest:Nat} (h:Step x v n t1 t0 u2 vT v2) (e:t1*4294967296+t0=d*vT+rest) (hge:ofD x / ofD v≤d) (hr:4294967296≤rest) :
  d < 4294967296∧(d=ofD x / ofD v∨d=ofD x / ofD v+1):=by
 have hd:=guess_rest 4294967296 vT d rest _ e (by have:=h.top;rw [Nat.add_mul] at this;omega) om hr
 refine Guess.done h e hge ⟨hd,?_⟩
 have h1:=zBk h.dv h.v2
 have h2:d*v2≤4294967295*4294967295:=Nat.mul_le_mul om om
 omega
structure LongInv (gu go n m sh:Nat) (pu pv:List Nat) (wr:World) (j:Nat) (r qs:List Nat):Prop where
 lr:r.length=n
 dr:∀ d∈r,d < 4294967296
 lq:qs.length+j=m
 dq:∀ d∈qs,d < 4294967296
 ru:Row wr 133 gu (pu.take j ++ (r ++ List.replicate (m - j) 0))
 ro:Row wr 133 go (List.replicate j 0 ++ qs)
 val:ofD (pu.drop j)=ofD pv*ofD qs+ofD r
 lt:ofD r < ofD pv
theorem LongInv.row {gu go n m sh j u0:Nat} {pu pv r qs:List Nat} {wr:World} (h:LongInv gu go n m sh pu pv wr (j+1) r qs) (h0:pu[j]? = some u0) :
  Row wr 133 gu (pu.take j ++ ((u0 :: r) ++ List.replicate (m - (j+1)) 0)):=by
 have:=h.ru
 obtain ⟨h1,rfl⟩:=List.getElem?_eq_some_iff.1 h0
 rwa [List.take_succ_eq_append_getElem h1,List.append_assoc,List.singleton_append,← List.cons_append] at this
theorem LongInv.next {gu go n m sh j u0:Nat} {pu pv r qs x':List Nat} {wr w1:World} (h:LongInv gu go n m sh pu pv wr (j+1) r qs) (h0:pu[j]? = some u0) (lx:x'.length=n+1) (dx:∀ d∈x',d < 4294967296)
  (hv:ofD x'=ofD (u0 :: r) % ofD pv) (hVn:ofD pv < 4294967296 ^ n) (hq:ofD (u0 :: r) / ofD pv < 4294967296)
  (hru:Row w1 133 gu (pu.take j ++ (x' ++ List.replicate (m - (j+1)) 0))) (hro:Row w1 133 go ((List.replicate (j+1) 0 ++ qs).set j (ofD (u0 :: r) / ofD pv))) :
  LongInv gu go n m sh pu pv w1 j (x'.take n) ((ofD (u0 :: r) / ofD pv) :: qs):=by
 have hpos:0 < ofD pv:=by have:=h.lt;omega
 have hlt:ofD x' < ofD pv:=by rw [hv];exact Nat.mod_lt _ hpos
 have htop:=top_zero x' n lx (Nat.lt_trans hlt hVn)
 have hjm:j+1≤m:=by have:=h.lq;omega
 have hval:ofD (x'.take n)=ofD x':=by
  have e:=zBE (x'.take n) [0]
  rw [← htop] at e
  rw [e];simp [ofD]
 refine ⟨by rw [List.length_take,lx];omega,fun d hd=>dx d (List.mem_of_mem_take hd),by have:=h.lq;simp only [List.length_cons];omega,?_,?_,?_,?_,by rw [hval];exact hlt⟩
 ·intro d hd
  rcases List.mem_cons.1 hd with rfl|hd
  ·exact hq
  ·exact h.dq d hd
 ·have e:x'.take n ++ List.replicate (m - j) 0=x' ++ List.replicate (m - (j+1)) 0:=by
   conv=>rhs;rw [htop]
   rw [List.append_assoc,List.singleton_append,← List.replicate_succ,show m - (j+1)+1=m - j by omega]
  rw [e];exact hru
 ·have e:(List.replicate (j+1) 0 ++ qs).set j (ofD (u0 :: r) / ofD pv)=List.replicate j 0 ++ (ofD (u0 :: r) / ofD pv :: qs):=by
   rw [List.replicate_succ',List.append_assoc,List.set_append_right _ _ (by simp),List.length_replicate,Nat.sub_self];rfl
  rwa [e] at hro
 ·rw [hval,hv,zAa,h0,Option.getD_some,h.val]
  have hx:ofD (u0 :: r)=u0+4294967296*ofD r:=rfl
  have hd:=Nat.div_add_mod (ofD (u0 :: r)) (ofD pv)
  generalize ofD (u0 :: r) / ofD pv=q at *
  generalize ofD (u0 :: r) % ofD pv=rr at *
  show _=ofD pv*(q+4294967296*ofD qs)+rr
  have e1:ofD pv*(q+4294967296*ofD qs)=ofD pv*q+4294967296*(ofD pv*ofD qs):=by rw [Nat.mul_add,Nat.mul_left_comm]
  rw [e1,Nat.mul_add]
  omega
theorem LongInv.xlt {gu go n m sh j u0:Nat} {pu pv r qs:List Nat} {wr:World} (h:LongInv gu go n m sh pu pv wr (j+1) r qs) (hu:u0 < 4294967296):ofD (u0 :: r) < 4294967296*ofD pv:=by
 have h1:4294967296*(ofD r+1)≤4294967296*ofD pv:=Nat.mul_le_mul_left _ h.lt
 show u0+4294967296*ofD r < _
 omega
theorem norm_fit (b n vt:Nat) (hn:n=(digs b).length) (hn1:1≤n) (hvt:(digs b)[n - 1]? = some vt):bitsN vt≤32∧1≤bitsN vt∧b*2 ^ (32 - bitsN vt) < 4294967296 ^ n∧4294967296 ^ n≤2*(b*2 ^ (32 - bitsN vt)):=by
 obtain ⟨n',hn'⟩:∃ n',n=n':=⟨n,rfl⟩
 have hn2:n'=n:=hn'.symm
 subst hn
 have hb:b≠0:=by rintro rfl;rw [zAl] at hn1;simp at hn1
 obtain ⟨h1,h2⟩:=List.getElem?_eq_some_iff.1 hvt
 have hd:=zAS b vt (by rw [← h2];exact List.getElem_mem h1)
 have hbd:=bits_digs b hb om
 rw [h2] at hbd
 have hle:=(zAW vt 32).2 om
 have hne:digs b≠[]:=by intro e;rw [e] at hn1;simp at hn1
 have hv0:vt≠0:=by have:=digs_last b hne;rw [List.getLast_eq_getElem,h2] at this;exact this
 have hpos:=zAf hv0
 have u:=(zAW b (bitsN b)).1 (Nat.le_refl _)
 have l:2 ^ (bitsN b - 1)≤b:=by
  rcases Nat.lt_or_ge b (2 ^ (bitsN b - 1)) with h|h
  ·have:=(zAW b (bitsN b - 1)).2 h;omega
  ·exact h
 clear h2 hvt hne
 rw [← hn2] at *
 clear hn2 h1
 generalize n'=n at *
 have hB:(4294967296:Nat) ^ n=2 ^ (32*n):=by rw [Nat.pow_mul]
 refine ⟨hle,hpos,?_,?_⟩
 ·rw [hB,show 32*n=bitsN b+(32 - bitsN vt) by omega,Nat.pow_add]
  exact Nat.mul_lt_mul_of_pos_right u (Nat.two_pow_pos _)
 ·rw [hB,show 32*n=1+((bitsN b - 1)+(32 - bitsN vt)) by omega,Nat.pow_add,Nat.pow_add,Nat.pow_one]
  exact Nat.mul_le_mul_left _ (Nat.mul_le_mul_right _ l)
theorem high_of (v:List Nat) (n vT:Nat) (hl:v.length=n) (hn:1≤n) (hv:v[n - 1]? = some vT) (hd:∀ d∈v,d < 4294967296) (h:4294967296 ^ n≤2*ofD v):2147483648≤vT:=by
 have e:=zAM v (n - 1)
 rw [show n - 1+1=n by omega,List.take_of_length_le om,hv,Option.getD_some] at e
 have hlt:=zCC v (n - 1) hd om
 have hB:(4294967296:Nat) ^ n=4294967296*4294967296 ^ (n - 1):=by
  obtain ⟨k,rfl⟩:∃ k,n=k+1:=⟨n - 1,by omega⟩
  rw [Nat.add_sub_cancel,Nat.pow_succ,Nat.mul_comm]
 rw [hB,e] at h
 generalize 4294967296 ^ (n - 1)=P at *
 generalize ofD (v.take (n - 1))=t at *
 rcases Nat.lt_or_ge vT 2147483648 with h2|h2
 ·exfalso
  have h3:P*(vT+1)≤P*2147483648:=Nat.mul_le_mul_left _ h2
  rw [Nat.mul_add] at h3
  omega
 ·exact h2
theorem long_start (gu go n m sh k a:Nat) (pu pv:List Nat) (wr:World) (hk:k+1=m+n) (hn:1≤n) (hs:sh < 32) (ha:a < 4294967296 ^ k) (lu:pu.length=k+1) (du:∀ d∈pu,d < 4294967296)
  (hu:ofD pu=a*2 ^ sh) (hV:4294967296 ^ n≤2*ofD pv) (hru:Row wr 133 gu pu) (hro:Row wr 133 go (List.replicate m 0)):LongInv gu go n m sh pu pv wr m (pu.drop m) []:=by
 refine ⟨by rw [List.length_drop];omega,fun d hd=>du d (List.mem_of_mem_drop hd),by simp,by simp,?_,by simpa using hro,by simp [ofD],?_⟩
 ·rw [Nat.sub_self,List.replicate_zero,List.append_nil,List.take_append_drop];exact hru
 ·rw [← zCl pu m du,hu]
  refine Nat.div_lt_of_lt_mul ?_
  have h1:a*2 ^ sh < 4294967296 ^ k*2 ^ sh:=Nat.mul_lt_mul_of_pos_right ha (Nat.two_pow_pos _)
  have h2:4294967296 ^ k*2 ^ sh≤4294967296 ^ k*2147483648:=Nat.mul_le_mul_left _ (by
   have:2 ^ sh≤2 ^ 31:=Nat.pow_le_pow_right om om
   omega)
  have h3:4294967296 ^ m*4294967296 ^ n=4294967296 ^ k*4294967296:=by rw [← Nat.pow_add,← hk,Nat.pow_succ]
  have h4:4294967296 ^ m*4294967296 ^ n≤4294967296 ^ m*(2*ofD pv):=Nat.mul_le_mul_left _ hV
  have h5:4294967296 ^ m*(2*ofD pv)=2*(4294967296 ^ m*ofD pv):=by rw [Nat.mul_left_comm]
  omega
theorem long_end (gu go n m sh a b:Nat) (pu pv r qs:List Nat) (wr:World) (h:LongInv gu go n m sh pu pv wr 0 r qs) (hu:ofD pu=a*2 ^ sh) (hv:ofD pv=b*2 ^ sh) (hb:0 < b) :
  ofD qs=a / b∧ofD (r ++ List.replicate m 0) / 2 ^ sh=a % b:=by
 have hval:=h.val
 rw [List.drop_zero,hu,hv] at hval
 have hlt:=h.lt
 rw [hv] at hlt
 have e0:ofD (r ++ List.replicate m 0)=ofD r:=by rw [zBE,zBN,Nat.mul_zero,Nat.add_zero]
 rw [e0]
 have h1:a*2 ^ sh / 2 ^ sh=(b*2 ^ sh*ofD qs+ofD r) / 2 ^ sh:=by rw [hval]
 rw [Nat.mul_div_cancel _ (Nat.two_pow_pos sh),show b*2 ^ sh*ofD qs=2 ^ sh*(b*ofD qs) by rw [Nat.mul_comm b,Nat.mul_assoc],Nat.mul_add_div (Nat.two_pow_pos sh)] at h1
 have h2:ofD r / 2 ^ sh < b:=Nat.div_lt_of_lt_mul (by rwa [Nat.mul_comm])
 generalize ofD r / 2 ^ sh=rr at *
 generalize ofD qs=q at *
 subst h1
 rw [Nat.mul_add_div hb,Nat.div_eq_of_lt h2,Nat.add_zero,Nat.mul_add_mod,Nat.mod_eq_of_lt h2]
 exact ⟨rfl,rfl⟩
end Go.Proofs.YtdkgilioejdmeaaGreat
