/- YtdkgilioejdmeaaGreatBA3: what is proved here stands in the theorems' own rows. -/
import Derived.BigQuiet
import Derived.Deep.LoopGhost
import Derived.Laws.OwnMore
import Derived.Deep.RegionHeld3
import Derived.Deep.DeepCutAuto
import Derived.Test.YtdkgilioejdmeaaGreatBA1
import Derived.Test.YtdkgilioejdmeaaGreatBA2
set_option linter.unusedVariables false
set_option linter.unusedSimpArgs false
namespace Go.Proofs.YtdkgilioejdmeaaGreat
open Go.RowKit
theorem zQuo_ok (na nb:Bool) (A B:Option Addr) (k m:Nat) (a b:Int) (w:World) (ha:IsInt w na A k a) (hb:IsInt w nb B m b) (hb0:b≠0) :
  Calls Tryz.prog 183 #[.agg #[.bool na,.slice A k k],.agg #[.bool nb,.slice B m m]] w fun e w'=>∃ n A' k' A2 k2,e = .returned (.tuple #[.agg #[.bool n,.slice A' k' k'],.agg #[.bool false,.slice A2 k2 k2],.int .i64 0])∧IsInt w' n A' k' (a / b)∧IsInt w' false A2 k2 (a % b)∧Ext w w':=by
 cases na
 ·exact zQuo_pos nb A B k m a b w ha hb hb0
 ·by_cases h:a.natAbs % b.natAbs=0
  ·exact zQuo_negz nb A B k m a b w ha hb hb0 h
  ·exact zQuo_negr nb A B k m a b w ha hb hb0 h
def exactZ (a b:Int):Int:=if b=0 then 0 else if a % b=0 then a / b else 0
def codeX (a b:Int):Int:=if b=0 then 11 else if a % b=0 then 0 else 2
theorem zBX (w:World):IsInt w false none 0 0:=⟨zA3 w,by simp,by decide⟩
theorem zExact_zero (na nb:Bool) (A B:Option Addr) (k m:Nat) (a:Int) (w:World) (ha:IsInt w na A k a) (hb:IsInt w nb B m 0) :
  Calls Tryz.prog 130 #[.agg #[.bool na,.slice A k k],.agg #[.bool nb,.slice B m m]] w fun e w'=>e = .returned (.tuple #[.agg #[.bool false,.slice none 0 0],.int .i64 11])∧Ext w w':=by
 obtain ⟨W0,HWW0,hXW0,hsW0,c0a,f0a,c0b,f0b,c1a,f1a,c1b,f1b,c2a,f2a,c2b,f2b⟩:=bx222 w 49 49 49 (.bool na) (.slice A k k) (.bool nb) (.slice B m m) (.bool false) (.slice none 0 0)
 have HX:=zH hXW0
 have HC:=zH (zQuo_zero na nb A B k m a W0 (ha.ext hXW0) (hb.ext hXW0))
 clear hXW0 ha hb
 go_enter Tryz.func130,Tryz.ntmps130
 go_wp2_with fail
 rw [HWW0.out]
 refine HC.out.mono ?_
 rintro e w1 ⟨rfl,hx⟩
 replace f2a:=hx.free f2a (zAA c2a)
 replace c2a:=hx.cell c2a
 replace f2b:=hx.free f2b (zAA c2b)
 replace c2b:=hx.cell c2b
 have hX:=zH (HX.out.trans hx)
 have hs1:w.heap.size+3≤w1.heap.size:=Nat.le_trans hsW0 hx.size
 have l0:w.heap.size < w1.heap.size:=by omega
 have l1:w.heap.size+1 < w1.heap.size:=by omega
 have l2:w.heap.size+1+1 < w1.heap.size:=by omega
 clear hx HX HC HWW0 hsW0 c0a c0b c1a c1b f0a f0b f1a f1b
 go_wp2
 obtain ⟨W2,hWW2⟩:∃ W2:World,(w1.setCell ⟨w.heap.size+1+1,0,none⟩ (.bool false)).setCell ⟨w.heap.size+1+1,1,none⟩ (.slice none 0 0)=W2:=⟨_,rfl⟩
 have z2a:W2.cell? ⟨w.heap.size+1+1,0,none⟩=some (.bool false):=by rw [← hWW2];simp [go_sem,c2a,c2b]
 have zf2a:W2.frozen? ⟨w.heap.size+1+1,0,none⟩=false:=by rw [← hWW2];simp [go_sem,f2a,f2b]
 have z2b:W2.cell? ⟨w.heap.size+1+1,1,none⟩=some (.slice none 0 0):=by rw [← hWW2];simp [go_sem,c2a,c2b]
 have zf2b:W2.frozen? ⟨w.heap.size+1+1,1,none⟩=false:=by rw [← hWW2];simp [go_sem,f2a,f2b]
 have znW2:∀ (A:Option Addr) (k n:Nat),IsNat w1 A k n→IsNat W2 A k n:=by intro A k n h;rw [← hWW2];exact ((h.setBool c2a _).setBox (by rw [World.cell?_setCell_other _ _ _ _ (by intro h;injection h with h1 h2;omega)];exact c2b) _)
 have zxW2:∀ a:World,Ext a w1→a.heap.size≤w.heap.size→Ext a W2:=by intro a h hs;rw [← hWW2];exact (by repeat (first|exact h|refine Ext.setCell ?_ (by first|(simp only [];omega)) _))
 have HWW2:=zH hWW2
 clear hWW2
 have hX2:Hid (Ext w W2):=zxW2 w hX.out (Nat.le_refl _)
 rw [HWW2.out]
 obtain ⟨W3,HWW3,hXW3,hsW3,cd0a,fd0a,cd0b,fd0b,cd1a,fd1a,cd1b,fd1b⟩:=bx22 W2 49 49 (.bool false) (.slice none 0 0) (.bool false) (.slice none 0 0)
 replace z2a:=hXW3.cell z2a
 replace z2b:=hXW3.cell z2b
 rw [HWW3.out]
 exact bodyPost_ret (v:=.tuple #[.agg #[.bool false,.slice none 0 0],.int .i64 11]) (by simp [results,Tryz.results130,go_sem,z2a,z2b]) rfl ⟨rfl,hX2.out.trans hXW3⟩
theorem zExact_ok (na nb:Bool) (A B:Option Addr) (k m:Nat) (a b:Int) (w:World) (ha:IsInt w na A k a) (hb:IsInt w nb B m b) (hb0:b≠0) (h0:a % b=0) :
  Calls Tryz.prog 130 #[.agg #[.bool na,.slice A k k],.agg #[.bool nb,.slice B m m]] w fun e w'=>∃ n A' k',e = .returned (.tuple #[.agg #[.bool n,.slice A' k' k'],.int .i64 0])∧IsInt w' n A' k' (a / b)∧Ext w w':=by
 obtain ⟨W0,HWW0,hXW0,hsW0,c0a,f0a,c0b,f0b,c1a,f1a,c1b,f1b,c2a,f2a,c2b,f2b⟩:=bx222 w 49 49 49 (.bool na) (.slice A k k) (.bool nb) (.slice B m m) (.bool false) (.slice none 0 0)
 have HX:=zH hXW0
 have HC:=zH (zQuo_ok na nb A B k m a b W0 (ha.ext hXW0) (hb.ext hXW0) hb0)
 have HZ:=zH h0
 clear hXW0 ha hb h0
 go_enter Tryz.func130,Tryz.ntmps130
 go_wp2_with fail
 rw [HWW0.out]
 refine HC.out.mono ?_
 rintro e w1 ⟨n,A',k',A2,k2,rfl,hn,hr,hx⟩
 replace f2a:=hx.free f2a (zAA c2a)
 replace c2a:=hx.cell c2a
 replace f2b:=hx.free f2b (zAA c2b)
 replace c2b:=hx.cell c2b
 have hX:=zH (HX.out.trans hx)
 have hs1:w.heap.size+3≤w1.heap.size:=Nat.le_trans hsW0 hx.size
 have HN:=zH hn
 have HR:=zH hr
 have l0:w.heap.size < w1.heap.size:=by omega
 have l1:w.heap.size+1 < w1.heap.size:=by omega
 have l2:w.heap.size+1+1 < w1.heap.size:=by omega
 clear hx hn hr HX HC HWW0 hsW0 c0a c0b c1a c1b f0a f0b f1a f1b
 go_wp2_with fail
 obtain ⟨W1,HWW1,hXW1,hsW1,cd0a,fd0a,cd0b,fd0b,cd1a,fd1a,cd1b,fd1b⟩:=bx22 w1 49 49 (.bool n) (.slice A' k' k') (.bool false) (.slice A2 k2 k2)
 replace f2a:=hXW1.free f2a (zAA c2a)
 replace c2a:=hXW1.cell c2a
 replace f2b:=hXW1.free f2b (zAA c2b)
 replace c2b:=hXW1.cell c2b
 have HS:=zH (zBa false A2 k2 (a % b) W1 (HR.out.ext hXW1))
 have hX1:=zH (hX.out.trans hXW1)
 have HN1:=zH (HN.out.ext hXW1)
 have hsz:signZ (a % b)=0:=by rw [HZ.out];rfl
 rw [hsz] at HS
 rw [HWW1.out]
 clear hXW1 hX HN HR hsz HWW1
 refine HS.out.mono ?_
 rintro e w2 ⟨rfl,hx⟩
 replace f2a:=hx.free f2a (zAA c2a)
 replace c2a:=hx.cell c2a
 replace f2b:=hx.free f2b (zAA c2b)
 replace c2b:=hx.cell c2b
 replace cd0a:=hx.cell cd0a
 replace cd0b:=hx.cell cd0b
 have hX2:=zH (hX1.out.trans hx)
 have HN2:=zH (HN1.out.ext hx)
 clear hx hX1 HN1 HS
 go_wp2
 obtain ⟨W3,hWW3⟩:∃ W3:World,(w2.setCell ⟨w.heap.size+1+1,0,none⟩ (.bool n)).setCell ⟨w.heap.size+1+1,1,none⟩ (.slice A' k' k')=W3:=⟨_,rfl⟩
 have z2a:W3.cell? ⟨w.heap.size+1+1,0,none⟩=some (.bool n):=by rw [← hWW3];simp [go_sem,c2a,c2b]
 have zf2a:W3.frozen? ⟨w.heap.size+1+1,0,none⟩=false:=by rw [← hWW3];simp [go_sem,f2a,f2b]
 have z2b:W3.cell? ⟨w.heap.size+1+1,1,none⟩=some (.slice A' k' k'):=by rw [← hWW3];simp [go_sem,c2a,c2b]
 have zf2b:W3.frozen? ⟨w.heap.size+1+1,1,none⟩=false:=by rw [← hWW3];simp [go_sem,f2a,f2b]
 have znW3:∀ (A:Option Addr) (k n:Nat),IsNat w2 A k n→IsNat W3 A k n:=by intro A k n h;rw [← hWW3];exact ((h.setBool c2a _).setBox (by rw [World.cell?_setCell_other _ _ _ _ (by intro h;injection h with h1 h2;omega)];exact c2b) _)
 have zxW3:∀ a:World,Ext a w2→a.heap.size≤w.heap.size→Ext a W3:=by intro a h hs;rw [← hWW3];exact (by repeat (first|exact h|refine Ext.setCell ?_ (by first|(simp only [];omega)) _))
 have HWW3:=zH hWW3
 clear hWW3
 rw [HWW3.out]
 exact bodyPost_ret (v:=.tuple #[.agg #[.bool n,.slice A' k' k'],.int .i64 0]) (by simp [results,Tryz.results130,go_sem,z2a,z2b]) rfl ⟨n,A',k',rfl,⟨znW3 _ _ _ HN2.out.nat,HN2.out.sign,HN2.out.bits⟩,zxW3 w hX2.out (Nat.le_refl _)⟩
theorem zExact_no (na nb:Bool) (A B:Option Addr) (k m:Nat) (a b:Int) (w:World) (ha:IsInt w na A k a) (hb:IsInt w nb B m b) (hb0:b≠0) (h0:a % b≠0) :
  Calls Tryz.prog 130 #[.agg #[.bool na,.slice A k k],.agg #[.bool nb,.slice B m m]] w fun e w'=>e = .returned (.tuple #[.agg #[.bool false,.slice none 0 0],.int .i64 2])∧Ext w w':=by
 obtain ⟨W0,HWW0,hXW0,hsW0,c0a,f0a,c0b,f0b,c1a,f1a,c1b,f1b,c2a,f2a,c2b,f2b⟩:=bx222 w 49 49 49 (.bool na) (.slice A k k) (.bool nb) (.slice B m m) (.bool false) (.slice none 0 0)
 have HX:=zH hXW0
 have HC:=zH (zQuo_ok na nb A B k m a b W0 (ha.ext hXW0) (hb.ext hXW0) hb0)
 have HZ:Hid (signZ (a % b)=1):=by unfold signZ Hid;rw [if_neg h0,if_neg (by have:=Int.emod_nonneg a hb0;omega)]
 clear hXW0 ha hb h0
 go_enter Tryz.func130,Tryz.ntmps130
 go_wp2_with fail
 rw [HWW0.out]
 refine HC.out.mono ?_
 rintro e w1 ⟨n,A',k',A2,k2,rfl,hn,hr,hx⟩
 replace f2a:=hx.free f2a (zAA c2a)
 replace c2a:=hx.cell c2a
 replace f2b:=hx.free f2b (zAA c2b)
 replace c2b:=hx.cell c2b
 have hX:=zH (HX.out.trans hx)
 have hs1:w.heap.size+3≤w1.heap.size:=Nat.le_trans hsW0 hx.size
 have HR:=zH hr
 have l0:w.heap.size < w1.heap.size:=by omega
 have l1:w.heap.size+1 < w1.heap.size:=by omega
 have l2:w.heap.size+1+1 < w1.heap.size:=by omega
 clear hx hn hr HX HC HWW0 hsW0 c0a c0b c1a c1b f0a f0b f1a f1b
 go_wp2_with fail
 obtain ⟨W1,HWW1,hXW1,hsW1,cd0a,fd0a,cd0b,fd0b,cd1a,fd1a,cd1b,fd1b⟩:=bx22 w1 49 49 (.bool n) (.slice A' k' k') (.bool false) (.slice A2 k2 k2)
 replace f2a:=hXW1.free f2a (zAA c2a)
 replace c2a:=hXW1.cell c2a
 replace f2b:=hXW1.free f2b (zAA c2b)
 replace c2b:=hXW1.cell c2b
 have HS:=zH (zBa false A2 k2 (a % b) W1 (HR.out.ext hXW1))
 have hX1:=zH (hX.out.trans hXW1)
 have HS':=HS.out
 rw [HZ.out] at HS'
 have HS2:=zH HS'
 rw [HWW1.out]
 clear hXW1 hX HR HWW1 HS HS'
 refine HS2.out.mono ?_
 rintro e w2 ⟨rfl,hx⟩
 replace f2a:=hx.free f2a (zAA c2a)
 replace c2a:=hx.cell c2a
 replace f2b:=hx.free f2b (zAA c2b)
 replace c2b:=hx.cell c2b
 have hX2:=zH (hX1.out.trans hx)
 clear hx hX1 HS2
 go_wp2
 obtain ⟨W3,hWW3⟩:∃ W3:World,(w2.setCell ⟨w.heap.size+1+1,0,none⟩ (.bool false)).setCell ⟨w.heap.size+1+1,1,none⟩ (.slice none 0 0)=W3:=⟨_,rfl⟩
 have z2a:W3.cell? ⟨w.heap.size+1+1,0,none⟩=some (.bool false):=by rw [← hWW3];simp [go_sem,c2a,c2b]
 have zf2a:W3.frozen? ⟨w.heap.size+1+1,0,none⟩=false:=by rw [← hWW3];simp [go_sem,f2a,f2b]
 have z2b:W3.cell? ⟨w.heap.size+1+1,1,none⟩=some (.slice none 0 0):=by rw [← hWW3];simp [go_sem,c2a,c2b]
 have zf2b:W3.frozen? ⟨w.heap.size+1+1,1,none⟩=false:=by rw [← hWW3];simp [go_sem,f2a,f2b]
 have znW3:∀ (A:Option Addr) (k n:Nat),IsNat w2 A k n→IsNat W3 A k n:=by intro A k n h;rw [← hWW3];exact ((h.setBool c2a _).setBox (by rw [World.cell?_setCell_other _ _ _ _ (by intro h;injection h with h1 h2;omega)];exact c2b) _)
 have zxW3:∀ a:World,Ext a w2→a.heap.size≤w.heap.size→Ext a W3:=by intro a h hs;rw [← hWW3];exact (by repeat (first|exact h|refine Ext.setCell ?_ (by first|(simp only [];omega)) _))
 have HWW3:=zH hWW3
 clear hWW3
 rw [HWW3.out]
 exact bodyPost_ret (v:=.tuple #[.agg #[.bool false,.slice none 0 0],.int .i64 2]) (by simp [results,Tryz.results130,go_sem,z2a,z2b]) rfl ⟨rfl,zxW3 w hX2.out (Nat.le_refl _)⟩
theorem zCg (na nb:Bool) (A B:Option Addr) (k m:Nat) (a b:Int) (w:World) (ha:IsInt w na A k a) (hb:IsInt w nb B m b) :
  Calls Tryz.prog 130 #[.agg #[.bool na,.slice A k k],.agg #[.bool nb,.slice B m m]] w fun e w'=>∃ n A' k',e = .returned (.tuple #[.agg #[.bool n,.slice A' k' k'],.int .i64 (codeX a b)])∧IsInt w' n A' k' (exactZ a b)∧Ext w w':=by
 unfold codeX exactZ
 by_cases hb0:b=0
 ·subst hb0
  rw [if_pos rfl,if_pos rfl]
  exact (zExact_zero na nb A B k m a w ha hb).mono fun e w' ⟨he,hx⟩=>⟨false,none,0,he,zBX _,hx⟩
 ·rw [if_neg hb0,if_neg hb0]
  by_cases h0:a % b=0
  ·rw [if_pos h0,if_pos h0];exact zExact_ok na nb A B k m a b w ha hb hb0 h0
  ·rw [if_neg h0,if_neg h0]
   exact (zExact_no na nb A B k m a b w ha hb hb0 h0).mono fun e w' ⟨he,hx⟩=>⟨false,none,0,he,zBX _,hx⟩
def u64N (n:Nat):Nat:=if n < 18446744073709551616 then n else 0
def u64B (n:Nat):Bool:=decide (n < 18446744073709551616)
theorem digs_one {n d:Nat} (hl:(digs n).length=1) (h:(digs n)[0]? = some d):n=d:=by
 have e:=zAH n
 match hd:digs n,hl with
 | [x],_=>rw [hd] at e h;simp at h;subst h;simpa [ofD] using e.symm
theorem digs_two {n d0 d1:Nat} (hl:(digs n).length=2) (h0:(digs n)[0]? = some d0) (h1:(digs n)[1]? = some d1):n=d1*4294967296+d0:=by
 have e:=zAH n
 match hd:digs n,hl with
 | [x,y],_=>rw [hd] at e h0 h1;simp at h0 h1;subst h0;subst h1;simp only [ofD] at e;omega
theorem digs_three {n:Nat} (hl:3≤(digs n).length):18446744073709551616≤n:=by
 rcases Nat.lt_or_ge n 18446744073709551616 with h|h
 ·have:=zBj n 2 (show bitsN n≤32*2 from (zAW n 64).2 om)
  omega
 ·exact h
theorem Uint64_any (A:Option Addr) (k n:Nat) (w:World) (h:IsNat w A k n) (hk:k≤10000) :
  Calls Tryz.prog 151 #[.agg #[.slice A k k]] w fun e w'=>e = .returned (.tuple #[.int .u64 (u64N n:Nat),.bool (u64B n)])∧Ext w w':=by
 have hl:=h.1
 by_cases k0:k=0
 ·subst k0
  obtain rfl:n=0:=h.k_zero.1 rfl
  clear h hl
  go_enter Tryz.func151,Tryz.ntmps151
  go_wp2
  go_ret2
  exact ⟨rfl,(Ext.refl w).alloc _⟩
 ·by_cases k1:k=1
  ·subst k1
   obtain ⟨b,off,d,rfl,hb,hd,hdl,hc⟩:=h.cell 0 om
   obtain rfl:n=d:=digs_one hl.symm hd
   rw [Nat.add_zero] at hc
   have hw:IntKind.u64.wrap (n:Int)=(n:Int):=zAk _ om om
   have HU:Hid (u64N n=n∧u64B n=true):=⟨by unfold u64N;rw [if_pos om],by unfold u64B;simp;omega⟩
   clear h hl hd k0
   go_enter Tryz.func151,Tryz.ntmps151
   go_wp2
   go_ret2
   rw [HU.out.1,HU.out.2]
   exact ⟨rfl,(Ext.refl w).alloc _⟩
  ·by_cases k2:k=2
   ·subst k2
    obtain ⟨b,off,d0,rfl,hb,hd0,hdl0,hc0⟩:=h.cell 0 om
    obtain ⟨b1,off1,d1,e1,hb1,hd1,hdl1,hc1⟩:=h.cell 1 om
    injection e1 with e1
    injection e1 with e1 e2
    subst e1;subst e2
    have hn:n=d1*4294967296+d0:=digs_two hl.symm hd0 hd1
    rw [Nat.add_zero] at hc0
    have hw0:IntKind.u64.wrap (d0:Int)=(d0:Int):=zAk _ om om
    have hw1:IntKind.u64.wrap (d1:Int)=(d1:Int):=zAk _ om om
    have hw2:IntKind.u64.wrap ((d1:Int)*4294967296)=(d1:Int)*4294967296:=by
     have:(d1:Int)*4294967296=((d1*4294967296:Nat):Int):=by omega
     rw [this];exact zAk _ om om
    have ho:bits .or .u64 ((d1:Int)*4294967296) d0=(n:Int):=by rw [zCv d1 d0 hdl1 hdl0,hn]
    have HU:Hid (u64N n=n∧u64B n=true):=⟨by unfold u64N;rw [if_pos om],by unfold u64B;simp;omega⟩
    clear h hl hd0 hd1 hb1 k0 k1 hn
    go_enter Tryz.func151,Tryz.ntmps151
    go_wp2
    go_quiet (fail)
    go_wp2
    go_ret2
    rw [HU.out.1,HU.out.2]
    exact ⟨rfl,((Ext.refl w).alloc _).drewN _⟩
   ·have h3:=digs_three (n:=n) om
    have HU:Hid (u64N n=0∧u64B n=false):=⟨by unfold u64N;rw [if_neg om],by unfold u64B;simp;omega⟩
    have b0:((k:Int) == 0)=false:=by rw [beq_eq_false_iff_ne];omega
    have b1:((k:Int) == 1)=false:=by rw [beq_eq_false_iff_ne];omega
    have b2:((k:Int) == 2)=false:=by rw [beq_eq_false_iff_ne];omega
    clear h hl h3 k0 k1 k2
    go_enter Tryz.func151,Tryz.ntmps151
    go_wp2
    go_ret2
    rw [HU.out.1,HU.out.2]
    exact ⟨rfl,(Ext.refl w).alloc _⟩
def i64Z (z:Int):Int:=if -9223372036854775808≤z∧z≤9223372036854775807 then z else 0
def i64B (z:Int):Bool:=decide (-9223372036854775808≤z∧z≤9223372036854775807)
set_option maxHeartbeats 1000000 in
theorem zCJ (neg:Bool) (A:Option Addr) (k:Nat) (z:Int) (w:World) (h:IsInt w neg A k z) :
  Calls Tryz.prog 107 #[.agg #[.bool neg,.slice A k k]] w fun e w'=>e = .returned (.tuple #[.int .i64 (i64Z z),.bool (i64B z)])∧Ext w w':=by
 obtain ⟨W0,HWW0,hXW0,hsW0,c0a,f0a,c0b,f0b⟩:=bx2 w 49 (.bool neg) (.slice A k k)
 have HX:=zH hXW0
 have hk:=h.k
 have HC:=zH (Uint64_any A k z.natAbs W0 (h.nat.ext hXW0) om)
 have hs:=h.sign
 obtain ⟨u,hu⟩:∃ u,u64N z.natAbs=u:=⟨_,rfl⟩
 obtain ⟨b,hb⟩:∃ b,u64B z.natAbs=b:=⟨_,rfl⟩
 have hu2:b=true→u=z.natAbs∧z.natAbs < 18446744073709551616:=fun h=>by
  rw [← hb] at h;unfold u64B at h;simp at h
  exact ⟨by rw [← hu];unfold u64N;rw [if_pos h],h⟩
 have hb2:b=false→¬ z.natAbs < 18446744073709551616:=fun h=>by rw [← hb] at h;unfold u64B at h;simpa using h
 rw [hu,hb] at HC
 clear h hXW0 hu hb hk
 cases b with
 | false =>
  have hz:=hb2 rfl
  have HE:Hid (i64Z z=0∧i64B z=false):=⟨by unfold i64Z;rw [if_neg om],by unfold i64B;simp;omega⟩
  clear hu2 hb2 hz hs
  go_enter Tryz.func107,Tryz.ntmps107
  go_wp2_with fail
  rw [HWW0.out]
  refine HC.out.mono ?_
  rintro e w1 ⟨rfl,hx⟩
  replace c0a:=hx.cell c0a
  replace c0b:=hx.cell c0b
  have hX:=zH (HX.out.trans hx)
  clear hx HX HC HWW0
  go_wp2
  go_ret2
  rw [HE.out.1,HE.out.2]
  exact ⟨rfl,hX.out⟩
 | true =>
  obtain ⟨rfl,hz⟩:=hu2 rfl
  obtain ⟨n,hn⟩:∃ n,z.natAbs=n:=⟨_,rfl⟩
  rw [hn] at HC hz
  clear hu2 hb2
  cases neg with
  | true =>
   have hz0:z < 0:=by simpa using hs.symm
   obtain rfl:z = -(n:Int):=by omega
   by_cases hg:n≤9223372036854775808
   ·have HE:Hid (i64Z (-(n:Int)) = -(n:Int)∧i64B (-(n:Int))=true):=⟨by unfold i64Z;rw [if_pos om],by unfold i64B;simp;omega⟩
    have g1:decide ((9223372036854775808:Int) < (n:Int))=false:=by simp;omega
    have e1:IntKind.u64.wrap (-(n:Int))=18446744073709551616 - (n:Int):=by show (-(n:Int)) % 18446744073709551616=_;omega
    have e2:IntKind.i64.wrap (18446744073709551616 - (n:Int)) = -(n:Int):=by rw [IntKind.wrap_i64];omega
    have HE1:=zH (show IntKind.i64.wrap (IntKind.u64.wrap (-(n:Int))) = -(n:Int) by rw [e1,e2])
    clear hs hn hz0 hz hg
    go_enter Tryz.func107,Tryz.ntmps107
    go_wp2_with fail
    rw [HWW0.out]
    refine HC.out.mono ?_
    rintro e w1 ⟨rfl,hx⟩
    replace c0a:=hx.cell c0a
    replace c0b:=hx.cell c0b
    have hX:=zH (HX.out.trans hx)
    clear hx HX HC HWW0
    by_cases hq:n=9223372036854775808
    ·have g2:((n:Int) == 9223372036854775808)=true:=by rw [beq_iff_eq];omega
     clear hq
     go_wp2
     go_ret2
     rw [HE.out.1,HE.out.2]
     exact ⟨rfl,hX.out⟩
    ·have g2:((n:Int) == 9223372036854775808)=false:=by rw [beq_eq_false_iff_ne];omega
     clear hq
     go_wp2
     go_ret2
     rw [HE.out.1,HE.out.2]
     exact ⟨rfl,hX.out⟩
   ·have HE:Hid (i64Z (-(n:Int))=0∧i64B (-(n:Int))=false):=⟨by unfold i64Z;rw [if_neg om],by unfold i64B;simp;omega⟩
    have g1:decide ((9223372036854775808:Int) < (n:Int))=true:=by simp;omega
    clear hs hn hz0 hz hg
    go_enter Tryz.func107,Tryz.ntmps107
    go_wp2_with fail
    rw [HWW0.out]
    refine HC.out.mono ?_
    rintro e w1 ⟨rfl,hx⟩
    replace c0a:=hx.cell c0a
    replace c0b:=hx.cell c0b
    have hX:=zH (HX.out.trans hx)
    clear hx HX HC HWW0
    go_wp2
    go_ret2
    rw [HE.out.1,HE.out.2]
    exact ⟨rfl,hX.out⟩
  | false =>
   have hz0:¬ z < 0:=by simpa using hs.symm
   obtain rfl:z=(n:Int):=by omega
   by_cases hg:n≤9223372036854775807
   ·have HE:Hid (i64Z (n:Int)=(n:Int)∧i64B (n:Int)=true):=⟨by unfold i64Z;rw [if_pos om],by unfold i64B;simp;omega⟩
    have g1:decide ((9223372036854775808:Int) < (n:Int))=false:=by simp;omega
    have g2:((n:Int) == 9223372036854775808)=false:=by rw [beq_eq_false_iff_ne];omega
    have e1:IntKind.i64.wrap (n:Int)=(n:Int):=by rw [IntKind.wrap_i64];omega
    clear hs hn hz0 hz hg
    go_enter Tryz.func107,Tryz.ntmps107
    go_wp2_with fail
    rw [HWW0.out]
    refine HC.out.mono ?_
    rintro e w1 ⟨rfl,hx⟩
    replace c0a:=hx.cell c0a
    replace c0b:=hx.cell c0b
    have hX:=zH (HX.out.trans hx)
    clear hx HX HC HWW0
    go_wp2
    go_ret2
    rw [HE.out.1,HE.out.2]
    exact ⟨rfl,hX.out⟩
   ·have HE:Hid (i64Z (n:Int)=0∧i64B (n:Int)=false):=⟨by unfold i64Z;rw [if_neg om],by unfold i64B;simp;omega⟩
    by_cases hq:n=9223372036854775808
    ·subst hq
     clear hs hn hz0 hz hg
     go_enter Tryz.func107,Tryz.ntmps107
     go_wp2_with fail
     rw [HWW0.out]
     refine HC.out.mono ?_
     rintro e w1 ⟨rfl,hx⟩
     replace c0a:=hx.cell c0a
     replace c0b:=hx.cell c0b
     have hX:=zH (HX.out.trans hx)
     clear hx HX HC HWW0
     go_wp2
     go_ret2
     rw [HE.out.1,HE.out.2]
     exact ⟨rfl,hX.out⟩
    ·have g1:decide ((9223372036854775808:Int) < (n:Int))=true:=by simp;omega
     clear hs hn hz0 hz hg hq
     go_enter Tryz.func107,Tryz.ntmps107
     go_wp2_with fail
     rw [HWW0.out]
     refine HC.out.mono ?_
     rintro e w1 ⟨rfl,hx⟩
     replace c0a:=hx.cell c0a
     replace c0b:=hx.cell c0b
     have hX:=zH (HX.out.trans hx)
     clear hx HX HC HWW0
     go_wp2
     go_ret2
     rw [HE.out.1,HE.out.2]
     exact ⟨rfl,hX.out⟩
def cmpZ (a b:Int):Int:=if a < b then -1 else if a=b then 0 else 1
theorem cmpZ_neg {a b:Int} (ha:a < 0) (hb:b < 0):cmpN b.natAbs a.natAbs=cmpZ a b:=by
 unfold cmpN cmpZ
 by_cases h:a < b
 ·rw [if_pos om,if_pos h]
 ·rw [if_neg om,if_neg h]
  by_cases e:a=b
  ·rw [if_pos om,if_pos e]
  ·rw [if_neg om,if_neg e]
theorem cmpZ_pos {a b:Int} (ha:¬ a < 0) (hb:¬ b < 0):cmpN a.natAbs b.natAbs=cmpZ a b:=by
 unfold cmpN cmpZ
 by_cases h:a < b
 ·rw [if_pos om,if_pos h]
 ·rw [if_neg om,if_neg h]
  by_cases e:a=b
  ·rw [if_pos om,if_pos e]
  ·rw [if_neg om,if_neg e]
theorem zCmp_any (na nb:Bool) (A B:Option Addr) (k m:Nat) (a b:Int) (w:World) (ha:IsInt w na A k a) (hb:IsInt w nb B m b) :
  Calls Tryz.prog 23 #[.agg #[.bool na,.slice A k k],.agg #[.bool nb,.slice B m m]] w fun e w'=>e = .returned (.int .i64 (cmpZ a b))∧Ext w w':=by
 obtain ⟨W0,HWW0,hXW0,hsW0,c0a,f0a,c0b,f0b,c1a,f1a,c1b,f1b⟩:=bx22 w 49 49 (.bool na) (.slice A k k) (.bool nb) (.slice B m m)
 have HX:=zH hXW0
 have hk:=ha.k
 have hm:=hb.k
 have sa:=ha.sign
 have sb:=hb.sign
 cases na with
 | true =>
  have ha0:a < 0:=by simpa using sa.symm
  cases nb with
  | true =>
   have hb0:b < 0:=by simpa using sb.symm
   have HC:=zH (zBS B A m k b.natAbs a.natAbs W0 (hb.nat.ext hXW0) (ha.nat.ext hXW0) om om)
   rw [cmpZ_neg ha0 hb0] at HC
   clear ha hb hXW0 hk hm sa sb ha0 hb0
   go_enter Tryz.func23,Tryz.ntmps23
   go_wp2_with fail
   rw [HWW0.out]
   refine HC.out.mono ?_
   rintro e w1 ⟨rfl,hx⟩
   have hX:=zH (HX.out.trans hx)
   clear hx HX HC HWW0
   go_wp2
   go_ret
   exact ⟨rfl,hX.out⟩
  | false =>
   have hb0:¬ b < 0:=by simpa using sb.symm
   have HE:Hid (cmpZ a b = -1):=by unfold cmpZ Hid;rw [if_pos om]
   clear ha hb hXW0 hk hm sa sb ha0 hb0 HWW0
   go_enter Tryz.func23,Tryz.ntmps23
   go_wp2
   go_ret
   rw [HE.out]
   exact ⟨rfl,((Ext.refl w).alloc _).alloc _⟩
 | false =>
  have ha0:¬ a < 0:=by simpa using sa.symm
  cases nb with
  | true =>
   have hb0:b < 0:=by simpa using sb.symm
   have HE:Hid (cmpZ a b=1):=by unfold cmpZ Hid;rw [if_neg om,if_neg om]
   clear ha hb hXW0 hk hm sa sb ha0 hb0 HWW0
   go_enter Tryz.func23,Tryz.ntmps23
   go_wp2
   go_ret
   rw [HE.out]
   exact ⟨rfl,((Ext.refl w).alloc _).alloc _⟩
  | false =>
   have hb0:¬ b < 0:=by simpa using sb.symm
   have HC:=zH (zBS A B k m a.natAbs b.natAbs W0 (ha.nat.ext hXW0) (hb.nat.ext hXW0) om om)
   rw [cmpZ_pos ha0 hb0] at HC
   clear ha hb hXW0 hk hm sa sb ha0 hb0
   go_enter Tryz.func23,Tryz.ntmps23
   go_wp2_with fail
   rw [HWW0.out]
   refine HC.out.mono ?_
   rintro e w1 ⟨rfl,hx⟩
   have hX:=zH (HX.out.trans hx)
   clear hx HX HC HWW0
   go_wp2
   go_ret
   exact ⟨rfl,hX.out⟩
theorem zCV (na:Bool) (A:Option Addr) (k:Nat) (w:World) :
  Calls Tryz.prog 47 #[.agg #[.bool na,.slice A k k]] w fun e w'=>e = .returned (.agg #[.slice A k k])∧Ext w w':=by
 go_enter Tryz.func47,Tryz.ntmps47
 go_wp2
 exact bodyPost_ret (v:=.agg #[.slice A k k]) (by simp [results,Tryz.results47,go_sem]) rfl ⟨rfl,((Ext.refl w).alloc _).alloc _⟩
end Go.Proofs.YtdkgilioejdmeaaGreat
namespace Go.Proofs.YtdkgilioejdmeaaGreat
open Go.RowKit
def IsRow (w:World) (A:Option Addr) (l:List Int):Prop :=
 0 < l.length→∃ b off:Nat,A=some ⟨b,off,none⟩∧b < w.heap.size∧∀ (j:Nat) (z:Int),l[j]? = some z→w.cell? ⟨b,off+j,none⟩=some (.int .i64 z)
def IsRows (w:World) (A:Option Addr) (rows:List (List Int)):Prop :=
 0 < rows.length→∃ b off:Nat,A=some ⟨b,off,none⟩∧b < w.heap.size∧∀ (i:Nat) (l:List Int),rows[i]? = some l→∃ R c,w.cell? ⟨b,off+i,none⟩=some (.slice R l.length c)∧l.length≤c∧IsRow w R l
def Fit64 (rows:List (List Int)):Prop:=rows.length≤140737488351232∧∀ l∈rows,l.length≤140737488351232∧∀ z∈l,-9223372036854775808≤z∧z≤9223372036854775807
theorem IsRow.ext {w w':World} {A:Option Addr} {l:List Int} (h:IsRow w A l) (hb:Ext w w'):IsRow w' A l:=by
 intro hl
 obtain ⟨b,off,e,hlt,hc⟩:=h hl
 exact ⟨b,off,e,Nat.lt_of_lt_of_le hlt hb.size,fun j d hj=>hb.cell (hc j d hj)⟩
theorem IsRows.ext {w w':World} {A:Option Addr} {rows:List (List Int)} (h:IsRows w A rows) (hb:Ext w w'):IsRows w' A rows:=by
 intro hl
 obtain ⟨b,off,e,hlt,hc⟩:=h hl
 refine ⟨b,off,e,Nat.lt_of_lt_of_le hlt hb.size,fun i l hi=>?_⟩
 obtain ⟨R,c,h1,h2,h3⟩:=hc i l hi
 exact ⟨R,c,hb.cell h1,h2,h3.ext hb⟩
theorem IsRows.at_ {w:World} {A:Option Addr} {rows:List (List Int)} (h:IsRows w A rows) {i:Nat} {l:List Int} (hi:rows[i]? = some l) :
  ∃ (b off:Nat) (R:Option Addr) (c:Nat),A=some ⟨b,off,none⟩∧b < w.heap.size∧w.cell? ⟨b,off+i,none⟩=some (.slice R l.length c)∧l.length≤c∧IsRow w R l:=by
 obtain ⟨b,off,e,hlt,hc⟩:=h (by have:=(List.getElem?_eq_some_iff.1 hi).1;omega)
 obtain ⟨R,c,h1,h2,h3⟩:=hc i l hi
 exact ⟨b,off,R,c,e,hlt,h1,h2,h3⟩
theorem IsRow.at_ {w:World} {A:Option Addr} {l:List Int} (h:IsRow w A l) {j:Nat} {z:Int} (hj:l[j]? = some z):∃ b off:Nat,A=some ⟨b,off,none⟩∧b < w.heap.size∧w.cell? ⟨b,off+j,none⟩=some (.int .i64 z):=by
 obtain ⟨b,off,e,hlt,hc⟩:=h (by have:=(List.getElem?_eq_some_iff.1 hj).1;omega)
 exact ⟨b,off,e,hlt,hc j z hj⟩
theorem Fit64.row {rows:List (List Int)} (h:Fit64 rows) {i:Nat} {l:List Int} (hi:rows[i]? = some l):l.length≤140737488351232∧∀ z∈l,-9223372036854775808≤z∧z≤9223372036854775807:=by
 obtain ⟨h1,rfl⟩:=List.getElem?_eq_some_iff.1 hi;exact h.2 _ (List.getElem_mem h1)
theorem Fit64.at_ {rows:List (List Int)} (h:Fit64 rows) {i j:Nat} {l:List Int} {z:Int} (hi:rows[i]? = some l) (hj:l[j]? = some z):-9223372036854775808≤z∧z≤9223372036854775807:=by
 obtain ⟨h1,rfl⟩:=List.getElem?_eq_some_iff.1 hj;exact (h.row hi).2 _ (List.getElem_mem h1)
def eachB (P:Nat→Nat→Int→Bool) (rows:List (List Int)):Bool :=
 (List.range rows.length).all fun i=>(List.range ((rows[i]?).getD []).length).all fun j=>P i j ((((rows[i]?).getD [])[j]?).getD 0)
theorem zAw {P:Nat→Nat→Int→Bool} {rows:List (List Int)}:eachB P rows=true↔∀ i l,rows[i]? = some l→∀ j z,l[j]? = some z→P i j z=true:=by
 unfold eachB
 simp only [List.all_eq_true,List.mem_range]
 constructor
 ·intro h i l hi j z hj
  have h1:=h i (List.getElem?_eq_some_iff.1 hi).1
  rw [hi] at h1
  have h2:=h1 j (by simpa using (List.getElem?_eq_some_iff.1 hj).1)
  simp only [Option.getD_some] at h2
  rw [hj] at h2
  exact h2
 ·intro h i hi j hj
  have e:rows[i]? = some rows[i]:=List.getElem?_eq_getElem hi
  rw [e] at hj ⊢
  simp only [Option.getD_some] at hj ⊢
  rw [List.getElem?_eq_getElem hj]
  exact h i _ e j _ (List.getElem?_eq_getElem hj)
theorem zDA {P:Nat→Nat→Int→Bool} {rows:List (List Int)} {i j:Nat} {l:List Int} {z:Int} (hi:rows[i]? = some l) (hj:l[j]? = some z) (h:P i j z=false):eachB P rows=false:=by
 cases he:eachB P rows with
 | false=>rfl
 | true=>have:=zAw.1 he i l hi j z hj;rw [h] at this;cases this
def smallB (x:Int):Bool:=decide (-16384≤x) && decide (x≤16384)
theorem small_any (x:Int) (w:World) (h0:-9223372036854775808≤x) (h1:x≤9223372036854775807) :
  Calls Tryz.prog 64 #[.int .i64 x] w fun e w'=>e = .returned (.bool (smallB x))∧w=w':=by
 by_cases h2:-16384≤x
 ·by_cases h3:x≤16384
  ·have HS:Hid (smallB x=true):=by unfold smallB Hid;simp [h2,h3]
   go_enter Tryz.func64,Tryz.ntmps64
   go_wp2
   go_ret
   rw [HS.out];exact ⟨rfl,rfl⟩
  ·have HS:Hid (smallB x=false):=by unfold smallB Hid;simp [h3]
   have h4:16384 < x:=by omega
   have hd:decide (x≤16384)=false:=by simp;omega
   clear h3
   go_enter Tryz.func64,Tryz.ntmps64
   go_wp2
   go_ret
   rw [HS.out];exact ⟨rfl,rfl⟩
 ·have HS:Hid (smallB x=false):=by unfold smallB Hid;simp [h2]
  have h4:x < -16384:=by omega
  have hd:decide (-16384≤x)=false:=by simp;omega
  clear h2
  go_enter Tryz.func64,Tryz.ntmps64
  go_wp2
  go_ret
  rw [HS.out];exact ⟨rfl,rfl⟩
theorem look1_any (i j x:Int) (w:World) (h0:-9223372036854775808≤x) (h1:x≤9223372036854775807) :
  Calls Tryz.prog 93 #[.int .i64 i,.int .i64 j,.int .i64 x] w fun e w'=>e = .returned (.bool (smallB x))∧w=w':=by
 have HS:=zH (fun W=>small_any x W h0 h1)
 go_enter Tryz.func93,Tryz.ntmps93
 go_wp2_with (go_at_call 64;refine (HS.out _).mono ?_;rintro e w' ⟨rfl,rfl⟩)
 go_ret
 exact ⟨rfl,rfl⟩
def smallP (_ _:Nat) (x:Int):Bool:=smallB x
theorem look1P (i j:Nat) (x:Int) (w:World) (h0:-9223372036854775808≤x) (h1:x≤9223372036854775807) :
  Calls Tryz.prog 93 #[.int .i64 i,.int .i64 j,.int .i64 x] w fun e w'=>e = .returned (.bool (smallP i j x))∧w=w':=look1_any i j x w h0 h1
def mirrorB (rows:List (List Int)) (i j:Nat) (x:Int):Bool:=x == ((((rows[j]?).getD [])[i]?).getD 0)
theorem look2_any (A:Option Addr) (n c:Nat) (rows:List (List Int)) (bx:Nat) (i j:Nat) (x:Int) (w:World) (hn:n=rows.length) (hn8:n≤100) (hc:w.cell? ⟨bx,0,none⟩=some (.slice A n c)) (hr:IsRows w A rows) (hf:Fit64 rows)
  (hsq:∀ l∈rows,l.length=n) (hi:i < n) (hj:j < n) :
  Calls Tryz.prog 94 #[.int .i64 i,.int .i64 j,.int .i64 x,.pointer (some ⟨bx,0,none⟩)] w fun e w'=>e = .returned (.bool (mirrorB rows i j x))∧w=w':=by
 obtain ⟨l,hl⟩:∃ l,rows[j]? = some l:=⟨_,List.getElem?_eq_getElem om⟩
 have hll:l.length=n:=by obtain ⟨h1,rfl⟩:=List.getElem?_eq_some_iff.1 hl;exact hsq _ (List.getElem_mem h1)
 obtain ⟨z,hz⟩:∃ z,l[i]? = some z:=⟨_,List.getElem?_eq_getElem om⟩
 obtain ⟨b,off,R,c',rfl,hb,h1,h2,h3⟩:=hr.at_ hl
 obtain ⟨b2,off2,rfl,hb2,h4⟩:=h3.at_ hz
 have HM:Hid (mirrorB rows i j x=(x == z)):=by unfold mirrorB Hid;rw [hl,Option.getD_some,hz,Option.getD_some]
 rw [hll] at h1 h2
 clear hr hf hsq hn hl hz hll h3
 rw [HM.out]
 go_enter Tryz.func94,Tryz.ntmps94
 go_wp2
 go_ret
 exact ⟨rfl,rfl⟩
set_option maxHeartbeats 1000000 in
theorem each1_any (A:Option Addr) (n c:Nat) (rows:List (List Int)) (w:World) (hn:n=rows.length) (hr:IsRows w A rows) (hf:Fit64 rows) :
  Calls Tryz.prog 62 #[.slice A n c,.func (.func 93) #[] #[]] w fun e w'=>e = .returned (.bool (eachB smallP rows))∧w=w':=by
 have hmk:n≤140737488351232:=by rw [hn];exact hf.1
 have HN:=zH hn;clear hn
 have HR:=zH hr;clear hr
 have HF:=zH hf;clear hf
 go_enter Tryz.func62,Tryz.ntmps62
 go_wp2
 go_loopg [10] n (fun kk iv wr=>∃ i:Nat,kk+i=n∧iv = .int .i64 i∧w=wr∧Hid (∀ (i':Nat) (l:List Int),i' < i→rows[i']? = some l→∀ (j:Nat) (z:Int),l[j]? = some z→smallP i' j z=true))
 case atStart=>exact ⟨0,by omega,rfl,rfl,fun i' l h=>by omega⟩
 obtain ⟨i,hki,rfl,rfl,HA⟩:=hrel
 by_cases hin:i < n
 ·obtain ⟨l,hl⟩:∃ l,rows[i]? = some l:=⟨_,List.getElem?_eq_getElem (by have:=HN.out;omega)⟩
  obtain ⟨b,off,R,c',rfl,hb,h1,h2,h3⟩:=HR.out.at_ hl
  have HL:=zH hl
  have HRow:=zH h3
  have hlm:=(HF.out.row hl).1
  obtain ⟨len,hlen⟩:∃ len,l.length=len:=⟨_,rfl⟩
  rw [hlen] at h1 h2 hlm
  have HLen:=zH hlen
  clear hl h3 hlen
  go_wp2
  go_loopg [18] len (fun kk jv wi=>∃ j:Nat,kk+j=len∧jv = .int .i64 j∧w=wi∧Hid (∀ (j':Nat) (z:Int),j' < j→l[j']? = some z→smallP i j' z=true))
  case atStart=>exact ⟨0,by omega,rfl,rfl,fun j' z h=>by omega⟩
  obtain ⟨j,hkj,rfl,rfl,HB⟩:=hrel
  by_cases hjn:j < len
  ·obtain ⟨z,hz⟩:∃ z,l[j]? = some z:=⟨_,List.getElem?_eq_getElem (by have:=HLen.out;omega)⟩
   obtain ⟨b2,off2,rfl,hb2,h4⟩:=HRow.out.at_ hz
   obtain ⟨z0,z1⟩:=HF.out.at_ HL.out hz
   have HZ:=zH hz
   have HC:=zH (look1P i j z w z0 z1)
   clear hz
   cases hP:smallP i j z
   ·have HP:=zH hP
    rw [HP.out] at HC
    clear hP
    go_wp2_with fail
    refine HC.out.mono ?_
    rintro e w' ⟨rfl,rfl⟩
    go_wp2
    go_ret
    rw [zDA HL.out HZ.out HP.out];exact ⟨rfl,rfl⟩
   ·have HP:=zH hP
    rw [HP.out] at HC
    clear hP
    go_wp2_with fail
    refine HC.out.mono ?_
    rintro e w' ⟨rfl,rfl⟩
    go_wp2
    go_roundg (gk - 1)
    case measure=>omega
    case rel=>exact ⟨j+1,by omega,by go_num,rfl,fun j' z' hj' hz'=>by
     rcases Nat.lt_or_ge j' j with h|h
     ·exact HB.out j' z' h hz'
     ·obtain rfl:j'=j:=by omega
      have e:z'=z:=by have:=HZ.out;rw [hz'] at this;exact Option.some.inj this
      rw [e];exact HP.out⟩
  ·obtain rfl:j=len:=by omega
   go_wp2
   go_roundg (n - (i+1))
   case measure=>omega
   case rel=>exact ⟨i+1,by omega,by go_num,rfl,fun i' l' hi' hl' j' z' hz'=>by
    rcases Nat.lt_or_ge i' i with h|h
    ·exact HA.out i' l' h hl' j' z' hz'
    ·obtain rfl:i'=i:=by omega
     have e:l'=l:=by have:=HL.out;rw [hl'] at this;exact Option.some.inj this
     subst e
     exact HB.out j' z' (by have:=(List.getElem?_eq_some_iff.1 hz').1;have:=HLen.out;omega) hz'⟩
 ·obtain rfl:i=n:=by omega
  have HT:Hid (eachB smallP rows=true):=zAw.2 fun i' l' hl' j' z' hz'=>HA.out i' l' (by have:=(List.getElem?_eq_some_iff.1 hl').1;have:=HN.out;omega) hl' j' z' hz'
  go_wp2
  go_ret
  rw [HT.out];exact ⟨rfl,rfl⟩
set_option maxHeartbeats 1000000 in
theorem each2_any (A:Option Addr) (n c:Nat) (rows:List (List Int)) (bx:Nat) (w:World) (hn:n=rows.length) (hr:IsRows w A rows) (hf:Fit64 rows) (hc:w.cell? ⟨bx,0,none⟩=some (.slice A n c)) (hn8:n≤100) (hsq:∀ l∈rows,l.length=n) :
  Calls Tryz.prog 62 #[.slice A n c,.func (.func 94) #[] #[.pointer (some ⟨bx,0,none⟩)]] w fun e w'=>e = .returned (.bool (eachB (mirrorB rows) rows))∧w=w':=by
 have hmk:n≤140737488351232:=by rw [hn];exact hf.1
 have HN:=zH hn;clear hn
 have HR:=zH hr;clear hr
 have HF:=zH hf;clear hf
 have HCb:=zH hc;clear hc
 have HSq:=zH hsq;clear hsq
 go_enter Tryz.func62,Tryz.ntmps62
 go_wp2
 go_loopg [10] n (fun kk iv wr=>∃ i:Nat,kk+i=n∧iv = .int .i64 i∧w=wr∧Hid (∀ (i':Nat) (l:List Int),i' < i→rows[i']? = some l→∀ (j:Nat) (z:Int),l[j]? = some z→(mirrorB rows) i' j z=true))
 case atStart=>exact ⟨0,by omega,rfl,rfl,fun i' l h=>by omega⟩
 obtain ⟨i,hki,rfl,rfl,HA⟩:=hrel
 by_cases hin:i < n
 ·obtain ⟨l,hl⟩:∃ l,rows[i]? = some l:=⟨_,List.getElem?_eq_getElem (by have:=HN.out;omega)⟩
  obtain ⟨b,off,R,c',rfl,hb,h1,h2,h3⟩:=HR.out.at_ hl
  have HL:=zH hl
  have HRow:=zH h3
  have hlm:=(HF.out.row hl).1
  obtain ⟨len,hlen⟩:∃ len,l.length=len:=⟨_,rfl⟩
  rw [hlen] at h1 h2 hlm
  have HLen:=zH hlen
  clear hl h3 hlen
  go_wp2
  go_loopg [18] len (fun kk jv wi=>∃ j:Nat,kk+j=len∧jv = .int .i64 j∧w=wi∧Hid (∀ (j':Nat) (z:Int),j' < j→l[j']? = some z→(mirrorB rows) i j' z=true))
  case atStart=>exact ⟨0,by omega,rfl,rfl,fun j' z h=>by omega⟩
  obtain ⟨j,hkj,rfl,rfl,HB⟩:=hrel
  by_cases hjn:j < len
  ·obtain ⟨z,hz⟩:∃ z,l[j]? = some z:=⟨_,List.getElem?_eq_getElem (by have:=HLen.out;omega)⟩
   obtain ⟨b2,off2,rfl,hb2,h4⟩:=HRow.out.at_ hz
   obtain ⟨z0,z1⟩:=HF.out.at_ HL.out hz
   have HZ:=zH hz
   have HC:=zH (look2_any _ n c rows bx i j z w HN.out hn8 HCb.out HR.out HF.out HSq.out hin (by have:=HSq.out l (by obtain ⟨h1,rfl⟩:=List.getElem?_eq_some_iff.1 HL.out;exact List.getElem_mem h1);have:=HLen.out;omega))
   clear hz
   cases hP:(mirrorB rows) i j z
   ·have HP:=zH hP
    rw [HP.out] at HC
    clear hP
    go_wp2_with fail
    refine HC.out.mono ?_
    rintro e w' ⟨rfl,rfl⟩
    go_wp2
    go_ret
    rw [zDA HL.out HZ.out HP.out];exact ⟨rfl,rfl⟩
   ·have HP:=zH hP
    rw [HP.out] at HC
    clear hP
    go_wp2_with fail
    refine HC.out.mono ?_
    rintro e w' ⟨rfl,rfl⟩
    go_wp2
    go_roundg (gk - 1)
    case measure=>omega
    case rel=>exact ⟨j+1,by omega,by go_num,rfl,fun j' z' hj' hz'=>by
     rcases Nat.lt_or_ge j' j with h|h
     ·exact HB.out j' z' h hz'
     ·obtain rfl:j'=j:=by omega
      have e:z'=z:=by have:=HZ.out;rw [hz'] at this;exact Option.some.inj this
      rw [e];exact HP.out⟩
  ·obtain rfl:j=len:=by omega
   go_wp2
   go_roundg (n - (i+1))
   case measure=>omega
   case rel=>exact ⟨i+1,by omega,by go_num,rfl,fun i' l' hi' hl' j' z' hz'=>by
    rcases Nat.lt_or_ge i' i with h|h
    ·exact HA.out i' l' h hl' j' z' hz'
    ·obtain rfl:i'=i:=by omega
     have e:l'=l:=by have:=HL.out;rw [hl'] at this;exact Option.some.inj this
     subst e
     exact HB.out j' z' (by have:=(List.getElem?_eq_some_iff.1 hz').1;have:=HLen.out;omega) hz'⟩
 ·obtain rfl:i=n:=by omega
  have HT:Hid (eachB (mirrorB rows) rows=true):=zAw.2 fun i' l' hl' j' z' hz'=>HA.out i' l' (by have:=(List.getElem?_eq_some_iff.1 hl').1;have:=HN.out;omega) hl' j' z' hz'
  go_wp2
  go_ret
  rw [HT.out];exact ⟨rfl,rfl⟩
def entry (rows:List (List Int)) (i j:Nat):Int:=(((rows[i]?).getD [])[j]?).getD 0
theorem entry_at (A:Option Addr) (n c:Nat) (rows:List (List Int)) (bx i j:Nat) (w:World) (hn:n=rows.length) (hn8:n≤100) (hc:w.cell? ⟨bx,0,none⟩=some (.slice A n c)) (hr:IsRows w A rows) (hf:Fit64 rows)
  (hsq:∀ l∈rows,l.length=n) (hi:i < n) (hj:j < n) :
  Calls Tryz.prog 137 #[.int .i64 i,.int .i64 j,.pointer (some ⟨bx,0,none⟩)] w fun e w'=>∃ n A k,e = .returned (.agg #[.bool n,.slice A k k])∧IsInt w' n A k (entry rows i j)∧Ext w w':=by
 obtain ⟨l,hl⟩:∃ l,rows[i]? = some l:=⟨_,List.getElem?_eq_getElem om⟩
 have hll:l.length=n:=by obtain ⟨h1,rfl⟩:=List.getElem?_eq_some_iff.1 hl;exact hsq _ (List.getElem_mem h1)
 obtain ⟨z,hz⟩:∃ z,l[j]? = some z:=⟨_,List.getElem?_eq_getElem om⟩
 obtain ⟨z0,z1⟩:=hf.at_ hl hz
 have HE:Hid (entry rows i j=z):=by unfold entry Hid;rw [hl,Option.getD_some,hz,Option.getD_some]
 obtain ⟨b,off,R,c',rfl,hb,h1,h2,h3⟩:=hr.at_ hl
 obtain ⟨b2,off2,rfl,hb2,h4⟩:=h3.at_ hz
 rw [hll] at h1 h2
 have h6:=zAA hc
 obtain ⟨W0,HWW0,hXW0,hsW0,c0a,f0a,c0b,f0b⟩:=bx2 w 49 (.bool false) (.slice none 0 0)
 have HX:=zH hXW0
 have HO:=zH (zOf_any z W0 z0 z1)
 clear hr hf hsq hn hl hz hll h3 hXW0
 rw [HE.out]
 go_enter Tryz.func137,Tryz.ntmps137
 go_wp2_with (fail)
 rw [HWW0.out]
 refine HO.out.mono ?_
 rintro e w1 ⟨ng,A,k,rfl,hi',hx⟩
 replace f0a:=hx.free f0a (zAA c0a)
 replace c0a:=hx.cell c0a
 replace f0b:=hx.free f0b (zAA c0b)
 replace c0b:=hx.cell c0b
 have hX:=zH (HX.out.trans hx)
 have HI:=zH hi'
 clear hx hi' HWW0 HO HX h1 h4 hc
 go_wp2
 obtain ⟨W2,hWW2⟩:∃ W2:World,(w1.setCell ⟨w.heap.size,0,none⟩ (.bool ng)).setCell ⟨w.heap.size,1,none⟩ (.slice A k k)=W2:=⟨_,rfl⟩
 have z0a:W2.cell? ⟨w.heap.size,0,none⟩=some (.bool ng):=by rw [← hWW2];simp [go_sem,c0a,c0b]
 have zf0a:W2.frozen? ⟨w.heap.size,0,none⟩=false:=by rw [← hWW2];simp [go_sem,f0a,f0b]
 have z0b:W2.cell? ⟨w.heap.size,1,none⟩=some (.slice A k k):=by rw [← hWW2];simp [go_sem,c0a,c0b]
 have zf0b:W2.frozen? ⟨w.heap.size,1,none⟩=false:=by rw [← hWW2];simp [go_sem,f0a,f0b]
 have znW2:∀ (A:Option Addr) (k n:Nat),IsNat w1 A k n→IsNat W2 A k n:=by intro A k n h;rw [← hWW2];exact ((h.setBool c0a _).setBox (by rw [World.cell?_setCell_other _ _ _ _ (by intro h;injection h with h1 h2;omega)];exact c0b) _)
 have zxW2:∀ a:World,Ext a w1→a.heap.size≤w.heap.size→Ext a W2:=by intro a h hs;rw [← hWW2];exact (by repeat (first|exact h|refine Ext.setCell ?_ (by first|(simp only [];omega)) _))
 have HWW2:=zH hWW2
 clear hWW2
 rw [HWW2.out]
 exact bodyPost_ret (v:=.agg #[.bool ng,.slice A k k]) (by simp [results,Tryz.results137,go_sem,z0a,z0b]) rfl ⟨ng,A,k,rfl,⟨znW2 _ _ _ HI.out.nat,HI.out.sign,HI.out.bits⟩,zxW2 w hX.out (Nat.le_refl _)⟩
structure MRow (w:World) (h n:Nat) (f:Nat→Int):Prop where
 cells:∀ j,j < n→∃ neg A k,w.cell? ⟨h,j*2,none⟩=some (.bool neg)∧w.cell? ⟨h,j*2+1,none⟩=some (.slice A k k)∧IsInt w neg A k (f j)
 free:∀ o,w.frozen? ⟨h,o,none⟩=false
 typ:TB w 49 h
theorem MRow.lt {w:World} {h n:Nat} {f:Nat→Int} (r:MRow w h n f):h < w.heap.size:=r.typ.lt
theorem MRow.ext {w w':World} {h n:Nat} {f:Nat→Int} (r:MRow w h n f) (hb:Ext w w'):MRow w' h n f:=by
 refine ⟨fun j hj=>?_,fun o=>hb.free (r.free o) r.lt,r.typ.of_eq (hb.block h r.lt)⟩
 obtain ⟨neg,A,k,h1,h2,h3⟩:=r.cells j hj
 exact ⟨neg,A,k,hb.cell h1,hb.cell h2,h3.ext hb⟩
theorem MRow.congr {w:World} {h n:Nat} {f g:Nat→Int} (r:MRow w h n f) (e:∀ j,j < n→f j=g j):MRow w h n g:=by
 refine ⟨fun j hj=>?_,r.free,r.typ⟩
 rw [← e j hj];exact r.cells j hj
def setInt (w:World) (h o:Nat) (neg:Bool) (A:Option Addr) (k:Nat):World:=(w.setCell ⟨h,o,none⟩ (.bool neg)).setCell ⟨h,o+1,none⟩ (.slice A k k)
theorem zBA {w:World} {h o:Nat} {neg neg0:Bool} {A A0:Option Addr} {k k0 m0:Nat} {ng:Bool} {B:Option Addr} {m:Nat} {z:Int} (h1:w.cell? ⟨h,o,none⟩=some (.bool neg0)) (h2:w.cell? ⟨h,o+1,none⟩=some (.slice A0 k0 m0)) (hi:IsInt w ng B m z) :
  IsInt (setInt w h o neg A k) ng B m z:=by
 unfold setInt
 refine (hi.setBool h1 _).setBox (a':=A0) (m:=k0) (c:=m0) ?_ _
 rw [World.cell?_setCell_other _ _ _ _ (by intro e;injection e with e1 e2;omega)];exact h2
theorem zDI {w:World} {h o:Nat} {neg neg0:Bool} {A A0:Option Addr} {k k0 m0:Nat} (h1:w.cell? ⟨h,o,none⟩=some (.bool neg0)) (h2:w.cell? ⟨h,o+1,none⟩=some (.slice A0 k0 m0)) :
  (setInt w h o neg A k).cell? ⟨h,o,none⟩=some (.bool neg)∧(setInt w h o neg A k).cell? ⟨h,o+1,none⟩=some (.slice A k k):=by
 unfold setInt
 refine ⟨?_,?_⟩
 ·rw [World.cell?_setCell_other _ _ _ _ (by intro e;injection e with e1 e2;omega)];exact setc h1
 ·refine setc (u:=.slice A0 k0 m0) ?_
  rw [World.cell?_setCell_other _ _ _ _ (by intro e;injection e with e1 e2;omega)];exact h2
theorem zAb {w:World} {h o:Nat} {neg:Bool} {A:Option Addr} {k:Nat} {b o':Nat} (hne:b=h→o'≠o∧o'≠o+1):(setInt w h o neg A k).cell? ⟨b,o',none⟩=w.cell? ⟨b,o',none⟩:=by
 unfold setInt
 rw [World.cell?_setCell_other _ _ _ _ (by intro e;injection e with e1 e2;have:=hne e1.symm;omega),World.cell?_setCell_other _ _ _ _ (by intro e;injection e with e1 e2;have:=hne e1.symm;omega)]
theorem zAz {w:World} {h o:Nat} {neg:Bool} {A:Option Addr} {k:Nat} {p:Addr}:(setInt w h o neg A k).frozen? p=w.frozen? p:=by
 unfold setInt;rw [World.frozen?_setCell,World.frozen?_setCell]
theorem zBG {w:World} {h o:Nat} {neg:Bool} {A:Option Addr} {k:Nat} {t:TypeId} {b:Nat} (ht:TB w t b):TB (setInt w h o neg A k) t b:=by
 unfold setInt;exact (ht.set_ _ _).set_ _ _
theorem zAO {a w:World} {h o:Nat} {neg:Bool} {A:Option Addr} {k:Nat} (hx:Ext a w) (hh:a.heap.size≤h):Ext a (setInt w h o neg A k):=by
 unfold setInt;exact (hx.setCell (p:=⟨h,o,none⟩) hh _).setCell (p:=⟨h,o+1,none⟩) hh _
theorem MRow.set_ {w:World} {h n:Nat} {f:Nat→Int} (r:MRow w h n f) {j:Nat} (hj:j < n) {neg:Bool} {A:Option Addr} {k:Nat} {z:Int} (hz:IsInt w neg A k z) :
  MRow (setInt w h (j*2) neg A k) h n (fun i=>if i=j then z else f i):=by
 obtain ⟨neg0,A0,k0,g1,g2,_⟩:=r.cells j hj
 refine ⟨fun i hi=>?_,fun o=>by rw [zAz];exact r.free o,zBG r.typ⟩
 by_cases e:i=j
 ·subst e
  rw [if_pos rfl]
  have hs:=zDI (neg:=neg) (A:=A) (k:=k) g1 g2
  exact ⟨neg,A,k,hs.1,hs.2,zBA g1 g2 hz⟩
 ·rw [if_neg e]
  obtain ⟨neg1,A1,k1,h1,h2,h3⟩:=r.cells i hi
  exact ⟨neg1,A1,k1,by rw [zAb (fun _=>by omega)];exact h1,by rw [zAb (fun _=>by omega)];exact h2,zBA g1 g2 h3⟩
theorem MRow.far {w:World} {h n:Nat} {f:Nat→Int} (r:MRow w h n f) {b o:Nat} (hb:b≠h) {neg0:Bool} {A0:Option Addr} {k0 m0:Nat} {neg:Bool} {A:Option Addr} {k:Nat}
  (h1:w.cell? ⟨b,o,none⟩=some (.bool neg0)) (h2:w.cell? ⟨b,o+1,none⟩=some (.slice A0 k0 m0)):MRow (setInt w b o neg A k) h n f:=by
 refine ⟨fun i hi=>?_,fun o=>by rw [zAz];exact r.free o,zBG r.typ⟩
 obtain ⟨neg1,A1,k1,g1,g2,g3⟩:=r.cells i hi
 exact ⟨neg1,A1,k1,by rw [zAb (fun e=>absurd e.symm hb)];exact g1,by rw [zAb (fun e=>absurd e.symm hb)];exact g2,zBA h1 h2 g3⟩
theorem Tryz.infoZ:(Tryz.prog.info? 49).map (fun i=>(i.zero,i.size,i.bytes))=some (some (.agg #[.bool false,.slice none 0 0]),2,32):=by kernel_rfl
theorem zAs (m:Int) (n:Nat) (h:m=n) (hn:n≤100000) (w:World) :
  ∃ cs,(Instr.makeSlice 41 (.int .i64 m) (.int .i64 m)).run Tryz.prog w = .ok (.slice (some ⟨w.heap.size,0,none⟩) n n) (w.alloc (.cells cs 49))∧MRow (w.alloc (.cells cs 49)) w.heap.size n (fun _=>0):=by
 subst h
 obtain ⟨i0,hi,hz0,hz1,hz2⟩:=info_parts Tryz.infoZ
 have hr:=run_make (P:=Tryz.prog) w 41 49 i0 _ Tryz.underlying41 hi hz0 .i64 .i64 n n om om (by rw [hz2];omega) om
 simp only [Int.toNat_natCast] at hr
 have hcells:∀ o,o < n*2→(madeCells (Value.agg #[.bool false,.slice none 0 0]).cells (n*i0.size))[o]? = some (if o % 2=0 then Value.bool false else .slice none 0 0):=by
  intro o ho
  rw [hz1]
  unfold madeCells
  rw [Array.getElem?_map,Array.getElem?_range,if_pos ho]
  rcases Nat.mod_two_eq_zero_or_one o with e|e <;> simp [Value.cells,e]
 have hh:=fun cs=>zA7 w (.cells cs 49)
 refine ⟨_,hr,⟨fun j hj=>⟨false,none,0,?_,?_,zBX _⟩,fun o=>by simp only [World.frozen?,hh];rfl,⟨_,_,hh _⟩⟩⟩
 ·rw [cell_of_row _ _ _ _ _ _ (hh _),hcells (j*2) om,if_pos om]
 ·rw [cell_of_row _ _ _ _ _ _ (hh _),hcells (j*2+1) om,if_neg om]
theorem IsNat.typed {w w':World} {A:Option Addr} {k n:Nat} (h:IsNat w A k n) (hk:∀ b,TB w 133 b→w'.heap[b]? = w.heap[b]?):IsNat w' A k n:=⟨h.1,h.2.typed hk⟩
theorem IsInt.typed {w w':World} {neg:Bool} {A:Option Addr} {k:Nat} {z:Int} (h:IsInt w neg A k z) (hk:∀ b,TB w 133 b→w'.heap[b]? = w.heap[b]?):IsInt w' neg A k z:=⟨h.nat.typed hk,h.sign,h.bits⟩
theorem zBB {w w':World} {b:Nat} (e:w'.heap[b]? = w.heap[b]?) (o:Nat):w'.cell? ⟨b,o,none⟩=w.cell? ⟨b,o,none⟩:=by simp only [World.cell?,e]
theorem zBp {w w':World} {b:Nat} (e:w'.heap[b]? = w.heap[b]?) (o:Nat):w'.frozen? ⟨b,o,none⟩=w.frozen? ⟨b,o,none⟩:=by simp only [World.frozen?,e]
theorem MRow.typed {w w':World} {h n:Nat} {f:Nat→Int} (r:MRow w h n f) (e:w'.heap[h]? = w.heap[h]?) (hk:∀ b,TB w 133 b→w'.heap[b]? = w.heap[b]?):MRow w' h n f:=by
 refine ⟨fun j hj=>?_,fun o=>by rw [zBp e];exact r.free o,r.typ.of_eq e⟩
 obtain ⟨neg,A,k,h1,h2,h3⟩:=r.cells j hj
 exact ⟨neg,A,k,by rw [zBB e];exact h1,by rw [zBB e];exact h2,h3.typed hk⟩
theorem MRow.but {w w':World} {h n g:Nat} {f:Nat→Int} (r:MRow w h n f) (hx:ExtBut (fun x=>x=g) w w') (hg:h≠g) (ht:TB w 49 g):MRow w' h n f :=
 r.typed (hx.block h r.lt hg) fun b hb=>hx.block b hb.lt (hb.ne ht (by decide))
structure MatZ (w:World) (lo g n:Nat) (h:Nat→Nat) (m:Nat→Nat→Int):Prop where
 rows:∀ i,i < n→w.cell? ⟨g,i,none⟩=some (.slice (some ⟨h i,0,none⟩) n n)
 row:∀ i,i < n→MRow w (h i) n (m i)
 inj:∀ i j,i < n→j < n→h i=h j→i=j
 low:∀ i,i < n→lo≤h i
 glow:lo≤g
 typ:TB w 41 g
theorem Tryz.infoZs:(Tryz.prog.info? 41).map (fun i=>(i.zero,i.size,i.bytes))=some (some (.slice none 0 0),1,24):=by kernel_rfl
structure SqInv (w0 wr:World) (n i:Nat) (v:Value) (h:Nat→Nat) (m:Nat→Nat→Int):Prop where
 own:wr.ownsRow w0.heap.size 41 1 v i ((List.range i).map fun j=>Value.slice (some ⟨h j,0,none⟩) n n)
 row:∀ j,j < i→MRow wr (h j) n (m j)
 inj:∀ j k,j < i→k < i→h j=h k→j=k
 low:∀ j,j < i→w0.heap.size≤h j
 ext:Ext w0 wr
theorem ExtBut.grown {g:Nat} {a w:World} (h:ExtBut (fun x=>x=g) a w):a.grownBy w (some g) :=
 ⟨h.os,h.tape,h.output,h.size,fun k hk hne=>h.block k hk (by intro e;exact hne (by rw [e]))⟩
theorem zAR {w w':World} {base:Nat} {t t':TypeId} {v:Value} {n:Nat} {xs:List Value} {size:Nat} (ho:w.ownsRow base t size v n xs) (hg:w.grownBy w' v.ownBlock) {b:Nat} (hb:TB w t' b) (hne:t'≠t):w'.heap[b]? = w.heap[b]?:=by
 refine hg.block b hb.lt ?_
 rcases ho.2 with ⟨rfl,_⟩|⟨g,cap,cur,rfl,_,hh,_⟩
 ·simp [Value.ownBlock]
 ·simp only [Value.ownBlock]
  intro e
  injection e with e
  exact hb.ne ⟨_,_,hh⟩ hne e
theorem zBF (i:Nat) (f g:Nat→Value) (x:Value) (h:∀ j,j < i→g j=f j) (hx:g i=x):(List.range i).map f ++ [x]=(List.range (i+1)).map g:=by
 rw [List.range_succ,List.map_append]
 congr 1
 ·exact List.map_congr_left fun j hj=>(h j (List.mem_range.1 hj)).symm
 ·simp [hx]
set_option maxHeartbeats 1000000 in
theorem square_any (A:Option Addr) (n c:Nat) (rows:List (List Int)) (bx:Nat) (w:World) (hn:n=rows.length) (hn1:1≤n) (hn8:n≤100) (hc:w.cell? ⟨bx,0,none⟩=some (.slice A n c)) (hr:IsRows w A rows) (hf:Fit64 rows)
  (hsq:∀ l∈rows,l.length=n) :
  Calls Tryz.prog 136 #[.int .i64 n,.func (.func 137) #[] #[.pointer (some ⟨bx,0,none⟩)]] w fun e w'=>∃ g cap h,e = .returned (.slice (some ⟨g,0,none⟩) n cap)∧n≤cap∧MatZ w' w.heap.size g n h (entry rows)∧Ext w w':=by
 have HEnt:=zH (fun i j W (hi:i < n) (hj:j < n) (hX:Ext w W)=>entry_at A n c rows bx i j W hn hn8 (hX.cell hc) (hr.ext hX) hf hsq hi hj)
 have hbx:=zAA hc
 obtain ⟨i0,hi,hz0,hz1,hz2⟩:=info_parts Tryz.infoZs
 have HI0:=zH (show Tryz.prog.info? 41=some i0∧i0.zero=some (.slice none 0 0)∧i0.size=1∧i0.bytes=24 from ⟨hi,hz0,hz1,hz2⟩)
 clear hn hc hr hf hsq hi hz0 hz1 hz2
 go_enter Tryz.func136,Tryz.ntmps136
 go_wp2
 go_loopg [5,10] n (fun kk v iv wr=>∃ (i:Nat) (h:Nat→Nat),kk+i=n∧iv = .int .i64 i∧Hid (SqInv w wr n i v h (entry rows)))
 case atStart=>exact ⟨0,fun _=>0,by omega,rfl,⟨World.ownsRow_nil _ _ _ _,fun j hj=>by omega,fun j k hj=>by omega,fun j hj=>by omega,Ext.refl _⟩⟩
 obtain ⟨i,h,hki,rfl,HI⟩:=hrel
 by_cases hin:i < n
 ·obtain ⟨cs,hmk,hrow⟩:=zAs (n:Int) n rfl om wr
  have HMk:=zH hrow
  clear hrow
  go_wp2
  obtain ⟨W1,hW1⟩:∃ W1,wr.alloc (.cells cs 49)=W1:=⟨_,rfl⟩
  rw [hW1] at HMk
  rw [hW1]
  have hX1:Ext wr W1:=by rw [← hW1];exact (Ext.refl wr).alloc _
  have HX1:=zH hX1
  have HXw:=zH (HI.out.ext.trans hX1)
  have hlo:w.heap.size≤wr.heap.size:=HI.out.ext.size
  obtain ⟨hr,hhr⟩:∃ hr,wr.heap.size=hr:=⟨_,rfl⟩
  have HHr:=zH hhr
  rw [hhr] at HMk hlo
  rw [hhr]
  clear hW1 hX1 hmk hhr
  go_loopg [17] n (fun kk jv wi=>∃ j:Nat,kk+j=n∧jv = .int .i64 j∧Hid (MRow wi hr n (fun j'=>if j' < j then entry rows i j' else 0))∧Hid (ExtBut (fun x=>x=hr) W1 wi))
  case atStart=>exact ⟨0,by omega,rfl,HMk.out.congr (fun j hj=>by simp),ExtBut.refl _ _⟩
  obtain ⟨j,hkj,rfl,HR,HE⟩:=hrel
  by_cases hjn:j < n
  ·have HC:=zH (HEnt.out i j wr hin hjn (HXw.out.but HE.out (by rintro g rfl;exact hlo)))
   obtain ⟨ng0,A0,k0,c1,c2,_⟩:=HR.out.cells j hjn
   have f1:=HR.out.free (j*2)
   have f2:=HR.out.free (j*2+1)
   have hlt:=HR.out.lt
   go_wp2_with fail
   refine HC.out.mono ?_
   rintro e w2 ⟨ng,A2,k2,rfl,hz,hx⟩
   replace f1:=hx.free f1 (zAA c1)
   replace c1:=hx.cell c1
   replace f2:=hx.free f2 (zAA c2)
   replace c2:=hx.cell c2
   have HR2:=zH ((HR.out.ext hx).set_ hjn hz)
   have HE2:=zH (HE.out.ext hx)
   clear hz hx HC HR HE
   have HX3:Hid (ExtBut (fun x=>x=hr) W1 ((w2.setCell ⟨hr,j*2,none⟩ (.bool ng)).setCell ⟨hr,j*2+1,none⟩ (.slice A2 k2 k2))):=(HE2.out.setCell (p:=⟨hr,j*2,none⟩) (.inl rfl) _).setCell (p:=⟨hr,j*2+1,none⟩) (.inl rfl) _
   have HR3:Hid (MRow ((w2.setCell ⟨hr,j*2,none⟩ (.bool ng)).setCell ⟨hr,j*2+1,none⟩ (.slice A2 k2 k2)) hr n (fun j'=>if j' < j+1 then entry rows i j' else 0)) :=
    HR2.out.congr fun j' _=>by
     by_cases e:j'=j
     ·subst e;rw [if_pos rfl,if_pos om]
     ·rw [if_neg e]
      by_cases e2:j' < j
      ·rw [if_pos e2,if_pos om]
      ·rw [if_neg e2,if_neg om]
   clear HR2 HE2
   go_wp2
   go_roundg (gk - 1)
   case measure=>omega
   case rel=>exact ⟨j+1,by omega,by go_num,HR3,HX3⟩
  ·obtain rfl:n=j:=by omega
   obtain ⟨ii,hii,hz0,hz1,hz2⟩:∃ ii,Tryz.prog.info? 41=some ii∧ii.zero=some (.slice none 0 0)∧ii.size=1∧ii.bytes=24:=⟨i0,HI0.out⟩
   have HTy:=zH HR.out.typ
   have hlt:=HR.out.lt
   have HOwn:Hid (wr.ownsRow w.heap.size 41 1 u5 i ((List.range i).map fun j=>Value.slice (some ⟨h j,0,none⟩) n n)):=by
    refine (HI.out.own.kept (row:=none) ?_ (by cases u5.ownBlock <;> simp)).kept HE.out.grown ?_
    ·exact ⟨Below.os HX1.out,Below.tape HX1.out,Below.output HX1.out,HX1.out.size,fun k hk _=>Below.block HX1.out k hk⟩
    ·rcases hob:u5.ownBlock with _|g
     ·exact .inl rfl
     ·refine .inr ?_
      have:=HI.out.own.lt g hob
      have:=HHr.out
      intro e;injection e with e;omega
   have HRows:Hid (∀ j,j < i→MRow wr (h j) n (entry rows j)):=fun j hj =>
    ((HI.out.row j hj).ext HX1.out).but HE.out (by have:=(HI.out.row j hj).lt;have:=HHr.out;omega) HMk.out.typ
   have HNew:Hid (MRow wr hr n (entry rows i)):=HR.out.congr fun j' hj'=>if_pos hj'
   have HXn:=zH (HXw.out.but HE.out (by rintro g rfl;exact hlo))
   clear HR HE
   have hws:w.heap.size≤wr.heap.size:=HXn.out.size
   go_wp2_with (at_builtin;refine wpList_append_own _ rfl _ _ 79 rfl w.heap.size 41 ii (.slice none 0 0) 1 24 Tryz.underlying79 hii hz0 hz1 hz2 rfl (by decide) _ _ _ rfl (HOwn.out.alloc _) ⟨wr.heap.size,0,none⟩ 1 1 [.slice (some ⟨hr,0,none⟩) n n] rfl rfl ?c1 ?c2 ?c3 ?c4 ?c5 ?_)
   case c1=>exact cell_one_new _ _ _
   case c2=>intro u hu;rw [List.mem_singleton.1 hu];rfl
   case c3=>unfold maxLen;omega
   case c4=>omega
   case c5=>simp only [World.size_alloc];omega
   intro v' w5 hown' hgrow _
   have hOwnA:=HOwn.out.alloc (.cells #[.slice (some ⟨hr,0,none⟩) n n] 41)
   have hk104:∀ b,TB (wr.alloc (.cells #[.slice (some ⟨hr,0,none⟩) n n] 41)) 49 b→w5.heap[b]? = (wr.alloc (.cells #[.slice (some ⟨hr,0,none⟩) n n] 41)).heap[b]?:=fun b hb=>zAR hOwnA hgrow hb (by decide)
   have hk32:∀ b,TB (wr.alloc (.cells #[.slice (some ⟨hr,0,none⟩) n n] 41)) 133 b→w5.heap[b]? = (wr.alloc (.cells #[.slice (some ⟨hr,0,none⟩) n n] 41)).heap[b]?:=fun b hb=>zAR hOwnA hgrow hb (by decide)
   have hXA:Ext wr (wr.alloc (.cells #[.slice (some ⟨hr,0,none⟩) n n] 41)):=(Ext.refl wr).alloc _
   have HS:Hid (SqInv w w5 n (i+1) v' (fun j=>if j=i then hr else h j) (entry rows)):=by
    refine ⟨?_,fun j hj=>?_,fun j k hj hk e=>?_,fun j hj=>?_,?_⟩
    ·rw [← zBF i (fun j=>Value.slice (some ⟨h j,0,none⟩) n n) _ (.slice (some ⟨hr,0,none⟩) n n) (fun j hj=>by simp only [if_neg (show ¬ j=i by omega)]) (by simp)]
     exact hown'
    ·by_cases e:j=i
     ·subst e
      simp only [if_true]
      exact (HNew.out.ext hXA).typed (hk104 _ (HNew.out.ext hXA).typ) hk32
     ·simp only [if_neg e]
      have h2:=(HRows.out j om).ext hXA
      exact h2.typed (hk104 _ h2.typ) hk32
    ·by_cases e1:j=i <;> by_cases e2:k=i
     ·omega
     ·rw [if_pos e1,if_neg e2] at e
      have h1:=(HI.out.row k om).lt
      have h2:=HHr.out
      omega
     ·rw [if_neg e1,if_pos e2] at e
      have h1:=(HI.out.row j om).lt
      have h2:=HHr.out
      omega
     ·rw [if_neg e1,if_neg e2] at e
      exact HI.out.inj j k om om e
    ·by_cases e1:j=i
     ·simp only [if_pos e1];exact hlo
     ·simp only [if_neg e1];exact HI.out.low j om
    ·exact (HXn.out.alloc _).grown hgrow (fun k hk=>(hOwnA.lt k hk).1)
   clear hown' hgrow hOwnA hk104 hk32 hXA
   go_wp2
   go_roundg (n - (i+1))
   case measure=>omega
   case rel=>exact ⟨i+1,_,by omega,by go_num,HS⟩
 ·obtain rfl:n=i:=by omega
  rcases HI.out.own.2 with ⟨_,h0⟩|⟨g,cap,cur,rfl,hg,hh,hnc,hcm,hcs,hct⟩
  ·omega
  ·have HM:Hid (MatZ wr w.heap.size g n h (entry rows)):=by
    refine ⟨fun i hi=>?_,HI.out.row,HI.out.inj,HI.out.low,hg,⟨_,_,hh⟩⟩
    have h1:=HI.out.own.cells (g:=g) rfl i (.slice (some ⟨h i,0,none⟩) n n) (by simp [hi])
    rw [← h1]
    unfold Addr.add
    split
    ·subst_vars;rfl
    ·simp
   have HX:=zH HI.out.ext
   clear hh hcs hct HI
   go_wp2
   go_ret
   exact ⟨g,cap,h,rfl,hnc,HM.out,HX.out⟩
def Blk (w:World) (b:Nat) (t:TypeId) (cs:Array Value):Prop:=w.heap[b]? = some (.cells cs t (0,0))
theorem Blk.typ {w:World} {b:Nat} {t:TypeId} {cs:Array Value} (h:Blk w b t cs):TB w t b:=⟨_,_,h⟩
theorem Blk.lt {w:World} {b:Nat} {t:TypeId} {cs:Array Value} (h:Blk w b t cs):b < w.heap.size:=h.typ.lt
theorem Blk.cell {w:World} {b:Nat} {t:TypeId} {cs:Array Value} (h:Blk w b t cs) (i:Nat) {v:Value} (hi:cs[i]? = some v):w.cell? ⟨b,i,none⟩=some v:=by rw [cell_of_row w b i cs t (0,0) h];exact hi
theorem Blk.free {w:World} {b:Nat} {t:TypeId} {cs:Array Value} (h:Blk w b t cs) (i:Nat):w.frozen? ⟨b,i,none⟩=false:=frozen_of_row w b i cs t h
theorem Blk.ext {w w':World} {b:Nat} {t:TypeId} {cs:Array Value} (h:Blk w b t cs) (hx:Ext w w'):Blk w' b t cs:=(Below.block hx b h.lt).trans h
theorem Blk.new (w:World) (t:TypeId) (cs:Array Value):Blk (w.alloc (.cells cs t)) w.heap.size t cs:=zA7 w _
theorem Blk.set {w:World} {b:Nat} {t:TypeId} {cs:Array Value} (h:Blk w b t cs) (i:Nat) (v:Value):Blk (w.setCell ⟨b,i,none⟩ v) b t (cs.setIfInBounds i v):=heap_setCell_same w b i cs t v h
theorem Blk.far {w:World} {b:Nat} {t:TypeId} {cs:Array Value} (h:Blk w b t cs) {c:Nat} (hne:b≠c) (i:Nat) (v:Value):Blk (w.setCell ⟨c,i,none⟩ v) b t cs:=(heap_setCell_other w ⟨c,i,none⟩ b v hne).trans h
theorem Blk.drew {w:World} {b:Nat} {t:TypeId} {cs:Array Value} (h:Blk w b t cs):Blk w.drew b t cs:=h
theorem Blk.one {w:World} {b:Nat} {t:TypeId} {u:Value} (h:Blk w b t #[u]):w.cell? ⟨b,0,none⟩=some u∧w.frozen? ⟨b,0,none⟩=false:=⟨h.cell 0 rfl,h.free 0⟩
theorem Blk.two {w:World} {b:Nat} {t:TypeId} {u v:Value} (h:Blk w b t #[u,v]):w.cell? ⟨b,0,none⟩=some u∧w.frozen? ⟨b,0,none⟩=false∧w.cell? ⟨b,1,none⟩=some v∧w.frozen? ⟨b,1,none⟩=false:=⟨h.cell 0 rfl,h.free 0,h.cell 1 rfl,h.free 1⟩
theorem Blk.three {w:World} {b:Nat} {t:TypeId} {u v x:Value} (h:Blk w b t #[u,v,x]):w.cell? ⟨b,0,none⟩=some u∧w.frozen? ⟨b,0,none⟩=false∧w.cell? ⟨b,1,none⟩=some v∧w.frozen? ⟨b,1,none⟩=false∧w.cell? ⟨b,2,none⟩=some x∧w.frozen? ⟨b,2,none⟩=false:=⟨h.cell 0 rfl,h.free 0,h.cell 1 rfl,h.free 1,h.cell 2 rfl,h.free 2⟩
theorem IsNat.setB {w:World} {A:Option Addr} {k n:Nat} (h:IsNat w A k n) {c:Nat} {t:TypeId} (hc:TB w t c) (ht:t≠133) (i:Nat) (v:Value):IsNat (w.setCell ⟨c,i,none⟩ v) A k n :=
 h.typed fun b hb=>heap_setCell_other w ⟨c,i,none⟩ b v (hb.ne hc (Ne.symm ht))
theorem IsInt.setB {w:World} {neg:Bool} {A:Option Addr} {k:Nat} {z:Int} (h:IsInt w neg A k z) {c:Nat} {t:TypeId} (hc:TB w t c) (ht:t≠133) (i:Nat) (v:Value):IsInt (w.setCell ⟨c,i,none⟩ v) neg A k z:=⟨h.nat.setB hc ht i v,h.sign,h.bits⟩
structure NatB (w:World) (b n:Nat):Prop where
 bits:bitsN n≤4096
 box:∃ A k,Blk w b 47 #[.slice A k k]∧IsNat w A k n
theorem NatB.ext {w w':World} {b n:Nat} (h:NatB w b n) (hx:Ext w w'):NatB w' b n:=by
 obtain ⟨A,k,h1,h2⟩:=h.box
 exact ⟨h.bits,A,k,h1.ext hx,h2.ext hx⟩
theorem NatB.new {w:World} {A:Option Addr} {k n:Nat} (h:IsNat w A k n) (hb:bitsN n≤4096):NatB (w.alloc (.cells #[.slice A k k] 47)) w.heap.size n:=⟨hb,A,k,Blk.new _ _ _,h.alloc _⟩
theorem NatB.put {w:World} {b:Nat} {u:Value} {A:Option Addr} {k n:Nat} (h:Blk w b 47 #[u]) (hn:IsNat w A k n) (hb:bitsN n≤4096):NatB (w.setCell ⟨b,0,none⟩ (.slice A k k)) b n:=⟨hb,A,k,h.set 0 _,hn.setB h.typ (by decide) _ _⟩
theorem NatB.far {w:World} {b n:Nat} (h:NatB w b n) {c:Nat} {t:TypeId} {cs:Array Value} (hc:Blk w c t cs) (ht:t≠133) (hne:b≠c) (i:Nat) (v:Value):NatB (w.setCell ⟨c,i,none⟩ v) b n:=by
 obtain ⟨A,k,h1,h2⟩:=h.box
 exact ⟨h.bits,A,k,h1.far hne _ _,h2.setB hc.typ ht _ _⟩
structure IntB (w:World) (b:Nat) (z:Int):Prop where
 box:∃ neg A k,Blk w b 49 #[.bool neg,.slice A k k]∧IsInt w neg A k z
theorem IntB.ext {w w':World} {b:Nat} {z:Int} (h:IntB w b z) (hx:Ext w w'):IntB w' b z:=by
 obtain ⟨neg,A,k,h1,h2⟩:=h.box
 exact ⟨neg,A,k,h1.ext hx,h2.ext hx⟩
theorem IntB.new {w:World} {neg:Bool} {A:Option Addr} {k:Nat} {z:Int} (h:IsInt w neg A k z):IntB (w.alloc (.cells #[.bool neg,.slice A k k] 49)) w.heap.size z:=⟨neg,A,k,Blk.new _ _ _,h.ext ((Ext.refl w).alloc _)⟩
theorem IntB.put {w:World} {b:Nat} {u v:Value} {neg:Bool} {A:Option Addr} {k:Nat} {z:Int} (h:Blk w b 49 #[u,v]) (hn:IsInt w neg A k z):IntB ((w.setCell ⟨b,0,none⟩ (.bool neg)).setCell ⟨b,1,none⟩ (.slice A k k)) b z :=
 ⟨neg,A,k,(h.set 0 _).set 1 _,(hn.setB h.typ (by decide) _ _).setB (h.set 0 _).typ (by decide) _ _⟩
theorem IntB.far {w:World} {b:Nat} {z:Int} (h:IntB w b z) {c:Nat} {t:TypeId} {cs:Array Value} (hc:Blk w c t cs) (ht:t≠133) (hne:b≠c) (i:Nat) (v:Value):IntB (w.setCell ⟨c,i,none⟩ v) b z:=by
 obtain ⟨neg,A,k,h1,h2⟩:=h.box
 exact ⟨neg,A,k,h1.far hne _ _,h2.setB hc.typ ht _ _⟩
structure IsRat (w:World) (neg:Bool) (A:Option Addr) (k:Nat) (B:Option Addr) (m:Nat) (num:Int) (less:Nat):Prop where
 num:IsInt w neg A k num
 den:IsNat w B m less
 bits:bitsN (less+1)≤4096
theorem IsRat.ext {w w':World} {neg:Bool} {A B:Option Addr} {k m:Nat} {num:Int} {less:Nat} (h:IsRat w neg A k B m num less) (hx:Ext w w'):IsRat w' neg A k B m num less:=⟨h.num.ext hx,h.den.ext hx,h.bits⟩
theorem IsRat.setB {w:World} {neg:Bool} {A B:Option Addr} {k m:Nat} {num:Int} {less:Nat} (h:IsRat w neg A k B m num less) {c:Nat} {t:TypeId} (hc:TB w t c) (ht:t≠133) (i:Nat) (v:Value):IsRat (w.setCell ⟨c,i,none⟩ v) neg A k B m num less:=⟨h.num.setB hc ht i v,h.den.setB hc ht i v,h.bits⟩
theorem IsRat.lessBits {w:World} {neg:Bool} {A B:Option Addr} {k m:Nat} {num:Int} {less:Nat} (h:IsRat w neg A k B m num less):bitsN less≤4096:=Nat.le_trans (zAG (Nat.le_succ _)) h.bits
structure RatB (w:World) (b:Nat) (num:Int) (less:Nat):Prop where
 box:∃ neg A k B m,Blk w b 144 #[.bool neg,.slice A k k,.slice B m m]∧IsRat w neg A k B m num less
theorem blk1 {U V:World} {t:TypeId} {cs:Array Value} (hx:Ext (U.alloc (.cells cs t)).drew V):Blk V U.heap.size t cs:=Blk.ext (w:=(U.alloc (.cells cs t)).drew) (Blk.new U t cs) hx
theorem blk1n {U V:World} {t:TypeId} {cs:Array Value} (hx:Ext (U.alloc (.cells cs t)) V):Blk V U.heap.size t cs:=(Blk.new U t cs).ext hx
theorem blk2 {U V:World} {t t':TypeId} {cs cs':Array Value} (hx:Ext ((U.alloc (.cells cs t)).alloc (.cells cs' t')).drew V):Blk V U.heap.size t cs∧Blk V (U.heap.size+1) t' cs':=by
 refine ⟨Blk.ext (w:=((U.alloc (.cells cs t)).alloc (.cells cs' t')).drew) (((Blk.new U t cs).ext ((Ext.refl _).alloc (.cells cs' t'))).drew) hx,?_⟩
 have:=Blk.ext (w:=((U.alloc (.cells cs t)).alloc (.cells cs' t')).drew) (Blk.new (U.alloc (.cells cs t)) t' cs') hx
 simpa using this
theorem blk2n {U V:World} {t t':TypeId} {cs cs':Array Value} (hx:Ext ((U.alloc (.cells cs t)).alloc (.cells cs' t')) V):Blk V U.heap.size t cs∧Blk V (U.heap.size+1) t' cs':=by
 refine ⟨((Blk.new U t cs).ext ((Ext.refl _).alloc (.cells cs' t'))).ext hx,?_⟩
 have:=(Blk.new (U.alloc (.cells cs t)) t' cs').ext hx
 simpa using this
theorem carry1 {U V:World} {b:Nat} {t:TypeId} {cs:Array Value} (k:Blk U b t cs) (hx:Ext U V):Blk V b t cs:=k.ext hx
theorem carry2 {U V:World} {b b':Nat} {t t':TypeId} {cs cs':Array Value} (k:Blk U b t cs∧Blk U b' t' cs') (hx:Ext U V):Blk V b t cs∧Blk V b' t' cs':=⟨k.1.ext hx,k.2.ext hx⟩
theorem zCb (w:World):Calls Tryz.prog 150 #[] w fun e w'=>∃ A k,e = .returned (.agg #[.slice A k k])∧IsNat w' A k 1∧Ext w w':=by
 obtain ⟨W0,HWW0,hXW0,hsW0,c0,f0⟩:=bx1 w 47 (.slice none 0 0)
 have HX:=zH hXW0
 have HC:=zH (of_any 1 W0 om)
 clear hXW0
 go_enter Tryz.func150,Tryz.ntmps150
 go_wp2_with fail
 rw [HWW0.out]
 refine HC.out.mono ?_
 rintro e w1 ⟨A,k,rfl,hn,hk,hx⟩
 replace f0:=hx.free f0 (zAA c0)
 replace c0:=hx.cell c0
 have hX:=zH (HX.out.trans hx)
 have HN:=zH hn
 clear hx hn HX HC HWW0
 go_wp2
 exact bodyPost_ret (v:=.agg #[.slice A k k]) (by simp [results,Tryz.results150,go_sem,c0]) rfl ⟨A,k,rfl,HN.out.setBox c0 _,(by repeat (first|exact hX.out|refine Ext.setCell ?_ (by first|exact Nat.le_refl _) _))⟩
theorem ratOf_any (neg:Bool) (A:Option Addr) (k:Nat) (z:Int) (w:World) (h:IsInt w neg A k z) :
  Calls Tryz.prog 140 #[.agg #[.bool neg,.slice A k k]] w fun e w'=>e = .returned (.agg #[.bool neg,.slice A k k,.slice none 0 0])∧IsRat w' neg A k none 0 z 0∧Ext w w':=by
 have HI:=zH h
 clear h
 go_enter Tryz.func140,Tryz.ntmps140
 go_wp2
 exact bodyPost_ret (v:=.agg #[.bool neg,.slice A k k,.slice none 0 0]) (by simp [results,Tryz.results140,go_sem]) rfl ⟨rfl,⟨HI.out.ext (((Ext.refl w).alloc _).alloc _),zA3 _,by decide⟩,((Ext.refl w).alloc _).alloc _⟩
set_option maxHeartbeats 1000000 in
theorem zA0 (neg:Bool) (A B:Option Addr) (k m:Nat) (num:Int) (less:Nat) (w:World) (h:IsRat w neg A k B m num less) :
  Calls Tryz.prog 146 #[.agg #[.bool neg,.slice A k k,.slice B m m]] w fun e w'=>∃ A' k',e = .returned (.agg #[.slice A' k' k'])∧IsNat w' A' k' (less+1)∧Ext w w':=by
 obtain ⟨W0,HWW0,hXW0,hsW0,c0a,f0a,c0b,f0b,c0c,f0c,c1,f1⟩:=bx31 w 144 47 (.bool neg) (.slice A k k) (.slice B m m) (.slice none 0 0)
 have HX:=zH hXW0
 have HAdd:=zH (fun W (hx:Ext W0 W) A1 k1 (h1:IsNat W A1 k1 1)=>Add_any B A1 m k1 less 1 W ((h.den.ext hXW0).ext hx) h1 h.lessBits (by decide))
 have HB:=zH h.bits
 have hf:fitN (less+1)=less+1∧codeN (less+1)=0:=⟨by unfold fitN;rw [if_pos h.bits],by unfold codeN;rw [if_pos h.bits]⟩
 rw [hf.1,hf.2] at HAdd
 clear h hXW0 hf
 go_enter Tryz.func146,Tryz.ntmps146
 go_wp2
 rw [HWW0.out]
 clear HWW0
 go_upto_region 1 with (fail)
 go_cut [3,4] (fun s3 s4 wx=>∃ b3,s3 = .pointer (some ⟨b3,0,none⟩)∧s4 = .int .i64 0∧W0.heap.size≤b3∧Hid (NatB wx b3 (less+1))∧Hid (Ext W0 wx))
 case first =>
  have HKeep:=zH (fun (w':World) (hx:Ext W0 w')=>(show w'.cell? ⟨w.heap.size,2,none⟩=some (.slice B m m) from hx.cell c0c))
  go_region_held3 (fun w'=>w'.cell? ⟨w.heap.size,2,none⟩=some (.slice B m m)) (exact HKeep.out _ Ext.uc)
   (first
    | (go_at_call 150;refine (zCb _).mono ?_;rintro e w1 ⟨A1,k1,rfl,hn1,hx⟩;(first|(have k1:=blk2 hx)|(have k1:=blk1 hx)|(have k1:=True.intro));have hxA:Ext W0 w1:=Ext.trans Ext.uc hx;have HN1:=zH hn1;clear hn1;have hs1:=hxA.size;  clear hx)
    | (go_at_call 115;refine (HAdd.out _ Ext.uc _ _ (HN1.out.ext (by first|exact Ext.refl _|exact (Ext.refl _).alloc _))).mono ?_;rintro e w2 ⟨A2,k2,rfl,hn2,hx⟩;(first|(have k2:=blk2 hx)|(have k2:=blk2n hx)|(have k2:=blk1n hx)|(have k2:=blk1 hx)|(have k2:=True.intro));(first|(have kk12:=carry2 k1 hx;clear k1;have k1:=kk12;clear kk12)|(have kk12:=carry1 k1 hx;clear k1;have k1:=kk12;clear kk12)|skip);have hxN:Ext W0 w2:=Ext.trans Ext.uc hx;clear hxA;have hxA:=hxN;clear hxN;have HN2:=zH hn2;clear hn2;have hs2:=hxA.size;(first|(have zz:=Blk.one k1;obtain ⟨zc1,zf1⟩:=zz)|(have zz:=Blk.two k1;obtain ⟨zc1,zf1,zd1,zg1⟩:=zz)|(have zz:=Blk.three k1;obtain ⟨zc1,zf1,zd1,zg1,ze1,zh1⟩:=zz)|skip);(first|(have zz:=Blk.one k1.1;obtain ⟨zc1a,zf1a⟩:=zz)|(have zz:=Blk.two k1.1;obtain ⟨zc1a,zf1a,zd1a,zg1a⟩:=zz)|(have zz:=Blk.three k1.1;obtain ⟨zc1a,zf1a,zd1a,zg1a,ze1a,zh1a⟩:=zz)|skip);(first|(have zz:=Blk.one k1.2;obtain ⟨zc1b,zf1b⟩:=zz)|(have zz:=Blk.two k1.2;obtain ⟨zc1b,zf1b,zd1b,zg1b⟩:=zz)|(have zz:=Blk.three k1.2;obtain ⟨zc1b,zf1b,zd1b,zg1b,ze1b,zh1b⟩:=zz)|skip);(first|(have zz:=Blk.one k2;obtain ⟨zc2,zf2⟩:=zz)|(have zz:=Blk.two k2;obtain ⟨zc2,zf2,zd2,zg2⟩:=zz)|(have zz:=Blk.three k2;obtain ⟨zc2,zf2,zd2,zg2,ze2,zh2⟩:=zz)|skip);(first|(have zz:=Blk.one k2.1;obtain ⟨zc2a,zf2a⟩:=zz)|(have zz:=Blk.two k2.1;obtain ⟨zc2a,zf2a,zd2a,zg2a⟩:=zz)|(have zz:=Blk.three k2.1;obtain ⟨zc2a,zf2a,zd2a,zg2a,ze2a,zh2a⟩:=zz)|skip);(first|(have zz:=Blk.one k2.2;obtain ⟨zc2b,zf2b⟩:=zz)|(have zz:=Blk.two k2.2;obtain ⟨zc2b,zf2b,zd2b,zg2b⟩:=zz)|(have zz:=Blk.three k2.2;obtain ⟨zc2b,zf2b,zd2b,zg2b,ze2b,zh2b⟩:=zz)|skip);  clear hx))
  all_goals
   go_wp2
   go_meet
   first
   | exact ⟨w2.heap.size,rfl,rfl,hs2,NatB.new HN2.out HB.out,hxA.alloc _⟩
   | exact ⟨W0.heap.size,rfl,rfl,Nat.le_refl _,NatB.put k1 HN2.out HB.out,hxA.setCell (p:=⟨_,0,none⟩) (Nat.le_refl _) _⟩
   | exact ⟨w1.heap.size,rfl,rfl,hs1,NatB.put k2 HN2.out HB.out,hxA.setCell (p:=⟨_,0,none⟩) hs1 _⟩
 obtain ⟨b3,rfl,rfl,hb3,HN,HXc⟩:=hcut
 replace f1:=HXc.out.free f1 (zAA c1)
 replace c1:=HXc.out.cell c1
 have hX:=zH (HX.out.trans HXc.out)
 obtain ⟨A3,k3,q,hn⟩:=HN.out.box
 have q1:=q.cell 0 rfl
 have hlt:=q.lt
 have HN3:=zH hn
 clear HN hn HX HXc q
 go_wp2
 exact bodyPost_ret (v:=.agg #[.slice A3 k3 k3]) (by simp [results,Tryz.results146,go_sem,c1]) rfl ⟨A3,k3,rfl,HN3.out.setBox c1 _,(by repeat (first|exact hX.out|refine Ext.drew ?_|refine Ext.drewN ?_ _|refine Ext.setCell ?_ (by first|exact Nat.le_refl _|(simp only [];omega)) _|refine Ext.alloc ?_ _))⟩
set_option maxHeartbeats 1000000 in
theorem by_any (na:Bool) (A B:Option Addr) (k m:Nat) (a:Int) (b:Nat) (w:World) (ha:IsInt w na A k a) (hb:IsNat w B m b) (hB:bitsN b≤4096) :
  Calls Tryz.prog 190 #[.agg #[.bool na,.slice A k k],.agg #[.slice B m m]] w fun e w'=>∃ n A' k',e = .returned (.tuple #[.agg #[.bool n,.slice A' k' k'],.int .i64 (codeZ (a*b))])∧IsInt w' n A' k' (fitZ (a*b))∧Ext w w':=by
 obtain ⟨W0,hWW0⟩:∃ W0:World,((w.alloc (.cells #[.bool na,.slice A k k] 49)).alloc (.cells #[.slice B m m] 47)).alloc (.cells #[.bool false,.slice none 0 0] 49)=W0:=⟨_,rfl⟩
 have hXW0:Ext w W0:=by rw [← hWW0];exact ((((Ext.refl w).alloc _).alloc _).alloc _)
 have hsW0:w.heap.size+3≤W0.heap.size:=by rw [← hWW0];simp only [World.size_alloc];omega
 have c0a:W0.cell? ⟨w.heap.size,0,none⟩=some (.bool na):=wz
 have f0a:W0.frozen? ⟨w.heap.size,0,none⟩=false:=wz
 have c0b:W0.cell? ⟨w.heap.size,1,none⟩=some (.slice A k k):=wz
 have f0b:W0.frozen? ⟨w.heap.size,1,none⟩=false:=wz
 have c1:W0.cell? ⟨w.heap.size+1,0,none⟩=some (.slice B m m):=wz
 have f1:W0.frozen? ⟨w.heap.size+1,0,none⟩=false:=wz
 have c2a:W0.cell? ⟨w.heap.size+1+1,0,none⟩=some (.bool false):=wz
 have f2a:W0.frozen? ⟨w.heap.size+1+1,0,none⟩=false:=wz
 have c2b:W0.cell? ⟨w.heap.size+1+1,1,none⟩=some (.slice none 0 0):=wz
 have f2b:W0.frozen? ⟨w.heap.size+1+1,1,none⟩=false:=wz
 have HWW0:=zH hWW0
 clear hWW0
 have HX:=zH hXW0
 have HMk:=zH (fun W (hx:Ext W0 W)=>zAd false B m b W ((hb.ext hXW0).ext hx) hB)
 have HNb:=zH (show IsInt W0 false B m (b:Int) from ⟨by rw [Int.natAbs_natCast];exact hb.ext hXW0,by simp,by rw [Int.natAbs_natCast];exact hB⟩)
 have HMul:=zH (fun W (hx:Ext W0 W)=>zCW na false A B k m a b W ((ha.ext hXW0).ext hx) (HNb.out.ext hx))
 clear ha hb hXW0 hB
 go_enter Tryz.func190,Tryz.ntmps190
 go_wp2
 rw [HWW0.out]
 clear HWW0
 go_upto_region 1 with (fail)
 have HKeep:=zH (fun (w':World) (hx:Ext W0 w')=>(show w'.cell? ⟨w.heap.size,0,none⟩=some (.bool na)∧w'.cell? ⟨w.heap.size,1,none⟩=some (.slice A k k)∧w'.cell? ⟨w.heap.size+1,0,none⟩=some (.slice B m m) from ⟨hx.cell c0a,hx.cell c0b,hx.cell c1⟩))
 have HKeepR:=zH (fun (w':World) (hx:Ext W0 w') (u v:Value)=>(show ((w'.setCell ⟨w.heap.size+1+1,0,none⟩ u).setCell ⟨w.heap.size+1+1,1,none⟩ v).cell? ⟨w.heap.size,0,none⟩=some (.bool na)∧((w'.setCell ⟨w.heap.size+1+1,0,none⟩ u).setCell ⟨w.heap.size+1+1,1,none⟩ v).cell? ⟨w.heap.size,1,none⟩=some (.slice A k k)∧((w'.setCell ⟨w.heap.size+1+1,0,none⟩ u).setCell ⟨w.heap.size+1+1,1,none⟩ v).cell? ⟨w.heap.size+1,0,none⟩=some (.slice B m m) from ⟨by rw [World.cell?_setCell_other _ _ _ _ (by intro e;injection e with e1 e2;omega),World.cell?_setCell_other _ _ _ _ (by intro e;injection e with e1 e2;omega)];exact hx.cell c0a,by rw [World.cell?_setCell_other _ _ _ _ (by intro e;injection e with e1 e2;omega),World.cell?_setCell_other _ _ _ _ (by intro e;injection e with e1 e2;omega)];exact hx.cell c0b,by rw [World.cell?_setCell_other _ _ _ _ (by intro e;injection e with e1 e2;omega),World.cell?_setCell_other _ _ _ _ (by intro e;injection e with e1 e2;omega)];exact hx.cell c1⟩))
 go_region_held3 (fun w'=>w'.cell? ⟨w.heap.size,0,none⟩=some (.bool na)∧w'.cell? ⟨w.heap.size,1,none⟩=some (.slice A k k)∧w'.cell? ⟨w.heap.size+1,0,none⟩=some (.slice B m m)) (first|exact HKeepR.out _ hxA _ _|exact HKeep.out _ Ext.uc)
  (first
   | (go_at_call 114;refine (HMk.out _ Ext.uc).mono ?_;rintro e w1 ⟨rfl,hx⟩;(first|(have k1:=blk2 hx)|(have k1:=blk1 hx)|(have k1:=True.intro));have hxA:Ext W0 w1:=Ext.trans Ext.uc hx;have hs1:=hxA.size;have hz1:=hx.size;(try simp only [World.size_alloc,World.size_drew,World.size_setCell] at hz1);  clear hx)
   | (go_at_call 66;refine (HMul.out _ Ext.uc).mono ?_;rintro e w2 ⟨nx,Ax,kx,rfl,hix,hx⟩;(first|(have k2:=blk2 hx)|(have k2:=blk2n hx)|(have k2:=blk1n hx)|(have k2:=blk1 hx)|(have k2:=True.intro));(first|(have kk12:=carry2 k1 hx;clear k1;have k1:=kk12;clear kk12)|(have kk12:=carry1 k1 hx;clear k1;have k1:=kk12;clear kk12)|skip);have hxN:Ext W0 w2:=Ext.trans Ext.uc hx;clear hxA;have hxA:=hxN;clear hxN;have HIx:=zH hix;clear hix;have q1:=hxA.cell c2a;have q2:=hxA.cell c2b;have q3:=hxA.free f2a (zAA c2a);have q4:=hxA.free f2b (zAA c2b);have hs2:=hxA.size;have hz2:=hx.size;(try simp only [World.size_alloc,World.size_drew,World.size_setCell] at hz2);(first|(have zz:=Blk.one k1;obtain ⟨zc1,zf1⟩:=zz)|(have zz:=Blk.two k1;obtain ⟨zc1,zf1,zd1,zg1⟩:=zz)|(have zz:=Blk.three k1;obtain ⟨zc1,zf1,zd1,zg1,ze1,zh1⟩:=zz)|skip);(first|(have zz:=Blk.one k1.1;obtain ⟨zc1a,zf1a⟩:=zz)|(have zz:=Blk.two k1.1;obtain ⟨zc1a,zf1a,zd1a,zg1a⟩:=zz)|(have zz:=Blk.three k1.1;obtain ⟨zc1a,zf1a,zd1a,zg1a,ze1a,zh1a⟩:=zz)|skip);(first|(have zz:=Blk.one k1.2;obtain ⟨zc1b,zf1b⟩:=zz)|(have zz:=Blk.two k1.2;obtain ⟨zc1b,zf1b,zd1b,zg1b⟩:=zz)|(have zz:=Blk.three k1.2;obtain ⟨zc1b,zf1b,zd1b,zg1b,ze1b,zh1b⟩:=zz)|skip);(first|(have zz:=Blk.one k2;obtain ⟨zc2,zf2⟩:=zz)|(have zz:=Blk.two k2;obtain ⟨zc2,zf2,zd2,zg2⟩:=zz)|(have zz:=Blk.three k2;obtain ⟨zc2,zf2,zd2,zg2,ze2,zh2⟩:=zz)|skip);(first|(have zz:=Blk.one k2.1;obtain ⟨zc2a,zf2a⟩:=zz)|(have zz:=Blk.two k2.1;obtain ⟨zc2a,zf2a,zd2a,zg2a⟩:=zz)|(have zz:=Blk.three k2.1;obtain ⟨zc2a,zf2a,zd2a,zg2a,ze2a,zh2a⟩:=zz)|skip);(first|(have zz:=Blk.one k2.2;obtain ⟨zc2b,zf2b⟩:=zz)|(have zz:=Blk.two k2.2;obtain ⟨zc2b,zf2b,zd2b,zg2b⟩:=zz)|(have zz:=Blk.three k2.2;obtain ⟨zc2b,zf2b,zd2b,zg2b,ze2b,zh2b⟩:=zz)|skip);  clear hx))
 all_goals
  go_wp2
  first
  | exact bodyPost_ret (v:=.tuple #[.agg #[.bool nx,.slice Ax kx kx],.int .i64 (codeZ (a*b))]) (by simp [results,Tryz.results190,go_sem,q1,q2]) rfl ⟨nx,Ax,kx,rfl,(HIx.out.setBool q1 _).setBox (a':=none) (m:=0) (c:=0) (by rw [World.cell?_setCell_other _ _ _ _ (by simp)];exact q2) _,by have hh:=HX.out.trans hxA;exact (by repeat (first|exact hh|refine Ext.drew ?_|refine Ext.drewN ?_ _|refine Ext.setCell ?_ (by first|exact Nat.le_refl _|(simp only [];omega)) _|refine Ext.alloc ?_ _))⟩
def lowNum (num:Int) (den:Nat):Int:=num / (Nat.gcd num.natAbs den:Nat)
def lowLess (num:Int) (den:Nat):Nat:=den / Nat.gcd num.natAbs den - 1
theorem low_num {num:Int} {den:Nat} (hd:den≠0):(lowNum num den).natAbs=num.natAbs / Nat.gcd num.natAbs den∧(decide (num < 0) && decide (num.natAbs / Nat.gcd num.natAbs den≠0))=decide (lowNum num den < 0):=by
 unfold lowNum
 obtain ⟨q,hq⟩:=Nat.gcd_dvd_left num.natAbs den
 have hg:0 < Nat.gcd num.natAbs den:=Nat.gcd_pos_of_pos_right _ (Nat.pos_of_ne_zero hd)
 generalize Nat.gcd num.natAbs den=g at *
 have h1:num.natAbs / g=q:=by rw [hq];exact Nat.mul_div_cancel_left _ hg
 rw [h1]
 rcases Int.natAbs_eq num with e|e
 ·have e2:num / (g:Int)=(q:Int):=by rw [e,hq,Int.natCast_mul];exact Int.mul_ediv_cancel_left _ om
  rw [e2]
  refine ⟨rfl,?_⟩
  have h3:¬ num < 0:=by omega
  have h4:¬ (q:Int) < 0:=by omega
  simp only [h3,h4,decide_false,Bool.false_and]
 ·have e2:num / (g:Int) = -(q:Int):=by
   rw [e,hq,Int.natCast_mul,← Int.mul_neg];exact Int.mul_ediv_cancel_left _ om
  rw [e2]
  refine ⟨by omega,?_⟩
  by_cases h0:q=0
  ·subst h0;simp
  ·have h3:num < 0:=by
    have:0 < num.natAbs:=by rw [hq];exact Nat.mul_pos hg (Nat.pos_of_ne_zero h0)
    omega
   have h4:-(q:Int) < 0:=by omega
   have h5:decide (q≠0)=true:=by simpa using h0
   simp only [h3,h4,h5,decide_true,Bool.and_true]
theorem NatB.at {w:World} {A:Option Addr} {b k n:Nat} (hs:b=w.heap.size) (h:IsNat w A k n) (hb:bitsN n≤4096):NatB (w.alloc (.cells #[.slice A k k] 47)) b n:=by rw [hs];exact NatB.new h hb
theorem zAo {w:World} {b c:Nat} {u v y:Value} {A:Option Addr} {k n:Nat} (h6:Blk w b 47 #[u]) (h7:Blk w c 47 #[v]) (hne:b≠c) (hn:IsNat w A k n) (hb:bitsN n≤4096):NatB ((w.setCell ⟨b,0,none⟩ (.slice A k k)).setCell ⟨c,0,none⟩ y) b n :=
 (NatB.put h6 hn hb).far (h7.far (Ne.symm hne) _ _) (by decide) hne _ _
theorem sign_lt (z:Int):decide (signZ z < 0)=decide (z < 0):=by
 unfold signZ
 by_cases h0:z=0
 ·subst h0;decide
 ·rw [if_neg h0]
  by_cases h1:z < 0
  ·rw [if_pos h1];simp [h1]
  ·rw [if_neg h1];simp [h1]
structure LowSt (w wx:World) (num:Int) (den:Nat):Prop where
 num:IntB wx w.heap.size num
 den:NatB wx (w.heap.size+1) den
 res:Blk wx (w.heap.size+1+1) 144 #[.bool false,.slice none 0 0,.slice none 0 0]
 ext:Ext w wx
set_option maxHeartbeats 4000000 in
theorem low_any (na:Bool) (A B:Option Addr) (k m:Nat) (num:Int) (den:Nat) (w:World) (ha:IsInt w na A k num) (hb:IsNat w B m den) (hB:bitsN den≤4096) (hd:den≠0) :
  Calls Tryz.prog 191 #[.agg #[.bool na,.slice A k k],.agg #[.slice B m m]] w fun e w'=>∃ n A' k' B' m',e = .returned (.agg #[.bool n,.slice A' k' k',.slice B' m' m'])∧IsRat w' n A' k' B' m' (lowNum num den) (lowLess num den)∧Ext w w':=by
 obtain ⟨W0,hWW0⟩:∃ W0:World,((w.alloc (.cells #[.bool na,.slice A k k] 49)).alloc (.cells #[.slice B m m] 47)).alloc (.cells #[.bool false,.slice none 0 0,.slice none 0 0] 144)=W0:=⟨_,rfl⟩
 have hXW0:Ext w W0:=by rw [← hWW0];exact ((((Ext.refl w).alloc _).alloc _).alloc _)
 have hsW0:w.heap.size+3≤W0.heap.size:=by rw [← hWW0];simp only [World.size_alloc];omega
 have c0a:W0.cell? ⟨w.heap.size,0,none⟩=some (.bool na):=wz
 have f0a:W0.frozen? ⟨w.heap.size,0,none⟩=false:=wz
 have c0b:W0.cell? ⟨w.heap.size,1,none⟩=some (.slice A k k):=wz
 have f0b:W0.frozen? ⟨w.heap.size,1,none⟩=false:=wz
 have c1:W0.cell? ⟨w.heap.size+1,0,none⟩=some (.slice B m m):=wz
 have f1:W0.frozen? ⟨w.heap.size+1,0,none⟩=false:=wz
 have c2a:W0.cell? ⟨w.heap.size+1+1,0,none⟩=some (.bool false):=wz
 have f2a:W0.frozen? ⟨w.heap.size+1+1,0,none⟩=false:=wz
 have c2b:W0.cell? ⟨w.heap.size+1+1,1,none⟩=some (.slice none 0 0):=wz
 have f2b:W0.frozen? ⟨w.heap.size+1+1,1,none⟩=false:=wz
 have c2c:W0.cell? ⟨w.heap.size+1+1,2,none⟩=some (.slice none 0 0):=wz
 have f2c:W0.frozen? ⟨w.heap.size+1+1,2,none⟩=false:=wz
 have HWW0:=zH hWW0
 clear hWW0
 have HX:=zH hXW0
 have HI0:=zH (ha.ext hXW0)
 have HN0:=zH (hb.ext hXW0)
 have HBd:=zH hB
 have HD:=zH hd
 have HBl:Hid (Blk W0 (w.heap.size+1+1) 144 #[.bool false,.slice none 0 0,.slice none 0 0]∧Blk W0 w.heap.size 49 #[.bool na,.slice A k k]∧Blk W0 (w.heap.size+1) 47 #[.slice B m m]):=by
  unfold Hid
  rw [← HWW0.out]
  refine ⟨by have:=Blk.new ((w.alloc (.cells #[.bool na,.slice A k k] 49)).alloc (.cells #[.slice B m m] 47)) 144 #[.bool false,.slice none 0 0,.slice none 0 0];simpa using this,((Blk.new w 49 #[.bool na,.slice A k k]).ext ((Ext.refl _).alloc _)).ext ((Ext.refl _).alloc _),?_⟩
  have:=(Blk.new (w.alloc (.cells #[.bool na,.slice A k k] 49)) 47 #[.slice B m m]).ext ((Ext.refl _).alloc (.cells #[.bool false,.slice none 0 0,.slice none 0 0] 144))
  simpa using this
 have HAbs:=zH (fun W=>zCV na A k W)
 have HGcd:=zH (fun W (hx:Ext W0 W)=>Gcd_any A B k m num.natAbs den W (HI0.out.nat.ext hx) (HN0.out.ext hx) HI0.out.bits HBd.out)
 obtain ⟨g,hg⟩:∃ g,Nat.gcd num.natAbs den=g:=⟨_,rfl⟩
 rw [hg] at HGcd
 have HG:Hid (Nat.gcd num.natAbs den=g∧g≠0∧bitsN g≤4096):=⟨hg,by rw [← hg];exact Nat.ne_of_gt (Nat.gcd_pos_of_pos_right _ (Nat.pos_of_ne_zero hd)),Nat.le_trans (zAG (by rw [← hg];exact Nat.gcd_le_right _ (Nat.pos_of_ne_zero hd))) hB⟩
 have HLN:=zH (low_num (num:=num) hd)
 have HDg:Hid (den / g≠0):=by
  have h1:0 < den / g:=Nat.div_pos (by rw [← hg];exact Nat.gcd_le_right _ (Nat.pos_of_ne_zero hd)) (by rw [← hg];exact Nat.gcd_pos_of_pos_right _ (Nat.pos_of_ne_zero hd))
  exact Nat.ne_of_gt h1
 have HDef:Hid (lowLess num den=den / g - 1∧(g=1→lowNum num den=num)):=⟨by unfold lowLess;rw [hg],fun h1=>by unfold lowNum;rw [hg,h1];simp⟩
 clear ha hb hB hd hXW0 hg
 go_enter Tryz.func191,Tryz.ntmps191
 go_wp2
 rw [HWW0.out]
 clear HWW0
 go_upto_region 1 with (fail)
 go_cut [5] (fun s5 wx=>∃ b5,s5 = .pointer (some ⟨b5,0,none⟩)∧W0.heap.size≤b5∧Hid (NatB wx b5 g)∧Hid (Ext W0 wx))
 case first =>
  have HKeep:=zH (fun (w':World) (hx:Ext W0 w')=>(show w'.cell? ⟨w.heap.size,0,none⟩=some (.bool na)∧w'.cell? ⟨w.heap.size,1,none⟩=some (.slice A k k)∧w'.cell? ⟨w.heap.size+1,0,none⟩=some (.slice B m m) from ⟨hx.cell c0a,hx.cell c0b,hx.cell c1⟩))
  go_region_held3 (fun w'=>w'.cell? ⟨w.heap.size,0,none⟩=some (.bool na)∧w'.cell? ⟨w.heap.size,1,none⟩=some (.slice A k k)∧w'.cell? ⟨w.heap.size+1,0,none⟩=some (.slice B m m)) (exact HKeep.out _ Ext.uc)
   (first
    | (go_at_call 47;refine (HAbs.out _).mono ?_;rintro e w1 ⟨rfl,hx⟩;(first|(have k1:=blk1 hx)|(have k1:=True.intro));have hxA:Ext W0 w1:=Ext.trans Ext.uc hx;have hs1:=hxA.size;have hz1:=hx.size;(try simp only [World.size_alloc,World.size_drew,World.size_setCell] at hz1);  clear hx)
    | (go_at_call 221;refine (HGcd.out _ Ext.uc).mono ?_;rintro e w2 ⟨A2,k2,rfl,hn2,hx⟩;(first|(have k2:=blk1n hx)|(have k2:=True.intro));(first|(have kk:=carry1 k1 (Ext.trans Ext.ud hx);clear k1;have k1:=kk;clear kk)|skip);have hxN:Ext W0 w2:=Ext.trans Ext.uc hx;clear hxA;have hxA:=hxN;clear hxN;have HN2:=zH hn2;clear hn2;have hs2:=hxA.size;have hz2:=hx.size;(try simp only [World.size_alloc,World.size_drew,World.size_setCell] at hz2);(first|(have zl1:=Blk.lt k1)|skip);(first|(have zz:=Blk.one k1;obtain ⟨zc1,zf1⟩:=zz)|skip);(first|(have zl2:=Blk.lt k2)|skip);(first|(have zz:=Blk.one k2;obtain ⟨zc2,zf2⟩:=zz)|skip);  clear hx))
  all_goals
   go_wp2
   go_meet
   first
   | exact ⟨w2.heap.size,rfl,hs2,NatB.new HN2.out HG.out.2.2,hxA.alloc _⟩
   | exact ⟨W0.heap.size,rfl,Nat.le_refl _,NatB.put k1 HN2.out HG.out.2.2,hxA.setCell (p:=⟨_,0,none⟩) (Nat.le_refl _) _⟩
   | exact ⟨w1.heap.size,rfl,hs1,NatB.put k2 HN2.out HG.out.2.2,hxA.setCell (p:=⟨_,0,none⟩) hs1 _⟩
 obtain ⟨b5,rfl,hb5,HB5,HXc⟩:=hcut
 obtain ⟨Wa,hWa⟩:∃ Wa,wc=Wa:=⟨_,rfl⟩
 rw [hWa] at HB5 HXc ⊢
 clear hWa wc HGcd
 replace f0a:=HXc.out.free f0a (zAA c0a)
 replace c0a:=HXc.out.cell c0a
 replace f0b:=HXc.out.free f0b (zAA c0b)
 replace c0b:=HXc.out.cell c0b
 replace f1:=HXc.out.free f1 (zAA c1)
 replace c1:=HXc.out.cell c1
 replace f2a:=HXc.out.free f2a (zAA c2a)
 replace c2a:=HXc.out.cell c2a
 replace f2b:=HXc.out.free f2b (zAA c2b)
 replace c2b:=HXc.out.cell c2b
 replace f2c:=HXc.out.free f2c (zAA c2c)
 replace c2c:=HXc.out.cell c2c
 obtain ⟨A5,k5,q5,hn5⟩:=HB5.out.box
 obtain ⟨c5,f5⟩:=q5.one
 have hl5:=q5.lt
 have HN5:=zH hn5
 have HQ5:=zH q5
 clear hn5 q5
 have HCmp:=zH (fun W (hx:Ext Wa W) A1 k1 (h1:IsNat W A1 k1 1)=>zBS A5 A1 k5 k1 g 1 W (HN5.out.ext hx) h1 (by have:=zAK HN5.out HG.out.2.2;omega) (by have:=zAK h1 (by decide);omega))
 obtain ⟨q,hq⟩:∃ q,cmpN g 1=q:=⟨_,rfl⟩
 rw [hq] at HCmp
 have HQ:=zH hq
 clear hq
 go_upto_region 2 with (fail)
 go_cut [18] (fun s18 wx=>s18 = .bool (decide (0 < q))∧Hid (Ext Wa wx))
 case first =>
  have HKeep:=zH (fun (w':World) (hx:Ext Wa w')=>(show w'.cell? ⟨b5,0,none⟩=some (.slice A5 k5 k5) from hx.cell c5))
  go_region_held3 (fun w'=>w'.cell? ⟨b5,0,none⟩=some (.slice A5 k5 k5)) (exact HKeep.out _ Ext.uc)
   (first
    | (go_at_call 150;refine (zCb _).mono ?_;rintro e w1 ⟨A1,k1,rfl,hn1,hx⟩;(first|(have k1:=True.intro));have hxA:Ext Wa w1:=Ext.trans Ext.uc hx;have HN1:=zH hn1;clear hn1;have hs1:=hxA.size;have hz1:=hx.size;(try simp only [World.size_alloc,World.size_drew,World.size_setCell] at hz1);  clear hx)
    | (go_at_call 60;refine (HCmp.out _ Ext.uc _ _ (HN1.out.ext (by first|exact Ext.refl _))).mono ?_;rintro e w2 ⟨rfl,hx⟩;(first|(have k2:=True.intro));have hxN:Ext Wa w2:=Ext.trans Ext.uc hx;clear hxA;have hxA:=hxN;clear hxN;have hs2:=hxA.size;have hz2:=hx.size;  clear hx))
  all_goals
   go_wp2
   go_meet
   first
   | exact ⟨rfl,hxA⟩
 obtain ⟨rfl,HXb⟩:=hcut
 obtain ⟨Wb,hWb⟩:∃ Wb,wc=Wb:=⟨_,rfl⟩
 rw [hWb] at HXb ⊢
 clear hWb wc
 replace f0a:=HXb.out.free f0a (zAA c0a)
 replace c0a:=HXb.out.cell c0a
 replace f0b:=HXb.out.free f0b (zAA c0b)
 replace c0b:=HXb.out.cell c0b
 replace f1:=HXb.out.free f1 (zAA c1)
 replace c1:=HXb.out.cell c1
 replace f2a:=HXb.out.free f2a (zAA c2a)
 replace c2a:=HXb.out.cell c2a
 replace f2b:=HXb.out.free f2b (zAA c2b)
 replace c2b:=HXb.out.cell c2b
 replace f2c:=HXb.out.free f2c (zAA c2c)
 replace c2c:=HXb.out.cell c2c
 replace f5:=HXb.out.free f5 (zAA c5)
 replace c5:=HXb.out.cell c5
 have HX0b:=zH (HXc.out.trans HXb.out)
 go_wp2
 ·rename_i hs
  have HDiv:=zH (fun W (hx:Ext Wb W)=>zCh A A5 k k5 num.natAbs g W ((HI0.out.nat.ext HX0b.out).ext hx) ((HN5.out.ext HXb.out).ext hx) (by have:=zAK HI0.out.nat HI0.out.bits;omega) (by have:=zAK HN5.out HG.out.2.2;omega) HG.out.2.1)
  have HBq:=zH (Nat.le_trans (zAG (Nat.div_le_self num.natAbs g)) HI0.out.bits)
  go_upto_region 3 with (fail)
  go_cut [6] (fun s6 wx=>∃ b6,s6 = .pointer (some ⟨b6,0,none⟩)∧Wb.heap.size≤b6∧Hid (NatB wx b6 (num.natAbs / g))∧Hid (Ext Wb wx))
  case first =>
   have HKeep:=zH (fun (w':World) (hx:Ext Wb w')=>(show w'.cell? ⟨w.heap.size,0,none⟩=some (.bool na)∧w'.cell? ⟨w.heap.size,1,none⟩=some (.slice A k k)∧w'.cell? ⟨b5,0,none⟩=some (.slice A5 k5 k5) from ⟨hx.cell c0a,hx.cell c0b,hx.cell c5⟩))
   go_region_held3 (fun w'=>w'.cell? ⟨w.heap.size,0,none⟩=some (.bool na)∧w'.cell? ⟨w.heap.size,1,none⟩=some (.slice A k k)∧w'.cell? ⟨b5,0,none⟩=some (.slice A5 k5 k5)) (exact HKeep.out _ Ext.uc)
    (first
     | (go_at_call 47;refine (HAbs.out _).mono ?_;rintro e w1 ⟨rfl,hx⟩;(first|(have k1:=blk2 hx)|(have k1:=blk1 hx)|(have k1:=True.intro));have hxA:Ext Wb w1:=Ext.trans Ext.uc hx;have hs1:=hxA.size;have hz1:=hx.size;(try simp only [World.size_alloc,World.size_drew,World.size_setCell] at hz1);  clear hx)
     | (go_at_call 149;refine (HDiv.out _ Ext.uc).mono ?_;rintro e w2 ⟨A2,k2,A3,k3,rfl,hn2,hn3,hx⟩;(first|(have k2:=blk2n hx)|(have k2:=blk1n hx)|(have k2:=True.intro));(first|(have kk:=carry2 k1 (Ext.trans Ext.ud hx);clear k1;have k1:=kk;clear kk)|(have kk:=carry1 k1 (Ext.trans Ext.ud hx);clear k1;have k1:=kk;clear kk)|skip);have hxN:Ext Wb w2:=Ext.trans Ext.uc hx;clear hxA;have hxA:=hxN;clear hxN;have HN2:=zH hn2;clear hn2 hn3;have hs2:=hxA.size;have hz2:=hx.size;(try simp only [World.size_alloc,World.size_drew,World.size_setCell] at hz2);(first|(have zl1:=Blk.lt k1)|skip);(first|(have zz:=Blk.one k1;obtain ⟨zc1,zf1⟩:=zz)|skip);(first|(have zl1a:=Blk.lt k1.1)|skip);(first|(have zz:=Blk.one k1.1;obtain ⟨zc1a,zf1a⟩:=zz)|skip);(first|(have zl1b:=Blk.lt k1.2)|skip);(first|(have zz:=Blk.one k1.2;obtain ⟨zc1b,zf1b⟩:=zz)|skip);(first|(have zl2:=Blk.lt k2)|skip);(first|(have zz:=Blk.one k2;obtain ⟨zc2,zf2⟩:=zz)|skip);(first|(have zl2a:=Blk.lt k2.1)|skip);(first|(have zz:=Blk.one k2.1;obtain ⟨zc2a,zf2a⟩:=zz)|skip);(first|(have zl2b:=Blk.lt k2.2)|skip);(first|(have zz:=Blk.one k2.2;obtain ⟨zc2b,zf2b⟩:=zz)|skip);  clear hx))
   all_goals
    go_wp2
    go_meet
    first
    | exact ⟨_,rfl,(by first|exact Nat.le_refl _|omega),(by first|exact NatB.ext (NatB.put k1 HN2.out HBq.out) ((Ext.refl _).alloc _)|exact NatB.ext (NatB.put k2 HN2.out HBq.out) ((Ext.refl _).alloc _)|exact NatB.ext (NatB.new HN2.out HBq.out) ((Ext.refl _).alloc _)|exact NatB.at (by simp only [World.size_setCell,World.size_alloc]) (by first|exact HN2.out.ext ((Ext.refl _).alloc _)|exact HN2.out.setB (Blk.typ k1) (by decide) _ _|exact HN2.out.setB (Blk.typ k2) (by decide) _ _) HBq.out|exact zAo k1 k2 om HN2.out HBq.out|exact zAo k1.1 k1.2 om HN2.out HBq.out|exact zAo k1.2 k1.1 om HN2.out HBq.out|exact zAo k2 k1 om HN2.out HBq.out|exact zAo k2.1 k2.2 om HN2.out HBq.out|exact zAo k2.2 k2.1 om HN2.out HBq.out),Ext.uc⟩
  obtain ⟨b6,rfl,hb6,HB6,HXf⟩:=hcut
  obtain ⟨Wc,hWc⟩:∃ Wc,wc=Wc:=⟨_,rfl⟩
  rw [hWc] at HB6 HXf ⊢
  clear hWc wc
  replace f0a:=HXf.out.free f0a (zAA c0a)
  replace c0a:=HXf.out.cell c0a
  replace f0b:=HXf.out.free f0b (zAA c0b)
  replace c0b:=HXf.out.cell c0b
  replace f1:=HXf.out.free f1 (zAA c1)
  replace c1:=HXf.out.cell c1
  replace f2a:=HXf.out.free f2a (zAA c2a)
  replace c2a:=HXf.out.cell c2a
  replace f2b:=HXf.out.free f2b (zAA c2b)
  replace c2b:=HXf.out.cell c2b
  replace f2c:=HXf.out.free f2c (zAA c2c)
  replace c2c:=HXf.out.cell c2c
  replace f5:=HXf.out.free f5 (zAA c5)
  replace c5:=HXf.out.cell c5
  have HX0c:=zH (HX0b.out.trans HXf.out)
  have HXbc:=zH (HXb.out.trans HXf.out)
  obtain ⟨A6,k6,q6,hn6⟩:=HB6.out.box
  obtain ⟨c6,f6⟩:=q6.one
  have hl6:=q6.lt
  have HN6:=zH hn6
  have HB6b:=zH HB6.out.bits
  clear hn6 q6 HB6
  obtain ⟨n6,hn6⟩:∃ n6,num.natAbs / g=n6:=⟨_,rfl⟩
  rw [hn6] at HN6 HB6b
  have HL6:Hid ((lowNum num den).natAbs=n6∧(decide (num < 0) && decide (n6≠0))=decide (lowNum num den < 0)):=by
   have:=HLN.out
   rw [HG.out.1,hn6] at this
   exact this
  clear hn6
  have HSg:=zH (fun W (hx:Ext Wc W)=>zBa na A k num W ((HI0.out.ext HX0c.out).ext hx))
  obtain ⟨sg,hsg⟩:∃ sg,signZ num=sg:=⟨_,rfl⟩
  have HSn:=zH (sign_lt num)
  rw [hsg] at HSg HSn
  clear hsg
  have HMk:=zH (fun W (hx:Ext Wc W)=>zAd (decide (sg < 0)) A6 k6 n6 W (HN6.out.ext hx) HB6b.out)
  have HB1:=zH (HBl.out.2.1.ext HX0c.out)
  have HB2:=zH (HBl.out.2.2.ext HX0c.out)
  have HB0:=zH (HBl.out.1.ext HX0c.out)
  have HND:=zH (HN0.out.ext HX0c.out)
  have HXw:=zH (HX.out.trans HX0c.out)
  have HA5:=zH (HN5.out.ext HXbc.out)
  have HQ5c:=zH (HQ5.out.ext HXbc.out)
  have hsz:=HXw.out.size
  have hl0:=HB1.out.lt
  have hl1:=HB2.out.lt
  have hl2:=HB0.out.lt
  have hw5:w.heap.size+3≤b5:=by omega
  go_upto_region 4 with (fail)
  go_cut [] (fun wx=>Hid (LowSt w wx (lowNum num den) den)∧Hid (Blk wx b5 47 #[.slice A5 k5 k5]∧IsNat wx A5 k5 g))
  case first =>
   have HKeep:=zH (fun (w':World) (hx:Ext Wc w')=>(show w'.cell? ⟨w.heap.size,0,none⟩=some (.bool na)∧w'.cell? ⟨w.heap.size,1,none⟩=some (.slice A k k)∧w'.cell? ⟨b6,0,none⟩=some (.slice A6 k6 k6) from ⟨hx.cell c0a,hx.cell c0b,hx.cell c6⟩))
   go_region_with (first
     | (go_at_call 86;refine (HSg.out _ Ext.uc).mono ?_;rintro e w1 ⟨rfl,hx⟩;(first|(have k1:=True.intro));have hxA:Ext Wc w1:=Ext.trans Ext.uc hx;have q6:=hxA.cell c6;have hs1:=hxA.size;have hz1:=hx.size;(try simp only [World.size_alloc,World.size_drew,World.size_setCell] at hz1);  clear hx)
     | (go_at_call 114;refine (HMk.out _ Ext.uc).mono ?_;rintro e w2 ⟨rfl,hx⟩;(first|(have k2:=True.intro));have hxN:Ext Wc w2:=Ext.trans Ext.uc hx;clear hxA;have hxA:=hxN;clear hxN;have HI6:Hid (IsInt w2 (decide (sg < 0) && !decide (n6=0)) A6 k6 (lowNum num den)):=⟨by rw [HL6.out.1];exact HN6.out.ext hxA,by rw [HSn.out];have h:=HL6.out.2;simp only [ne_eq,decide_not] at h;exact h,by rw [HL6.out.1];exact HB6b.out⟩;have q1:=hxA.cell c0a;have q2:=hxA.cell c0b;have q3:=hxA.free f0a (zAA c0a);have q4:=hxA.free f0b (zAA c0b);have hs2:=hxA.size;have hz2:=hx.size;  clear hx))
   all_goals
    go_wp2
    go_meet
    first
    | exact ⟨⟨IntB.put (HB1.out.ext hxA) HI6.out,((⟨HBd.out,B,m,HB2.out.ext hxA,HND.out.ext hxA⟩:NatB w2 (w.heap.size+1) den).far (HB1.out.ext hxA) (by decide) om 0 _).far ((HB1.out.ext hxA).set 0 _) (by decide) om 1 _,((HB0.out.ext hxA).far om 0 _).far om 1 _,((HXw.out.trans hxA).setCell (p:=⟨_,0,none⟩) (Nat.le_refl _) _).setCell (p:=⟨_,1,none⟩) (Nat.le_refl _) _⟩,⟨((HQ5c.out.ext hxA).far om 0 _).far om 1 _,((HA5.out.ext hxA).setB (HB1.out.ext hxA).typ (by decide) 0 _).setB ((HB1.out.ext hxA).set 0 _).typ (by decide) 1 _⟩⟩
  obtain ⟨HS,HQ6⟩:=hcut
  obtain ⟨We,hWe⟩:∃ We,wc=We:=⟨_,rfl⟩
  rw [hWe] at HS HQ6 ⊢
  clear hWe wc
  clear HI0 HN0 HBl HAbs HCmp HLN HN5 HQ5 HX HSg HMk HSn HL6 HN6 HB1 HB2 HB0 HND HXw HA5 HQ5c
  obtain ⟨Ad,kd,qd,hnd⟩:=HS.out.den.box
  obtain ⟨cd,fd⟩:=qd.one
  obtain ⟨cg,fg⟩:=HQ6.out.1.one
  have hld:=qd.lt
  have HDv:=zH (fun W (hx:Ext We W)=>zCh Ad A5 kd k5 den g W (hnd.ext hx) (HQ6.out.2.ext hx) (by have:=zAK hnd HBd.out;omega) (by have:=zAK HQ6.out.2 HG.out.2.2;omega) HG.out.2.1)
  have HQd:=zH qd
  have HB7:=zH (Nat.le_trans (zAG (Nat.div_le_self den g)) HBd.out)
  clear hnd qd
  go_wp2_with (go_at_call 149;refine (HDv.out _ (by first|exact Ext.refl _)).mono ?_;rintro e w1 ⟨A7,k7,A8,k8,rfl,hn7,hn8,hx⟩;have d1:=hx.cell cd;have d2:=hx.free fd (zAA cd);have HN7:=zH hn7;clear hn7 hn8)
  obtain ⟨Wd,hWd⟩:∃ Wd,w1.setCell ⟨w.heap.size+1,0,none⟩ (.slice A7 k7 k7)=Wd:=⟨_,rfl⟩
  rw [hWd]
  have HS2:Hid (LowSt w Wd (lowNum num den) (den / g)):=by
   rw [← hWd]
   exact ⟨(HS.out.num.ext hx).far (HQd.out.ext hx) (by decide) om _ _,NatB.put (HQd.out.ext hx) HN7.out HB7.out,(HS.out.res.ext hx).far om _ _,(HS.out.ext.trans hx).setCell (p:=⟨_,0,none⟩) (Nat.le_succ _) _⟩
  clear HS hWd hx d1 d2 HN7 HQ6 HDv HQd HB7 cd fd cg fg hld
  have HS:=HS2
  clear HS2
  have HDen:=HDg
  obtain ⟨Ad,kd,qd,hnd⟩:=HS.out.den.box
  obtain ⟨cd,fd⟩:=qd.one
  have hld:=qd.lt
  have HSub:=zH (fun W (hx:Ext Wd W) A1 k1 (h1:IsNat W A1 k1 1)=>zCi Ad A1 kd k1 (den / g) 1 W (hnd.ext hx) h1 (by have:=zAK hnd HS.out.den.bits;omega) (by have:=zAK h1 (by decide);omega) (Nat.one_le_iff_ne_zero.2 HDen.out))
  have HBt:=zH (Nat.le_trans (zAG (Nat.sub_le (den / g) 1)) HS.out.den.bits)
  have HBu:=zH (Nat.le_trans (zAG (show (den / g) - 1+1≤(den / g) from Nat.le_of_eq (Nat.sub_add_cancel (Nat.one_le_iff_ne_zero.2 HDen.out)))) HS.out.den.bits)
  clear hnd qd
  go_upto_region 6 with (fail)
  go_cut [9] (fun s9 wx=>∃ b9,s9 = .pointer (some ⟨b9,0,none⟩)∧Wd.heap.size≤b9∧Hid (NatB wx b9 ((den / g) - 1))∧Hid (Ext Wd wx))
  case first =>
   have HKeep:=zH (fun (w':World) (hx:Ext Wd w')=>(show w'.cell? ⟨w.heap.size+1,0,none⟩=some (.slice Ad kd kd) from hx.cell cd))
   go_region_held3 (fun w'=>w'.cell? ⟨w.heap.size+1,0,none⟩=some (.slice Ad kd kd)) (exact HKeep.out _ Ext.uc)
    (first
     | (go_at_call 150;refine (zCb _).mono ?_;rintro e w1 ⟨A1,k1,rfl,hn1,hx⟩;(first|(have k1:=blk1 hx)|(have k1:=True.intro));have hxA:Ext Wd w1:=Ext.trans Ext.uc hx;have HN1:=zH hn1;clear hn1;have hs1:=hxA.size;have hz1:=hx.size;(try simp only [World.size_alloc,World.size_drew,World.size_setCell] at hz1);  clear hx)
     | (go_at_call 116;refine (HSub.out _ Ext.uc _ _ (HN1.out.ext (by first|exact Ext.refl _|exact (Ext.refl _).alloc _))).mono ?_;rintro e w2 ⟨A2,k2,rfl,hn2,hk2,hx⟩;(first|(have k2:=blk1n hx)|(have k2:=True.intro));(first|(have kk:=carry1 k1 (Ext.trans Ext.ud hx);clear k1;have k1:=kk;clear kk)|skip);have hxN:Ext Wd w2:=Ext.trans Ext.uc hx;clear hxA;have hxA:=hxN;clear hxN;have HN2:=zH hn2;clear hn2 hk2;have hs2:=hxA.size;have hz2:=hx.size;(try simp only [World.size_alloc,World.size_drew,World.size_setCell] at hz2);(first|(have zl1:=Blk.lt k1)|skip);(first|(have zz:=Blk.one k1;obtain ⟨zc1,zf1⟩:=zz)|skip);(first|(have zl2:=Blk.lt k2)|skip);(first|(have zz:=Blk.one k2;obtain ⟨zc2,zf2⟩:=zz)|skip);  clear hx))
   all_goals
    go_wp2
    go_meet
    first
    | exact ⟨w2.heap.size,rfl,hs2,NatB.new HN2.out HBt.out,hxA.alloc _⟩
    | exact ⟨Wd.heap.size,rfl,Nat.le_refl _,NatB.put k1 HN2.out HBt.out,hxA.setCell (p:=⟨_,0,none⟩) (Nat.le_refl _) _⟩
    | exact ⟨w1.heap.size,rfl,hs1,NatB.put k2 HN2.out HBt.out,hxA.setCell (p:=⟨_,0,none⟩) hs1 _⟩
  obtain ⟨b9,rfl,hb9,HB9,HXd⟩:=hcut
  obtain ⟨We,hWe⟩:∃ We,wc=We:=⟨_,rfl⟩
  rw [hWe] at HB9 HXd ⊢
  clear hWe wc
  obtain ⟨A9,k9,q9,hn9⟩:=HB9.out.box
  obtain ⟨c9,f9⟩:=q9.one
  have hl9:=q9.lt
  obtain ⟨nn,An,kn,qn,hin⟩:=(HS.out.num.ext HXd.out).box
  obtain ⟨cn,fn,dn,gn⟩:=qn.two
  have HRB:=zH (HS.out.res.ext HXd.out)
  obtain ⟨r0,rf0,r1,rf1,r2,rf2⟩:=HRB.out.three
  have HIn:=zH hin
  have HN9:=zH hn9
  have HXe:=zH (HS.out.ext.trans HXd.out)
  clear hin hn9 qn q9 HB9 HXd HS
  go_wp2
  exact bodyPost_ret (v:=.agg #[.bool nn,.slice An kn kn,.slice A9 k9 k9]) (by simp [results,Tryz.results191,go_sem,r0,r1,r2]) rfl ⟨nn,An,kn,A9,k9,rfl,by rw [HDef.out.1];exact ⟨((HIn.out.setB HRB.out.typ (by decide) 0 _).setB (HRB.out.set 0 _).typ (by decide) 1 _).setB ((HRB.out.set 0 _).set 1 _).typ (by decide) 2 _,((HN9.out.setB HRB.out.typ (by decide) 0 _).setB (HRB.out.set 0 _).typ (by decide) 1 _).setB ((HRB.out.set 0 _).set 1 _).typ (by decide) 2 _,HBu.out⟩,(by repeat (first|exact HXe.out|refine Ext.setCell ?_ (by first|(simp only [];omega)) _))⟩
 ·rename_i hs
  have hg1:g=1:=by
   have h1:=HQ.out
   have h2:=HG.out.2.1
   unfold cmpN at h1
   by_cases h3:g < 1
   ·omega
   ·rw [if_neg h3] at h1
    by_cases h4:g=1
    ·exact h4
    ·rw [if_neg h4] at h1;omega
  have HR:=zH (show lowNum num den=num∧lowLess num den=den - 1 from ⟨HDef.out.2 hg1,by rw [HDef.out.1,hg1,Nat.div_one]⟩)
  have HDen:=HD
  have HS:Hid (LowSt w Wb num den):=⟨⟨na,A,k,HBl.out.2.1.ext HX0b.out,HI0.out.ext HX0b.out⟩,⟨HBd.out,B,m,HBl.out.2.2.ext HX0b.out,HN0.out.ext HX0b.out⟩,HBl.out.1.ext HX0b.out,HX.out.trans HX0b.out⟩
  clear HI0 HN0 HBd HBl HAbs HCmp HLN HDef HN5 HQ5 HX
  obtain ⟨Ad,kd,qd,hnd⟩:=HS.out.den.box
  obtain ⟨cd,fd⟩:=qd.one
  have hld:=qd.lt
  have HSub:=zH (fun W (hx:Ext Wb W) A1 k1 (h1:IsNat W A1 k1 1)=>zCi Ad A1 kd k1 (den) 1 W (hnd.ext hx) h1 (by have:=zAK hnd HS.out.den.bits;omega) (by have:=zAK h1 (by decide);omega) (Nat.one_le_iff_ne_zero.2 HDen.out))
  have HBt:=zH (Nat.le_trans (zAG (Nat.sub_le (den) 1)) HS.out.den.bits)
  have HBu:=zH (Nat.le_trans (zAG (show (den) - 1+1≤(den) from Nat.le_of_eq (Nat.sub_add_cancel (Nat.one_le_iff_ne_zero.2 HDen.out)))) HS.out.den.bits)
  clear hnd qd
  go_upto_region 6 with (fail)
  go_cut [9] (fun s9 wx=>∃ b9,s9 = .pointer (some ⟨b9,0,none⟩)∧Wb.heap.size≤b9∧Hid (NatB wx b9 ((den) - 1))∧Hid (Ext Wb wx))
  case first =>
   have HKeep:=zH (fun (w':World) (hx:Ext Wb w')=>(show w'.cell? ⟨w.heap.size+1,0,none⟩=some (.slice Ad kd kd) from hx.cell cd))
   go_region_held3 (fun w'=>w'.cell? ⟨w.heap.size+1,0,none⟩=some (.slice Ad kd kd)) (exact HKeep.out _ Ext.uc)
    (first
     | (go_at_call 150;refine (zCb _).mono ?_;rintro e w1 ⟨A1,k1,rfl,hn1,hx⟩;(first|(have k1:=blk1 hx)|(have k1:=True.intro));have hxA:Ext Wb w1:=Ext.trans Ext.uc hx;have HN1:=zH hn1;clear hn1;have hs1:=hxA.size;have hz1:=hx.size;(try simp only [World.size_alloc,World.size_drew,World.size_setCell] at hz1);  clear hx)
     | (go_at_call 116;refine (HSub.out _ Ext.uc _ _ (HN1.out.ext (by first|exact Ext.refl _|exact (Ext.refl _).alloc _))).mono ?_;rintro e w2 ⟨A2,k2,rfl,hn2,hk2,hx⟩;(first|(have k2:=blk1n hx)|(have k2:=True.intro));(first|(have kk:=carry1 k1 (Ext.trans Ext.ud hx);clear k1;have k1:=kk;clear kk)|skip);have hxN:Ext Wb w2:=Ext.trans Ext.uc hx;clear hxA;have hxA:=hxN;clear hxN;have HN2:=zH hn2;clear hn2 hk2;have hs2:=hxA.size;have hz2:=hx.size;(try simp only [World.size_alloc,World.size_drew,World.size_setCell] at hz2);(first|(have zl1:=Blk.lt k1)|skip);(first|(have zz:=Blk.one k1;obtain ⟨zc1,zf1⟩:=zz)|skip);(first|(have zl2:=Blk.lt k2)|skip);(first|(have zz:=Blk.one k2;obtain ⟨zc2,zf2⟩:=zz)|skip);  clear hx))
   all_goals
    go_wp2
    go_meet
    first
    | exact ⟨w2.heap.size,rfl,hs2,NatB.new HN2.out HBt.out,hxA.alloc _⟩
    | exact ⟨Wb.heap.size,rfl,Nat.le_refl _,NatB.put k1 HN2.out HBt.out,hxA.setCell (p:=⟨_,0,none⟩) (Nat.le_refl _) _⟩
    | exact ⟨w1.heap.size,rfl,hs1,NatB.put k2 HN2.out HBt.out,hxA.setCell (p:=⟨_,0,none⟩) hs1 _⟩
  obtain ⟨b9,rfl,hb9,HB9,HXd⟩:=hcut
  obtain ⟨We,hWe⟩:∃ We,wc=We:=⟨_,rfl⟩
  rw [hWe] at HB9 HXd ⊢
  clear hWe wc
  obtain ⟨A9,k9,q9,hn9⟩:=HB9.out.box
  obtain ⟨c9,f9⟩:=q9.one
  have hl9:=q9.lt
  obtain ⟨nn,An,kn,qn,hin⟩:=(HS.out.num.ext HXd.out).box
  obtain ⟨cn,fn,dn,gn⟩:=qn.two
  have HRB:=zH (HS.out.res.ext HXd.out)
  obtain ⟨r0,rf0,r1,rf1,r2,rf2⟩:=HRB.out.three
  have HIn:=zH hin
  have HN9:=zH hn9
  have HXe:=zH (HS.out.ext.trans HXd.out)
  clear hin hn9 qn q9 HB9 HXd HS
  go_wp2
  exact bodyPost_ret (v:=.agg #[.bool nn,.slice An kn kn,.slice A9 k9 k9]) (by simp [results,Tryz.results191,go_sem,r0,r1,r2]) rfl ⟨nn,An,kn,A9,k9,rfl,by rw [HR.out.1,HR.out.2];exact ⟨((HIn.out.setB HRB.out.typ (by decide) 0 _).setB (HRB.out.set 0 _).typ (by decide) 1 _).setB ((HRB.out.set 0 _).set 1 _).typ (by decide) 2 _,((HN9.out.setB HRB.out.typ (by decide) 0 _).setB (HRB.out.set 0 _).typ (by decide) 1 _).setB ((HRB.out.set 0 _).set 1 _).typ (by decide) 2 _,HBu.out⟩,(by repeat (first|exact HXe.out|refine Ext.setCell ?_ (by first|(simp only [];omega)) _))⟩
def fitsR (p:Int) (q:Nat):Prop:=bitsN p.natAbs≤4096∧bitsN q≤4096
instance (p:Int) (q:Nat):Decidable (fitsR p q):=inferInstanceAs (Decidable (_∧_))
def codeR (p:Int) (q:Nat):Int:=if fitsR p q then 0 else 3
def numR (p:Int) (q:Nat):Int:=if fitsR p q then lowNum p q else 0
def lessR (p:Int) (q:Nat):Nat:=if fitsR p q then lowLess p q else 0
theorem zAZ (w:World):IsRat w false none 0 none 0 0 0:=⟨⟨by simpa using zA3 w,by decide,by decide⟩,zA3 w,by decide⟩
theorem IsRat.setRes {w:World} {neg:Bool} {A B:Option Addr} {k m:Nat} {num:Int} {less:Nat} (h:IsRat w neg A k B m num less) {b:Nat} {u0:Bool} {a1 a2:Option Addr} {m1 c1 m2 c2:Nat} (t1:w.cell? ⟨b,0,none⟩=some (.bool u0)) (t2:w.cell? ⟨b,1,none⟩=some (.slice a1 m1 c1)) (t3:w.cell? ⟨b,2,none⟩=some (.slice a2 m2 c2)) (u v x:Value) :
  IsRat (((w.setCell ⟨b,0,none⟩ u).setCell ⟨b,1,none⟩ v).setCell ⟨b,2,none⟩ x) neg A k B m num less:=by
 have y1:(w.setCell ⟨b,0,none⟩ u).cell? ⟨b,1,none⟩=some (.slice a1 m1 c1):=by rw [World.cell?_setCell_other _ _ _ _ (by simp)];exact t2
 have y2:((w.setCell ⟨b,0,none⟩ u).setCell ⟨b,1,none⟩ v).cell? ⟨b,2,none⟩=some (.slice a2 m2 c2):=by rw [World.cell?_setCell_other _ _ _ _ (by simp),World.cell?_setCell_other _ _ _ _ (by simp)];exact t3
 exact ⟨((h.num.setBool t1 u).setBox y1 v).setBox y2 x,((h.den.setBool t1 u).setBox y1 v).setBox y2 x,h.bits⟩
theorem fitN_of {n:Nat} (h:bitsN n≤4096):fitN n=n:=if_pos h
theorem zCr {n:Nat} (h:bitsN n≤4096):codeN n=0:=if_pos h
theorem zCq {n:Nat} (h:¬ bitsN n≤4096):codeN n=3:=if_neg h
theorem zCB {z:Int} (h:bitsN z.natAbs≤4096):fitZ z=z:=if_pos h
theorem zBe {z:Int} (h:bitsN z.natAbs≤4096):codeZ z=0:=if_pos h
theorem zBd {z:Int} (h:¬ bitsN z.natAbs≤4096):codeZ z=3:=if_neg h
set_option maxHeartbeats 4000000 in
theorem zDM (na nb:Bool) (A B C E:Option Addr) (k m j l:Nat) (num z:Int) (less d:Nat) (w:World) (h:IsRat w na A k B m num less) (hz:IsInt w nb C j z) (hd:IsNat w E l d) (hD:bitsN d≤4096) (hd0:d≠0) :
  Calls Tryz.prog 145 #[.agg #[.bool na,.slice A k k,.slice B m m],.agg #[.bool nb,.slice C j j],.agg #[.slice E l l]] w fun e w'=>∃ n A' k' B' m',e = .returned (.tuple #[.agg #[.bool n,.slice A' k' k',.slice B' m' m'],.int .i64 (codeR (num*z) ((less+1)*d))])∧IsRat w' n A' k' B' m' (numR (num*z) ((less+1)*d)) (lessR (num*z) ((less+1)*d))∧Ext w w':=by
 obtain ⟨W0,hWW0⟩:∃ W0:World,(((w.alloc (.cells #[.bool na,.slice A k k,.slice B m m] 144)).alloc (.cells #[.bool nb,.slice C j j] 49)).alloc (.cells #[.slice E l l] 47)).alloc (.cells #[.bool false,.slice none 0 0,.slice none 0 0] 144)=W0:=⟨_,rfl⟩
 have hXW0:Ext w W0:=by rw [← hWW0];exact (((((Ext.refl w).alloc _).alloc _).alloc _).alloc _)
 have hsW0:w.heap.size+4≤W0.heap.size:=by rw [← hWW0];simp only [World.size_alloc];omega
 have c0a:W0.cell? ⟨w.heap.size,0,none⟩=some (.bool na):=wz
 have f0a:W0.frozen? ⟨w.heap.size,0,none⟩=false:=wz
 have c0b:W0.cell? ⟨w.heap.size,1,none⟩=some (.slice A k k):=wz
 have f0b:W0.frozen? ⟨w.heap.size,1,none⟩=false:=wz
 have c0c:W0.cell? ⟨w.heap.size,2,none⟩=some (.slice B m m):=wz
 have f0c:W0.frozen? ⟨w.heap.size,2,none⟩=false:=wz
 have c1a:W0.cell? ⟨w.heap.size+1,0,none⟩=some (.bool nb):=wz
 have f1a:W0.frozen? ⟨w.heap.size+1,0,none⟩=false:=wz
 have c1b:W0.cell? ⟨w.heap.size+1,1,none⟩=some (.slice C j j):=wz
 have f1b:W0.frozen? ⟨w.heap.size+1,1,none⟩=false:=wz
 have c2:W0.cell? ⟨w.heap.size+1+1,0,none⟩=some (.slice E l l):=wz
 have f2:W0.frozen? ⟨w.heap.size+1+1,0,none⟩=false:=wz
 have c3a:W0.cell? ⟨w.heap.size+1+1+1,0,none⟩=some (.bool false):=wz
 have f3a:W0.frozen? ⟨w.heap.size+1+1+1,0,none⟩=false:=wz
 have c3b:W0.cell? ⟨w.heap.size+1+1+1,1,none⟩=some (.slice none 0 0):=wz
 have f3b:W0.frozen? ⟨w.heap.size+1+1+1,1,none⟩=false:=wz
 have c3c:W0.cell? ⟨w.heap.size+1+1+1,2,none⟩=some (.slice none 0 0):=wz
 have f3c:W0.frozen? ⟨w.heap.size+1+1+1,2,none⟩=false:=wz
 have HWW0:=zH hWW0
 clear hWW0
 have HX:=zH hXW0
 have HR0:=zH (h.ext hXW0)
 have HE0:=zH (hd.ext hXW0)
 have HDb:=zH hD
 have HMul:=zH (fun W (hx:Ext W0 W)=>zCW na nb A C k j num z W ((h.num.ext hXW0).ext hx) ((hz.ext hXW0).ext hx))
 obtain ⟨p,hp⟩:∃ p,num*z=p:=⟨_,rfl⟩
 obtain ⟨q,hq⟩:∃ q,(less+1)*d=q:=⟨_,rfl⟩
 rw [hp] at HMul
 rw [hp,hq]
 have HQ0:Hid ((less+1)*d=q∧q≠0):=⟨hq,by rw [← hq];exact Nat.mul_ne_zero (Nat.succ_ne_zero _) hd0⟩
 clear h hz hd hD hd0 hXW0 hp hq
 go_enter Tryz.func145,Tryz.ntmps145
 go_wp2_with fail
 rw [HWW0.out]
 clear HWW0
 go_wp2_with (go_at_call 66;refine (HMul.out _ (by first|exact Ext.refl _)).mono ?_;rintro e w1 ⟨n1,A1,k1,rfl,hn1,hx1⟩;have HN1:=zH hn1;clear hn1)
 obtain ⟨Wa,hWa⟩:∃ Wa,w1.alloc (.cells #[.bool n1,.slice A1 k1 k1] 49)=Wa:=⟨_,rfl⟩
 have HXa:Hid (Ext W0 Wa):=by rw [← hWa];exact hx1.alloc _
 have hB8:Blk Wa w1.heap.size 49 #[.bool n1,.slice A1 k1 k1]:=by rw [← hWa];exact Blk.new _ _ _
 have HI8:Hid (IsInt Wa n1 A1 k1 (fitZ p)):=by rw [← hWa];exact HN1.out.ext ((Ext.refl _).alloc _)
 rw [hWa]
 obtain ⟨b8,hb8⟩:∃ b8,w1.heap.size=b8:=⟨_,rfl⟩
 have hs8:=hx1.size
 rw [hb8] at hB8 hs8
 rw [hb8]
 clear hWa hb8 HN1 hx1 HMul
 replace f0a:=HXa.out.free f0a (zAA c0a)
 replace c0a:=HXa.out.cell c0a
 replace f0b:=HXa.out.free f0b (zAA c0b)
 replace c0b:=HXa.out.cell c0b
 replace f0c:=HXa.out.free f0c (zAA c0c)
 replace c0c:=HXa.out.cell c0c
 replace f1a:=HXa.out.free f1a (zAA c1a)
 replace c1a:=HXa.out.cell c1a
 replace f1b:=HXa.out.free f1b (zAA c1b)
 replace c1b:=HXa.out.cell c1b
 replace f2:=HXa.out.free f2 (zAA c2)
 replace c2:=HXa.out.cell c2
 replace f3a:=HXa.out.free f3a (zAA c3a)
 replace c3a:=HXa.out.cell c3a
 replace f3b:=HXa.out.free f3b (zAA c3b)
 replace c3b:=HXa.out.cell c3b
 replace f3c:=HXa.out.free f3c (zAA c3c)
 replace c3c:=HXa.out.cell c3c
 obtain ⟨d8,g8,e8,h8⟩:=hB8.two
 have hl8:=hB8.lt
 clear hB8
 have HDen:=zH (fun W (hx:Ext Wa W)=>zA0 na A B k m num less W ((HR0.out.ext HXa.out).ext hx))
 have HMulN:=zH (fun W (hx:Ext Wa W) A2 k2 (h2:IsNat W A2 k2 (less+1))=>Mul_any A2 E k2 l (less+1) d W h2 ((HE0.out.ext HXa.out).ext hx) HR0.out.bits HDb.out)
 rw [HQ0.out.1] at HMulN
 go_upto_region 2 with (fail)
 go_cut [10,11] (fun s10 s11 wx=>∃ b10,s10 = .pointer (some ⟨b10,0,none⟩)∧s11 = .int .i64 (codeN q)∧Wa.heap.size≤b10∧Hid (NatB wx b10 (fitN q))∧Hid (Ext Wa wx))
 case first =>
  have HKeep:=zH (fun (w':World) (hx:Ext Wa w')=>(show w'.cell? ⟨w.heap.size,0,none⟩=some (.bool na)∧w'.cell? ⟨w.heap.size,1,none⟩=some (.slice A k k)∧w'.cell? ⟨w.heap.size,2,none⟩=some (.slice B m m)∧w'.cell? ⟨w.heap.size+1+1,0,none⟩=some (.slice E l l) from ⟨hx.cell c0a,hx.cell c0b,hx.cell c0c,hx.cell c2⟩))
  go_region_held3 (fun w'=>w'.cell? ⟨w.heap.size,0,none⟩=some (.bool na)∧w'.cell? ⟨w.heap.size,1,none⟩=some (.slice A k k)∧w'.cell? ⟨w.heap.size,2,none⟩=some (.slice B m m)∧w'.cell? ⟨w.heap.size+1+1,0,none⟩=some (.slice E l l)) (exact HKeep.out _ Ext.uc)
   (first
    | (go_at_call 146;refine (HDen.out _ Ext.uc).mono ?_;rintro e w1 ⟨A1,k1,rfl,hn1,hx⟩;(first|(have k1:=blk1 hx)|(have k1:=True.intro));have hxA:Ext Wa w1:=Ext.trans Ext.uc hx;have HN1:=zH hn1;clear hn1;have hs1:=hxA.size;have hz1:=hx.size;(try simp only [World.size_alloc,World.size_drew,World.size_setCell] at hz1);  clear hx)
    | (go_at_call 113;refine (HMulN.out _ Ext.uc _ _ (HN1.out.ext (by first|exact Ext.refl _|exact (Ext.refl _).alloc _))).mono ?_;rintro e w2 ⟨A2,k2,rfl,hn2,hx⟩;(first|(have k2:=blk1n hx)|(have k2:=True.intro));(first|(have kk:=carry1 k1 (Ext.trans Ext.ud hx);clear k1;have k1:=kk;clear kk)|skip);have hxN:Ext Wa w2:=Ext.trans Ext.uc hx;clear hxA;have hxA:=hxN;clear hxN;have HN2:=zH hn2;clear hn2;have hs2:=hxA.size;have hz2:=hx.size;(try simp only [World.size_alloc,World.size_drew,World.size_setCell] at hz2);(first|(have zl1:=Blk.lt k1)|skip);(first|(have zz:=Blk.one k1;obtain ⟨zc1,zf1⟩:=zz)|skip);(first|(have zl2:=Blk.lt k2)|skip);(first|(have zz:=Blk.one k2;obtain ⟨zc2,zf2⟩:=zz)|skip);  clear hx))
  all_goals
   go_wp2
   go_meet
   first
   | exact ⟨w2.heap.size,rfl,rfl,hs2,NatB.new HN2.out (zAg q),hxA.alloc _⟩
   | exact ⟨Wa.heap.size,rfl,rfl,Nat.le_refl _,NatB.put k1 HN2.out (zAg q),hxA.setCell (p:=⟨_,0,none⟩) (Nat.le_refl _) _⟩
   | exact ⟨w1.heap.size,rfl,rfl,hs1,NatB.put k2 HN2.out (zAg q),hxA.setCell (p:=⟨_,0,none⟩) hs1 _⟩
 obtain ⟨b10,rfl,rfl,hb10,HB10,HXc⟩:=hcut
 obtain ⟨Wb,hWb⟩:∃ Wb,wc=Wb:=⟨_,rfl⟩
 rw [hWb] at HB10 HXc ⊢
 clear hWb wc HDen HMulN
 replace g8:=HXc.out.free g8 (zAA d8)
 replace d8:=HXc.out.cell d8
 replace h8:=HXc.out.free h8 (zAA e8)
 replace e8:=HXc.out.cell e8
 replace f3a:=HXc.out.free f3a (zAA c3a)
 replace c3a:=HXc.out.cell c3a
 replace f3b:=HXc.out.free f3b (zAA c3b)
 replace c3b:=HXc.out.cell c3b
 replace f3c:=HXc.out.free f3c (zAA c3c)
 replace c3c:=HXc.out.cell c3c
 obtain ⟨A10,k10,q10,hn10⟩:=HB10.out.box
 obtain ⟨d10,g10⟩:=q10.one
 have hl10:=q10.lt
 have HN10:=zH hn10
 have HXw:=zH (HX.out.trans (HXa.out.trans HXc.out))
 have HI9:=zH (HI8.out.ext HXc.out)
 clear HB10 hn10 q10
 by_cases hp:bitsN p.natAbs≤4096
 ·rw [zCB hp] at HI9
  rw [zBe hp]
  by_cases hq:bitsN q≤4096
  ·rw [fitN_of hq] at HN10
   rw [zCr hq]
   have HC:Hid (codeR p q=0∧numR p q=lowNum p q∧lessR p q=lowLess p q):=⟨if_pos ⟨hp,hq⟩,if_pos ⟨hp,hq⟩,if_pos ⟨hp,hq⟩⟩
   have HLow:=zH (fun W (hx:Ext Wb W)=>low_any n1 A1 A10 k1 k10 p q W (HI9.out.ext hx) (HN10.out.ext hx) hq HQ0.out.2)
   clear hp hq HI8 HR0 HE0
   go_wp2_with (go_at_call 191;refine (HLow.out _ (by first|exact Ext.refl _)).mono ?_;rintro e w3 ⟨n3,A3,k3,B3,m3,rfl,hr3,hx3⟩;have HR3:=zH hr3;clear hr3;have t1:=hx3.cell c3a;have t2:=hx3.cell c3b;have t3:=hx3.cell c3c;have t4:=hx3.free f3a (zAA c3a);have t5:=hx3.free f3b (zAA c3b);have t6:=hx3.free f3c (zAA c3c))
   have HXe:=zH (HXw.out.trans hx3)
   exact bodyPost_ret (v:=.tuple #[.agg #[.bool n3,.slice A3 k3 k3,.slice B3 m3 m3],.int .i64 0]) (by simp [results,Tryz.results145,go_sem,t1,t2,t3]) rfl ⟨n3,A3,k3,B3,m3,by rw [HC.out.1],by rw [HC.out.2.1,HC.out.2.2];exact HR3.out.setRes t1 t2 t3 _ _ _,(by repeat (first|exact HXe.out|refine Ext.setCell ?_ (by first|(simp only [];omega)) _))⟩
  ·rw [zCq hq]
   have HC:Hid (codeR p q=3∧numR p q=0∧lessR p q=0):=by
    have hno:¬ fitsR p q:=fun hh=>hq hh.2
    exact ⟨if_neg hno,if_neg hno,if_neg hno⟩
   clear HR0 HE0 HI8 HN10 HQ0
   go_wp2
   exact bodyPost_ret (v:=.tuple #[.agg #[.bool false,.slice none 0 0,.slice none 0 0],.int .i64 3]) (by simp [results,Tryz.results145,go_sem,c3a,c3b,c3c]) rfl ⟨false,none,0,none,0,by rw [HC.out.1],by rw [HC.out.2.1,HC.out.2.2];exact zAZ _,(by repeat (first|exact HXw.out|refine Ext.setCell ?_ (by first|(simp only [];omega)) _))⟩
 ·rw [zBd hp]
  by_cases hq:bitsN q≤4096
  ·rw [zCr hq]
   have HC:Hid (codeR p q=3∧numR p q=0∧lessR p q=0):=by
    have hno:¬ fitsR p q:=fun hh=>hp hh.1
    exact ⟨if_neg hno,if_neg hno,if_neg hno⟩
   clear HR0 HE0 HI8 HN10 HQ0
   go_wp2
   exact bodyPost_ret (v:=.tuple #[.agg #[.bool false,.slice none 0 0,.slice none 0 0],.int .i64 3]) (by simp [results,Tryz.results145,go_sem,c3a,c3b,c3c]) rfl ⟨false,none,0,none,0,by rw [HC.out.1],by rw [HC.out.2.1,HC.out.2.2];exact zAZ _,(by repeat (first|exact HXw.out|refine Ext.setCell ?_ (by first|(simp only [];omega)) _))⟩
  ·rw [zCq hq]
   have HC:Hid (codeR p q=3∧numR p q=0∧lessR p q=0):=by
    have hno:¬ fitsR p q:=fun hh=>hp hh.1
    exact ⟨if_neg hno,if_neg hno,if_neg hno⟩
   clear HR0 HE0 HI8 HN10 HQ0
   go_wp2
   exact bodyPost_ret (v:=.tuple #[.agg #[.bool false,.slice none 0 0,.slice none 0 0],.int .i64 3]) (by simp [results,Tryz.results145,go_sem,c3a,c3b,c3c]) rfl ⟨false,none,0,none,0,by rw [HC.out.1],by rw [HC.out.2.1,HC.out.2.2];exact zAZ _,(by repeat (first|exact HXw.out|refine Ext.setCell ?_ (by first|(simp only [];omega)) _))⟩
set_option maxHeartbeats 1000000 in
theorem ratNeg_any (na:Bool) (A B:Option Addr) (k m:Nat) (num:Int) (less:Nat) (w:World) (h:IsRat w na A k B m num less) :
  Calls Tryz.prog 108 #[.agg #[.bool na,.slice A k k,.slice B m m]] w fun e w'=>∃ n A' k' B' m',e = .returned (.agg #[.bool n,.slice A' k' k',.slice B' m' m'])∧IsRat w' n A' k' B' m' (-num) less∧Ext w w':=by
 obtain ⟨W0,HWW0,hXW0,hsW0,c0a,f0a,c0b,f0b,c0c,f0c,c1a,f1a,c1b,f1b,c1c,f1c⟩:=bx33 w 144 144 (.bool na) (.slice A k k) (.slice B m m) (.bool false) (.slice none 0 0) (.slice none 0 0)
 have HX:=zH hXW0
 have HR0:=zH (h.ext hXW0)
 have HNeg:=zH (fun W (hx:Ext W0 W)=>Neg_any na A k num W ((h.num.ext hXW0).ext hx))
 clear h hXW0
 go_enter Tryz.func108,Tryz.ntmps108
 go_wp2
 rw [HWW0.out]
 clear HWW0
 go_upto_region 1 with (fail)
 have HKeep:=zH (fun (w':World) (hx:Ext W0 w')=>(show w'.cell? ⟨w.heap.size,0,none⟩=some (.bool na)∧w'.cell? ⟨w.heap.size,1,none⟩=some (.slice A k k)∧w'.cell? ⟨w.heap.size,2,none⟩=some (.slice B m m) from ⟨hx.cell c0a,hx.cell c0b,hx.cell c0c⟩))
 have HKeepR:=zH (fun (w':World) (hx:Ext W0 w') (u v x:Value)=>(show (((w'.setCell ⟨w.heap.size+1,0,none⟩ u).setCell ⟨w.heap.size+1,1,none⟩ v).setCell ⟨w.heap.size+1,2,none⟩ x).cell? ⟨w.heap.size,0,none⟩=some (.bool na)∧(((w'.setCell ⟨w.heap.size+1,0,none⟩ u).setCell ⟨w.heap.size+1,1,none⟩ v).setCell ⟨w.heap.size+1,2,none⟩ x).cell? ⟨w.heap.size,1,none⟩=some (.slice A k k)∧(((w'.setCell ⟨w.heap.size+1,0,none⟩ u).setCell ⟨w.heap.size+1,1,none⟩ v).setCell ⟨w.heap.size+1,2,none⟩ x).cell? ⟨w.heap.size,2,none⟩=some (.slice B m m) from ⟨by rw [World.cell?_setCell_other _ _ _ _ (by intro e;injection e with e1 e2;omega),World.cell?_setCell_other _ _ _ _ (by intro e;injection e with e1 e2;omega),World.cell?_setCell_other _ _ _ _ (by intro e;injection e with e1 e2;omega)];exact hx.cell c0a,by rw [World.cell?_setCell_other _ _ _ _ (by intro e;injection e with e1 e2;omega),World.cell?_setCell_other _ _ _ _ (by intro e;injection e with e1 e2;omega),World.cell?_setCell_other _ _ _ _ (by intro e;injection e with e1 e2;omega)];exact hx.cell c0b,by rw [World.cell?_setCell_other _ _ _ _ (by intro e;injection e with e1 e2;omega),World.cell?_setCell_other _ _ _ _ (by intro e;injection e with e1 e2;omega),World.cell?_setCell_other _ _ _ _ (by intro e;injection e with e1 e2;omega)];exact hx.cell c0c⟩))
 go_region_held3 (fun w'=>w'.cell? ⟨w.heap.size,0,none⟩=some (.bool na)∧w'.cell? ⟨w.heap.size,1,none⟩=some (.slice A k k)∧w'.cell? ⟨w.heap.size,2,none⟩=some (.slice B m m)) (first|exact HKeepR.out _ hxA _ _ _|exact HKeep.out _ Ext.uc)
  (first
   | (go_at_call 131;refine (HNeg.out _ Ext.uc).mono ?_;rintro e w1 ⟨n1,rfl,hn1,hx⟩;(first|(have k1:=True.intro));have hxA:Ext W0 w1:=Ext.trans Ext.uc hx;have HN1:=zH hn1;clear hn1;have t1:=hxA.cell c1a;have u1:=hxA.free f1a (zAA c1a);have t2:=hxA.cell c1b;have u2:=hxA.free f1b (zAA c1b);have t3:=hxA.cell c1c;have u3:=hxA.free f1c (zAA c1c);have hs1:=hxA.size;have hz1:=hx.size;(try simp only [World.size_alloc,World.size_drew,World.size_setCell] at hz1);  clear hx))
 all_goals
  go_wp2
  first
  | exact bodyPost_ret (v:=.agg #[.bool n1,.slice A k k,.slice B m m]) (by simp [results,Tryz.results108,go_sem,t1,t2,t3]) rfl ⟨n1,A,k,B,m,rfl,IsRat.setRes ⟨HN1.out,HR0.out.den.ext hxA,HR0.out.bits⟩ t1 t2 t3 _ _ _,by have hh:=HX.out.trans hxA;exact (by repeat (first|exact hh|refine Ext.setCell ?_ (by first|(simp only [];omega)) _))⟩
set_option maxHeartbeats 1000000 in
theorem ratMul_any (na nb:Bool) (A B C D:Option Addr) (k m j l:Nat) (num z:Int) (less d:Nat) (w:World) (h:IsRat w na A k B m num less) (hb:IsRat w nb C j D l z d) :
  Calls Tryz.prog 102 #[.agg #[.bool na,.slice A k k,.slice B m m],.agg #[.bool nb,.slice C j j,.slice D l l]] w fun e w'=>∃ n A' k' B' m',e = .returned (.tuple #[.agg #[.bool n,.slice A' k' k',.slice B' m' m'],.int .i64 (codeR (num*z) ((less+1)*(d+1)))])∧IsRat w' n A' k' B' m' (numR (num*z) ((less+1)*(d+1))) (lessR (num*z) ((less+1)*(d+1)))∧Ext w w':=by
 obtain ⟨W0,HWW0,hXW0,hsW0,c0a,f0a,c0b,f0b,c0c,f0c,c1a,f1a,c1b,f1b,c1c,f1c,c2a,f2a,c2b,f2b,c2c,f2c⟩:=bx333 w 144 144 144 (.bool na) (.slice A k k) (.slice B m m) (.bool nb) (.slice C j j) (.slice D l l) (.bool false) (.slice none 0 0) (.slice none 0 0)
 have HX:=zH hXW0
 have HR0:=zH (h.ext hXW0)
 have HR1:=zH (hb.ext hXW0)
 have HDen:=zH (fun W (hx:Ext W0 W)=>zA0 nb C D j l z d W (HR1.out.ext hx))
 have HTimes:=zH (fun W (hx:Ext W0 W) E e (he:IsNat W E e (d+1))=>zDM na nb A B C E k m j e num z less (d+1) W (HR0.out.ext hx) (HR1.out.num.ext hx) he HR1.out.bits (Nat.succ_ne_zero _))
 obtain ⟨cc,hcc⟩:∃ cc,codeR (num*z) ((less+1)*(d+1))=cc:=⟨_,rfl⟩
 obtain ⟨cn,hcn⟩:∃ cn,numR (num*z) ((less+1)*(d+1))=cn:=⟨_,rfl⟩
 obtain ⟨cl,hcl⟩:∃ cl,lessR (num*z) ((less+1)*(d+1))=cl:=⟨_,rfl⟩
 rw [hcc,hcn,hcl] at HTimes
 rw [hcc,hcn,hcl]
 clear h hb hXW0 hcc hcn hcl
 go_enter Tryz.func102,Tryz.ntmps102
 go_wp2
 rw [HWW0.out]
 clear HWW0
 go_upto_region 1 with (fail)
 have HKeep:=zH (fun (w':World) (hx:Ext W0 w')=>(show w'.cell? ⟨w.heap.size,0,none⟩=some (.bool na)∧w'.cell? ⟨w.heap.size,1,none⟩=some (.slice A k k)∧w'.cell? ⟨w.heap.size,2,none⟩=some (.slice B m m)∧w'.cell? ⟨w.heap.size+1,0,none⟩=some (.bool nb)∧w'.cell? ⟨w.heap.size+1,1,none⟩=some (.slice C j j)∧w'.cell? ⟨w.heap.size+1,2,none⟩=some (.slice D l l) from ⟨hx.cell c0a,hx.cell c0b,hx.cell c0c,hx.cell c1a,hx.cell c1b,hx.cell c1c⟩))
 have HKeepR:=zH (fun (w':World) (hx:Ext W0 w') (u v x:Value)=>(show (((w'.setCell ⟨w.heap.size+1+1,0,none⟩ u).setCell ⟨w.heap.size+1+1,1,none⟩ v).setCell ⟨w.heap.size+1+1,2,none⟩ x).cell? ⟨w.heap.size,0,none⟩=some (.bool na)∧(((w'.setCell ⟨w.heap.size+1+1,0,none⟩ u).setCell ⟨w.heap.size+1+1,1,none⟩ v).setCell ⟨w.heap.size+1+1,2,none⟩ x).cell? ⟨w.heap.size,1,none⟩=some (.slice A k k)∧(((w'.setCell ⟨w.heap.size+1+1,0,none⟩ u).setCell ⟨w.heap.size+1+1,1,none⟩ v).setCell ⟨w.heap.size+1+1,2,none⟩ x).cell? ⟨w.heap.size,2,none⟩=some (.slice B m m)∧(((w'.setCell ⟨w.heap.size+1+1,0,none⟩ u).setCell ⟨w.heap.size+1+1,1,none⟩ v).setCell ⟨w.heap.size+1+1,2,none⟩ x).cell? ⟨w.heap.size+1,0,none⟩=some (.bool nb)∧(((w'.setCell ⟨w.heap.size+1+1,0,none⟩ u).setCell ⟨w.heap.size+1+1,1,none⟩ v).setCell ⟨w.heap.size+1+1,2,none⟩ x).cell? ⟨w.heap.size+1,1,none⟩=some (.slice C j j)∧(((w'.setCell ⟨w.heap.size+1+1,0,none⟩ u).setCell ⟨w.heap.size+1+1,1,none⟩ v).setCell ⟨w.heap.size+1+1,2,none⟩ x).cell? ⟨w.heap.size+1,2,none⟩=some (.slice D l l) from ⟨by rw [World.cell?_setCell_other _ _ _ _ (by intro e;injection e with e1 e2;omega),World.cell?_setCell_other _ _ _ _ (by intro e;injection e with e1 e2;omega),World.cell?_setCell_other _ _ _ _ (by intro e;injection e with e1 e2;omega)];exact hx.cell c0a,by rw [World.cell?_setCell_other _ _ _ _ (by intro e;injection e with e1 e2;omega),World.cell?_setCell_other _ _ _ _ (by intro e;injection e with e1 e2;omega),World.cell?_setCell_other _ _ _ _ (by intro e;injection e with e1 e2;omega)];exact hx.cell c0b,by rw [World.cell?_setCell_other _ _ _ _ (by intro e;injection e with e1 e2;omega),World.cell?_setCell_other _ _ _ _ (by intro e;injection e with e1 e2;omega),World.cell?_setCell_other _ _ _ _ (by intro e;injection e with e1 e2;omega)];exact hx.cell c0c,by rw [World.cell?_setCell_other _ _ _ _ (by intro e;injection e with e1 e2;omega),World.cell?_setCell_other _ _ _ _ (by intro e;injection e with e1 e2;omega),World.cell?_setCell_other _ _ _ _ (by intro e;injection e with e1 e2;omega)];exact hx.cell c1a,by rw [World.cell?_setCell_other _ _ _ _ (by intro e;injection e with e1 e2;omega),World.cell?_setCell_other _ _ _ _ (by intro e;injection e with e1 e2;omega),World.cell?_setCell_other _ _ _ _ (by intro e;injection e with e1 e2;omega)];exact hx.cell c1b,by rw [World.cell?_setCell_other _ _ _ _ (by intro e;injection e with e1 e2;omega),World.cell?_setCell_other _ _ _ _ (by intro e;injection e with e1 e2;omega),World.cell?_setCell_other _ _ _ _ (by intro e;injection e with e1 e2;omega)];exact hx.cell c1c⟩))
 go_region_held3 (fun w'=>w'.cell? ⟨w.heap.size,0,none⟩=some (.bool na)∧w'.cell? ⟨w.heap.size,1,none⟩=some (.slice A k k)∧w'.cell? ⟨w.heap.size,2,none⟩=some (.slice B m m)∧w'.cell? ⟨w.heap.size+1,0,none⟩=some (.bool nb)∧w'.cell? ⟨w.heap.size+1,1,none⟩=some (.slice C j j)∧w'.cell? ⟨w.heap.size+1,2,none⟩=some (.slice D l l)) (first|exact HKeepR.out _ hxA _ _ _|exact HKeep.out _ Ext.uc)
  (first
   | (go_at_call 146;refine (HDen.out _ Ext.uc).mono ?_;rintro e w1 ⟨A1,k1,rfl,hn1,hx⟩;(first|(have k1:=True.intro));have hxA:Ext W0 w1:=Ext.trans Ext.uc hx;have HN1:=zH hn1;clear hn1;have hs1:=hxA.size;have hz1:=hx.size;(try simp only [World.size_alloc,World.size_drew,World.size_setCell] at hz1);  clear hx)
   | (go_at_call 145;refine (HTimes.out _ Ext.uc _ _ (HN1.out.ext (by first|exact Ext.refl _))).mono ?_;rintro e w2 ⟨n2,A2,e2,B2,m2,rfl,hn2,hx⟩;(first|(have k2:=True.intro));have hxN:Ext W0 w2:=Ext.trans Ext.uc hx;clear hxA;have hxA:=hxN;clear hxN;have HN2:=zH hn2;clear hn2;have t1:=hxA.cell c2a;have u1:=hxA.free f2a (zAA c2a);have t2:=hxA.cell c2b;have u2:=hxA.free f2b (zAA c2b);have t3:=hxA.cell c2c;have u3:=hxA.free f2c (zAA c2c);have hs2:=hxA.size;have hz2:=hx.size;  clear hx))
 all_goals
  go_wp2
  first
  | exact bodyPost_ret (v:=.tuple #[.agg #[.bool n2,.slice A2 e2 e2,.slice B2 m2 m2],.int .i64 cc]) (by simp [results,Tryz.results102,go_sem,t1,t2,t3]) rfl ⟨n2,A2,e2,B2,m2,rfl,HN2.out.setRes t1 t2 t3 _ _ _,by have hh:=HX.out.trans hxA;exact (by repeat (first|exact hh|refine Ext.setCell ?_ (by first|(simp only [];omega)) _))⟩
set_option maxHeartbeats 400000 in
theorem ratSign_any (na:Bool) (A B:Option Addr) (k m:Nat) (num:Int) (less:Nat) (w:World) (h:IsRat w na A k B m num less) :
  Calls Tryz.prog 189 #[.agg #[.bool na,.slice A k k,.slice B m m]] w fun e w'=>e = .returned (.int .i64 (signZ num))∧Ext w w':=by
 obtain ⟨W0,hWW0⟩:∃ W0:World,w.alloc (.cells #[.bool na,.slice A k k,.slice B m m] 144)=W0:=⟨_,rfl⟩
 have hXW0:Ext w W0:=by rw [← hWW0];exact ((Ext.refl w).alloc _)
 have hsW0:w.heap.size+1≤W0.heap.size:=by rw [← hWW0];simp only [World.size_alloc];omega
 have c0a:W0.cell? ⟨w.heap.size,0,none⟩=some (.bool na):=wz
 have f0a:W0.frozen? ⟨w.heap.size,0,none⟩=false:=wz
 have c0b:W0.cell? ⟨w.heap.size,1,none⟩=some (.slice A k k):=wz
 have f0b:W0.frozen? ⟨w.heap.size,1,none⟩=false:=wz
 have c0c:W0.cell? ⟨w.heap.size,2,none⟩=some (.slice B m m):=wz
 have f0c:W0.frozen? ⟨w.heap.size,2,none⟩=false:=wz
 have HWW0:=zH hWW0
 clear hWW0
 have HX:=zH hXW0
 have HS:=zH (fun W (hx:Ext W0 W)=>zBa na A k num W ((h.num.ext hXW0).ext hx))
 clear h hXW0
 go_enter Tryz.func189,Tryz.ntmps189
 go_wp2_with fail
 rw [HWW0.out]
 go_wp2_with (go_at_call 86;refine (HS.out _ (by first|exact Ext.refl _)).mono ?_;rintro e w1 ⟨rfl,hx⟩)
 exact bodyPost_ret (v:=.int .i64 (signZ num)) (by simp [results,Tryz.results189,go_sem]) rfl ⟨rfl,HX.out.trans hx⟩
end Go.Proofs.YtdkgilioejdmeaaGreat
