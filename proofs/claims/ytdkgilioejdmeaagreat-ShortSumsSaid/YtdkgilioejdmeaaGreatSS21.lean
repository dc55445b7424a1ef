/- YtdkgilioejdmeaaGreatSS21: what is proved here stands in the theorems' own rows. -/
import Derived.Test.YtdkgilioejdmeaaGreatProg
import Derived.WalkKit
import Derived.Deep.Draws
import Derived.Deep.QuietTactic
import Derived.BigQuiet
import Derived.KernelRfl
import Derived.Lib.Hide
import Derived.Shelf.Small.Bits
import Derived.Shelf.Strconv.Itoa0
import Derived.Lib.ItoaNum
import Derived.Laws.BitsLemmas
import Derived.Deep.LoopGhost
import Derived.Laws.CopyOwn
import Derived.Laws.MakeOwn
import Derived.Maps.AppendAt
import Derived.Deep.AppendLies
import Derived.Laws.Rows
import Derived.Deep.RegionHeld3
import Derived.Deep.DeepCutAuto
import Derived.Deep.CutBlock
import Derived.Outline
import Derived.RegionTactic
import Derived.Deep.RegionWith
import Derived.Laws.OwnMore
import Derived.Deep.RegionHeld
import Derived.StillTail
import Derived.StillTailTactics
import Derived.IntWalk
import Derived.RangeFuncCalls
import Derived.RangeFuncBound
import Derived.RangeFuncKeeps
import Derived.Sort.Grow
import Derived.Shelf.SlGeneric
import Derived.Shelf.SlSortCmp.WholeK
import Derived.Shelf.SlSortCmp.NoneTotal
import Derived.Ground.SlsfProg
import Derived.TacticsIn
import Derived.RegionIn
import Derived.Laws.EntriesVeiled
import Derived.OwnWalkIn
import Derived.ChangeKeysEq
import Derived.Test.YtdkgilioejdmeaaGreatRows
import Derived.ProofKit
import Derived.OpenShut
import Derived.Deep.Matrix
import Derived.SizedLaws
import Derived.Deep.DeepHandedRow
import Derived.Deep.DeepWitnessRowRef
import Derived.LaidHandle
import Derived.LaidLaws
import Derived.Below
import Derived.ChangeSame
import Derived.ChangeMaps5
import Derived.Test.YtdkgilioejdmeaaGreatBA1
import Derived.Test.YtdkgilioejdmeaaGreatBA2
import Derived.Test.YtdkgilioejdmeaaGreatBA3
import Derived.Test.YtdkgilioejdmeaaGreatBA4
import Derived.Test.YtdkgilioejdmeaaGreatBA5
import Derived.Test.YtdkgilioejdmeaaGreatBA6
import Derived.Test.YtdkgilioejdmeaaGreatBA7
import Derived.Test.YtdkgilioejdmeaaGreatBA8
import Derived.Test.YtdkgilioejdmeaaGreatBA9
import Derived.Test.YtdkgilioejdmeaaGreatBA10
import Derived.Test.YtdkgilioejdmeaaGreatBA11
import Derived.Test.YtdkgilioejdmeaaGreatBA12
import Derived.Test.YtdkgilioejdmeaaGreatBA13
set_option linter.unusedVariables false
set_option linter.unusedSimpArgs false
namespace Go.Proofs.YtdkgilioejdmeaaGreat
open Go.RowKit
theorem eq_of_sorted {α : Type} {lt : α → α → Prop} (irr:∀ a,¬ lt a a) (tr:∀ a b c,lt a b→lt b c→lt a c):∀ (L M:List α),L.Pairwise lt→M.Pairwise lt→(∀ x,x∈L↔x∈M)→L=M:=by
 intro L
 induction L with
 | nil =>
  intro M _ _ h
  cases M with
  | nil=>rfl
  | cons b M=>exact absurd ((h b).2 (List.mem_cons_self ..)) (by simp)
 | cons a L ih =>
  intro M hL hM h
  cases M with
  | nil=>exact absurd ((h a).1 (List.mem_cons_self ..)) (by simp)
  | cons b M =>
   have hL1:=List.pairwise_cons.1 hL
   have hM1:=List.pairwise_cons.1 hM
   have hab:a=b:=by
    rcases List.mem_cons.1 ((h a).1 (List.mem_cons_self ..)) with e|e
    ·exact e
    ·rcases List.mem_cons.1 ((h b).2 (List.mem_cons_self ..)) with e2|e2
     ·exact e2.symm
     ·exact absurd (tr _ _ _ (hM1.1 a e) (hL1.1 b e2)) (irr b)
   subst hab
   rw [ih M hL1.2 hM1.2 fun x=>?_]
   constructor
   ·intro hx
    rcases List.mem_cons.1 ((h x).1 (List.mem_cons_of_mem _ hx)) with e|e
    ·subst e;exact absurd (hL1.1 x hx) (irr x)
    ·exact e
   ·intro hx
    rcases List.mem_cons.1 ((h x).2 (List.mem_cons_of_mem _ hx)) with e|e
    ·subst e;exact absurd (hM1.1 x hx) (irr x)
    ·exact e
theorem Shorts.unique {n:Nat} {f:Nat→Nat→Int} {nb:Int} {L M:List (List Int × Int)} (h:Shorts n f nb L) (k:Shorts n f nb M):L=M :=
 eq_of_sorted (lt:=fun a b:List Int × Int=>lexL a.1 b.1) (fun a=>lexL_irr a.1) (fun _ _ _=>zCa) L M h.sorted k.sorted fun x=>by
  obtain ⟨y,z⟩:=x
  rw [h.mem,k.mem]
end Go.Proofs.YtdkgilioejdmeaaGreat
namespace Go.Proofs.YtdkgilioejdmeaaGreat
open Go.RowKit Go.Sort Go.Shelf
theorem SList.ext {A B:World} {base n:Nat} {v:Value} {bs:List SV} (h:SList A base n v bs) (k:Ext A B):SList B base n v bs:=h.keep fun b t hb _=>k.block b hb.lt
end Go.Proofs.YtdkgilioejdmeaaGreat
namespace Go.Proofs.YtdkgilioejdmeaaGreat
open Go.RowKit
theorem SList.slice {w:World} {base n:Nat} {A:Option Addr} {k c:Nat} {bs:List SV} (h:SList w base n (.slice A k c) bs) (hk:k=bs.length) (h0:0 < k):∃ g,A=some ⟨g,0,none⟩∧k≤c∧∀ i p,bs[i]? = some p→w.cell? ⟨g,i*2,none⟩=some (.slice (some ⟨p.1,0,none⟩) n n)∧w.cell? ⟨g,i*2+1,none⟩=some (.int .i64 p.2.2):=by
 rcases h.val with ⟨h1,h2⟩|⟨g,cap,h1,h2,_,_,h5,_⟩
 ·subst h1;cases h2;simp at hk;omega
 ·cases h1;exact ⟨g,rfl,h2,h5⟩
theorem boxL_sorted (B:Nat):∀ n,(boxL B n).Pairwise lexL:=by
 intro n
 induction n with
 | zero=>exact List.pairwise_singleton _ _
 | succ n ih =>
  show ((List.range (2*B+1)).flatMap fun (i:Nat)=>(boxL B n).map fun v=>((i:Int) - (B:Int)) :: v).Pairwise lexL
  rw [List.pairwise_flatMap]
  refine ⟨fun i hi=>?_,?_⟩
  ·rw [List.pairwise_map]
   refine ih.imp fun {a b} h=>?_
   unfold lexL lexC
   rw [if_neg om,if_neg om]
   exact h
  ·refine List.pairwise_lt_range.imp fun {i j} hij x hx y hy=>?_
   obtain ⟨v,_,rfl⟩:=List.mem_map.1 hx
   obtain ⟨u,_,rfl⟩:=List.mem_map.1 hy
   unfold lexL lexC
   rw [if_pos om]
   decide
def boxS (n:Nat) (f:Nat→Nat→Int) (nb:Int) (B:Nat):List (List Int × Int) :=
 ((boxL B n).filter fun v=>decide (v.length=n) && (decide (qf n f (vat v)≤nb) && firstP v)).map fun v=>(v,qf n f (vat v))
theorem shorts_box {n:Nat} {f:Nat→Nat→Int} (h:PD n f) {E:Nat} (hE:∀ i c,i < n→c < n→(f i c).natAbs≤E) (nb:Int) (B:Nat) (hB:nb*((fct (n - 1)*E ^ (n - 1):Nat):Int) < ((B:Int)+1)*((B:Int)+1)):Shorts n f nb (boxS n f nb B):=by
 refine ⟨?_,fun y z=>?_⟩
 ·unfold boxS
  rw [List.pairwise_map];exact (boxL_sorted B n).sublist List.filter_sublist
 ·unfold boxS
  rw [List.mem_map]
  constructor
  ·rintro ⟨v,hv,e⟩
   rw [List.mem_filter] at hv
   simp only [Bool.and_eq_true,decide_eq_true_eq] at hv
   cases e
   exact ⟨hv.2.1,rfl,hv.2.2.1,hv.2.2.2⟩
  ·rintro ⟨hy,hz,hb,hp⟩
   refine ⟨y,List.mem_filter.2 ⟨mem_boxL hy fun i hi=>?_,by simp [hy,hp,← hz,hb]⟩,by rw [hz]⟩
   have h3:=h.coord hE (vat y) hi
   have h5:qf n f (vat y)*((fct (n - 1)*E ^ (n - 1):Nat):Int)≤nb*((fct (n - 1)*E ^ (n - 1):Nat):Int):=Int.mul_le_mul_of_nonneg_right om (Int.natCast_nonneg _)
   rcases Nat.lt_or_ge B (vat y i).natAbs with h7|h7
   ·exfalso
    have h8:(((vat y i).natAbs*(vat y i).natAbs:Nat):Int)=vat y i*vat y i:=by rw [Int.natCast_mul];exact Int.natAbs_mul_self
    have h9:(B+1)*(B+1)≤(vat y i).natAbs*(vat y i).natAbs:=Nat.mul_le_mul h7 h7
    have h10:(((B+1)*(B+1):Nat):Int)=((B:Int)+1)*((B:Int)+1):=by rw [Int.natCast_mul,Int.natCast_add];rfl
    omega
   ·exact h7
def hexa:List (List Int):=[[2,1],[1,2]]
def plane:List (List Int):=[[1,0],[0,1]]
theorem hexa_chk:chk hexa=0:=by kernel_rfl
theorem yAG:chk plane=0:=by kernel_rfl
theorem two_small {f:Nat→Nat→Int} {E:Nat} (h00:(f 0 0).natAbs≤E) (h01:(f 0 1).natAbs≤E) (h10:(f 1 0).natAbs≤E) (h11:(f 1 1).natAbs≤E):∀ i c,i < 2→c < 2→(f i c).natAbs≤E:=by
 intro i c hi hc
 rcases (show i=0∨i=1 by omega) with rfl|rfl <;> rcases (show c=0∨c=1 by omega) with rfl|rfl <;> assumption
theorem hexa_two:Shorts 2 (entry hexa) 2 [([0,1],2),([1,-1],2),([1,0],2)]:=by
 have h:Shorts 2 (entry hexa) 2 (boxS 2 (entry hexa) 2 2):=shorts_box (n:=2) (zC2 hexa_chk).pd (E:=2) (two_small (by decide) (by decide) (by decide) (by decide)) 2 2 (by decide)
 rw [show boxS 2 (entry hexa) 2 2=[([0,1],2),([1,-1],2),([1,0],2)] by kernel_rfl] at h
 exact h
theorem plane_25 {L:List (List Int × Int)} (hL:Shorts 2 (entry plane) 25 L):L.length=40:=by
 have h:Shorts 2 (entry plane) 25 (boxS 2 (entry plane) 25 5):=shorts_box (n:=2) (zC2 yAG).pd (E:=1) (two_small (by decide) (by decide) (by decide) (by decide)) 25 5 (by decide)
 rw [hL.unique h]
 have e:(boxS 2 (entry plane) 25 5).length=40:=by kernel_rfl
 exact e
def AllTells (n:Nat) (rows:List (List Int)) (nb:Int) (w:World) (e:Ending) (w':World):Prop :=
 ∃ (A:Option Addr) (k c:Nat) (z:Int),e = .returned (.tuple #[.slice A k c,.int .i64 z])∧((z≠0∧A=none∧k=0∧c=0)∨(z=0∧chk rows=0∧0≤nb∧nb≤4096∧∃ bs,k=bs.length∧k≤8192∧Shorts n (entry rows) nb (bs.map (·.2))∧SList w' w.heap.size n (.slice A k c) bs)) ∧
  (chk rows=0→0≤nb→nb≤4096→(∃ L,Shorts n (entry rows) nb L∧L.length≤8192)→z=0)
theorem yAC (A:Option Addr) (n c:Nat) (rows:List (List Int)) (nb:Int) (w:World) (hn:n=rows.length) (hr:IsRows w A rows) (hf:Fit64 rows) (hb0:-9223372036854775808≤nb) (hb1:nb≤9223372036854775807) :
  Calls Tryz.prog 18 #[.slice A n c,.int .i64 nb] w fun e w'=>Ext w w'∧AllTells n rows nb w e w':=by
 refine (all_any A n c rows nb w hn hr hf hb0 hb1).mono ?_
 rintro e w' ⟨hx,h⟩
 refine ⟨hx,?_⟩
 rcases h with ⟨h1,rfl⟩|⟨h1,h2,rfl⟩|⟨h1,h2,h3,L,hL,⟨h4,v,bs,rfl,h5,rfl⟩|⟨h4,rfl⟩⟩
 ·exact ⟨none,0,0,_,rfl,Or.inl ⟨h1,rfl,rfl,rfl⟩,fun h=>absurd h h1⟩
 ·exact ⟨none,0,0,2,rfl,Or.inl ⟨by decide,rfl,rfl,rfl⟩,fun _ h3 h4=>absurd ⟨h3,h4⟩ h2⟩
 ·obtain ⟨A',k',c',rfl,hk⟩:∃ A' k' c',v = .slice A' k' c'∧k'=bs.length:=by
   rcases h5.val with ⟨rfl,rfl⟩|⟨g,cap,rfl,_⟩
   ·exact ⟨_,_,_,rfl,rfl⟩
   ·exact ⟨_,_,_,rfl,rfl⟩
  exact ⟨A',k',c',0,rfl,Or.inr ⟨rfl,h1,h2,h3,bs,hk,by rw [hk];simpa using h4,hL,h5⟩,fun _ _ _ _=>rfl⟩
 ·refine ⟨none,0,0,9,rfl,Or.inl ⟨by decide,rfl,rfl,rfl⟩,fun _ _ _ ⟨M,hM,hM2⟩=>?_⟩
  rw [hL.unique hM] at h4
  omega
theorem number_any (A:Option Addr) (n c:Nat) (rows:List (List Int)) (nb:Int) (w:World) (hn:n=rows.length) (hr:IsRows w A rows) (hf:Fit64 rows) (hb0:-9223372036854775808≤nb) (hb1:nb≤9223372036854775807) (hc:chk rows=0) (h0:0≤nb) (h1:nb≤4096) (hk:∃ L,Shorts n (entry rows) nb L∧L.length≤8192) :
  Calls Tryz.prog 37 #[.slice A n c,.int .i64 nb] w fun e w'=>Ext w w'∧∃ L,Shorts n (entry rows) nb L∧e = .returned (.tuple #[.int .i64 (L.length:Nat),.int .i64 0]):=by
 have HA:=zH (yAC A n c rows nb w hn hr hf hb0 hb1)
 have HK:=zH hk
 have HC:=zH hc
 clear hr hf hn hk hc
 go_enter Tryz.func37,Tryz.ntmps37
 go_wp2_with (fail)
 refine HA.out.mono ?_
 rintro e w1 ⟨hx,A',k,c',z,rfl,h2,h3⟩
 obtain rfl:=h3 HC.out h0 h1 HK.out
 rcases h2 with ⟨h,_⟩|⟨_,_,_,_,bs,rfl,_,hS,_⟩
 ·exact absurd rfl h
 ·have HS:=zH hS
  have HX:=zH hx
  clear hS hx h3
  go_wp2
  exact bodyPost_ret (v:=.tuple #[.int .i64 (bs.length:Nat),.int .i64 0]) (by simp [results,Tryz.results37,go_sem]) rfl ⟨HX.out,_,HS.out,by simp⟩
theorem beyond_any (A:Option Addr) (n c:Nat) (rows:List (List Int)) (w:World) (hn:n=rows.length) (hr:IsRows w A rows) (hf:Fit64 rows) :
  Calls Tryz.prog 16 #[.slice A n c] w fun e w'=>∃ b,e = .returned (.bool b)∧w'=w:=by
 have HR:=zH hr
 have HF:=zH hf
 have HN:=zH hn
 have hn64:n≤140737488351232:=by rw [hn];exact hf.1
 clear hr hf hn
 go_enter Tryz.func16,Tryz.ntmps16
 go_wp2
 go_loopg [6] n (fun kk iv wk=>∃ i:Nat,kk+i=n∧iv = .int .i64 i∧wk=w)
 case atStart=>exact ⟨0,by omega,rfl,rfl⟩
 obtain ⟨i,hki,rfl,rfl⟩:=hrel
 by_cases hin:i < n
 ·obtain ⟨l,hl⟩:∃ l,rows[i]? = some l:=⟨_,List.getElem?_eq_getElem (by have:=HN.out;omega)⟩
  obtain ⟨b,off,rfl,hb,hc⟩:=HR.out (by have:=HN.out;omega)
  obtain ⟨R,cR,hcell,_,_⟩:=hc i l hl
  have hll:=(HF.out.2 l (List.mem_of_getElem? hl)).1
  have l1:=zAA hcell
  simp only at l1
  by_cases h:l.length > 100
  ·have hI:(l.length:Int) > 100:=by omega
   go_wp2
   exact bodyPost_ret (v:=.bool true) (by simp [results,Tryz.results16,go_sem]) rfl ⟨true,rfl,rfl⟩
  ·have hI:¬ (l.length:Int) > 100:=by omega
   go_wp2
   go_roundg (n - (i+1))
   case measure=>omega
   case rel=>exact ⟨i+1,by omega,by go_num,rfl⟩
 ·obtain rfl:n=i:=by omega
  go_wp2
  exact bodyPost_ret (v:=.bool (decide ((n:Int) > 100))) (by simp [results,Tryz.results16,go_sem]) rfl ⟨_,rfl,rfl⟩
theorem isRows_two {W:World} {b0 b1 b2:Nat} {x y z u:Int} (h0:Blk W b0 2 #[.int .i64 x,.int .i64 y]) (h1:Blk W b1 2 #[.int .i64 z,.int .i64 u]) (h2:Blk W b2 31 #[.slice (some ⟨b0,0,none⟩) 2 2,.slice (some ⟨b1,0,none⟩) 2 2]):IsRows W (some ⟨b2,0,none⟩) [[x,y],[z,u]]:=by
 intro _
 refine ⟨b2,0,rfl,h2.lt,fun i l hl=>?_⟩
 match i,hl with
 | 0,hl =>
  cases hl
  refine ⟨some ⟨b0,0,none⟩,2,h2.cell 0 rfl,Nat.le_refl _,fun _=>⟨b0,0,rfl,h0.lt,fun j z hj=>?_⟩⟩
  match j,hj with
  | 0,hj=>cases hj;exact h0.cell 0 rfl
  | 1,hj=>cases hj;exact h0.cell 1 rfl
 | 1,hl =>
  cases hl
  refine ⟨some ⟨b1,0,none⟩,2,h2.cell 1 rfl,Nat.le_refl _,fun _=>⟨b1,0,rfl,h1.lt,fun j z hj=>?_⟩⟩
  match j,hj with
  | 0,hj=>cases hj;exact h1.cell 0 rfl
  | 1,hj=>cases hj;exact h1.cell 1 rfl
theorem fit_two (x y z u:Int) (hx:x.natAbs≤1000) (hy:y.natAbs≤1000) (hz:z.natAbs≤1000) (hu:u.natAbs≤1000):Fit64 [[x,y],[z,u]]:=by
 refine ⟨by simp,fun l hl=>?_⟩
 simp only [List.mem_cons,List.not_mem_nil,or_false] at hl
 rcases hl with rfl|rfl
 ·refine ⟨by simp,fun a ha=>?_⟩
  simp only [List.mem_cons,List.not_mem_nil,or_false] at ha
  rcases ha with rfl|rfl <;> omega
 ·refine ⟨by simp,fun a ha=>?_⟩
  simp only [List.mem_cons,List.not_mem_nil,or_false] at ha
  rcases ha with rfl|rfl <;> omega
theorem three_of {bs:List SV} {p q r:List Int × Int} (h:bs.map (·.2)=[p,q,r]):∃ a b c:Nat,bs=[(a,p),(b,q),(c,r)]:=by
 match bs,h with
 | [(a,p'),(b,q'),(c,r')],h=>simp only [List.map_cons,List.map_nil,List.cons.injEq,and_true] at h;obtain ⟨rfl,rfl,rfl⟩:=h;exact ⟨a,b,c,rfl⟩
set_option maxHeartbeats 4000000 in
set_option maxRecDepth 100000 in
theorem works15_any (w:World):Calls Tryz.prog 15 #[] w fun e w'=>e = .returned (.bool true)∧Ext w w':=by
 obtain ⟨b0,hb0⟩:∃ b,w.heap.size=b:=⟨_,rfl⟩
 obtain ⟨b1,hb1⟩:∃ b,b0+1=b:=⟨_,rfl⟩
 obtain ⟨b2,hb2⟩:∃ b,b0+1+1=b:=⟨_,rfl⟩
 obtain ⟨W3,hW3⟩:∃ W3,((w.alloc (.cells #[.int .i64 2,.int .i64 1] 2)).alloc (.cells #[.int .i64 1,.int .i64 2] 2)).alloc (.cells #[.slice (some ⟨b0,0,none⟩) 2 2,.slice (some ⟨b1,0,none⟩) 2 2] 31)=W3:=⟨_,rfl⟩
 have HX3:Hid (Ext w W3):=by rw [← hW3];exact (((Ext.refl _).alloc _).alloc _).alloc _
 have HR3:Hid (IsRows W3 (some ⟨b2,0,none⟩) hexa):=by
  refine isRows_two (b0:=b0) (b1:=b1) ?_ ?_ ?_
  ·rw [← hW3,← hb0];exact Blk.al (Blk.al (Blk.new _ _ _))
  ·rw [← hW3,← hb1,← hb0];exact Blk.al (Blk.at (by simp))
  ·rw [← hW3,← hb2,← hb0];exact Blk.at (by simp)
 have HA:=zH (yAC (some ⟨b2,0,none⟩) 2 2 hexa 2 W3 rfl HR3.out (fit_two _ _ _ _ (by decide) (by decide) (by decide) (by decide)) (by decide) (by decide))
 have hb2':b1+1=b2:=by omega
 go_enter Tryz.func15,Tryz.ntmps15
 go_wp2_with (fail)
 refine HA.out.mono ?_
 rintro e w1 ⟨hx1,A',k,c',z,rfl,h2,h3⟩
 obtain rfl:=h3 hexa_chk (by decide) (by decide) ⟨_,hexa_two,by decide⟩
 rcases h2 with ⟨h,_⟩|⟨_,_,_,_,bs,rfl,_,hS,hL⟩
 ·exact absurd rfl h
 obtain ⟨x0,x1,x2,rfl⟩:=three_of (hS.unique hexa_two)
 have hL2:=zH hL
 obtain ⟨g,rfl⟩:∃ g,A'=some ⟨g,0,none⟩:=by
  rcases hL.val with ⟨h,_⟩|⟨g,cap,h,_⟩
  ·cases h
  ·cases h;exact ⟨_,rfl⟩
 have HX1:=zH (HX3.out.trans hx1)
 have hval:TB w1 33 g∧(∀ i p,[(x0,[0,1],2),(x1,[1,-1],2),(x2,[1,0],2)][i]? = some p→w1.cell? ⟨g,i*2,none⟩=some (.slice (some ⟨p.1,0,none⟩) 2 2)∧w1.cell? ⟨g,i*2+1,none⟩=some (.int .i64 p.2.2)):=by
  rcases hL.val with ⟨h,_⟩|⟨g',cap,h,_,_,h4,h5,_⟩
  ·cases h
  ·cases h;exact ⟨h4,h5⟩
 have HC0:=zH (hval.2 0 _ rfl).1
 have HC2:=zH (hval.2 1 _ rfl).1
 have HC4:=zH (hval.2 2 _ rfl).1
 have HC5:=zH (hval.2 2 _ rfl).2
 have HR0:=zH (hL.row (x0,[0,1],2) (by simp)).1
 have HR1:=zH (hL.row (x1,[1,-1],2) (by simp)).1
 have HR2:=zH (hL.row (x2,[1,0],2) (by simp)).1
 have hlen:3≤c':=by
  rcases hL.val with ⟨h,_⟩|⟨g',cap,h,h2,_⟩
  ·cases h
  ·cases h;simpa using h2
 clear hx1 hval hL h3 hS hL2 HA HR3 hW3 hb0 hb1 hb2 hb2'
 obtain ⟨d0,hd0⟩:∃ b,w1.heap.size=b:=⟨_,rfl⟩
 obtain ⟨d1,hd1⟩:∃ b,d0+1=b:=⟨_,rfl⟩
 obtain ⟨d2,hd2⟩:∃ b,d0+1+1=b:=⟨_,rfl⟩
 obtain ⟨W5,hW5⟩:∃ W3,((w1.alloc (.cells #[.int .i64 1,.int .i64 0] 2)).alloc (.cells #[.int .i64 0,.int .i64 1] 2)).alloc (.cells #[.slice (some ⟨d0,0,none⟩) 2 2,.slice (some ⟨d1,0,none⟩) 2 2] 31)=W3:=⟨_,rfl⟩
 have HX5:Hid (Ext w1 W5):=by rw [← hW5];exact (((Ext.refl _).alloc _).alloc _).alloc _
 have HR5:Hid (IsRows W5 (some ⟨d2,0,none⟩) plane):=by
  refine isRows_two (b0:=d0) (b1:=d1) ?_ ?_ ?_
  ·rw [← hW5,← hd0];exact Blk.al (Blk.al (Blk.new _ _ _))
  ·rw [← hW5,← hd1,← hd0];exact Blk.al (Blk.at (by simp))
  ·rw [← hW5,← hd2,← hd0];exact Blk.at (by simp)
 have HNu:=zH (number_any (some ⟨d2,0,none⟩) 2 2 plane 25 W5 rfl HR5.out (fit_two _ _ _ _ (by decide) (by decide) (by decide) (by decide)) (by decide) (by decide) yAG (by decide) (by decide) (by
  obtain ⟨L,hL⟩:=shorts_ex (n:=2) (zC2 yAG) 25
  exact ⟨L,hL,by rw [plane_25 hL];decide⟩))
 have hd2':d1+1=d2:=by omega
 go_wp2_with (fail)
 refine HNu.out.mono ?_
 rintro e w2 ⟨hx2,L,hL,rfl⟩
 rw [plane_25 hL]
 have hx:=HX5.out.trans hx2
 have c0:w2.cell? ⟨g,0,none⟩=some (.slice (some ⟨x0,0,none⟩) 2 2):=hx.cell HC0.out
 have c2:w2.cell? ⟨g,2,none⟩=some (.slice (some ⟨x1,0,none⟩) 2 2):=hx.cell HC2.out
 have c4:w2.cell? ⟨g,4,none⟩=some (.slice (some ⟨x2,0,none⟩) 2 2):=hx.cell HC4.out
 have c5:w2.cell? ⟨g,5,none⟩=some (.int .i64 2):=hx.cell HC5.out
 have r00:w2.cell? ⟨x0,0,none⟩=some (.int .i64 0):=(HR0.out.ext hx).cell 0 (by decide)
 have r01:w2.cell? ⟨x0,1,none⟩=some (.int .i64 1):=(HR0.out.ext hx).cell 1 (by decide)
 have r10:w2.cell? ⟨x1,0,none⟩=some (.int .i64 1):=(HR1.out.ext hx).cell 0 (by decide)
 have r11:w2.cell? ⟨x1,1,none⟩=some (.int .i64 (-1)):=(HR1.out.ext hx).cell 1 (by decide)
 have r21:w2.cell? ⟨x2,1,none⟩=some (.int .i64 0):=(HR2.out.ext hx).cell 1 (by decide)
 have HX2:=zH (HX1.out.trans hx)
 have l0:=zAA c0
 have l1:=zAA r00
 have l2:=zAA r10
 have l3:=zAA r21
 simp only at l0 l1 l2 l3
 simp only [List.length_cons,List.length_nil,Nat.reduceAdd]
 clear hx hx2 hL HC0 HC2 HC4 HC5 HR0 HR1 HR2 HNu HR5 HX5 hW5 hd0 hd1 hd2 hd2' HX1 HX3
 go_wp2
 exact bodyPost_ret (v:=.bool true) (by simp [results,Tryz.results15,go_sem]) rfl ⟨rfl,HX2.out⟩
structure MatI (w:World) (lo g n:Nat) (h:Nat→Nat) (m:Nat→Nat→Int):Prop where
 rows:∀ i,i < n→w.cell? ⟨g,i,none⟩=some (.slice (some ⟨h i,0,none⟩) n n)
 row:∀ i,i < n→NRow w (h i) n (m i)
 inj:∀ i j,i < n→j < n→h i=h j→i=j
 low:∀ i,i < n→lo≤h i
 glow:lo≤g
 typ:TB w 31 g
theorem MatI.is {w:World} {lo g n:Nat} {r:Nat→Nat} {f:Nat→Nat→Int} (h:MatI w lo g n r f):IsRows w (some ⟨g,0,none⟩) (rowsOf n f):=by
 intro _
 refine ⟨g,0,rfl,h.typ.lt,fun i l hl=>?_⟩
 obtain ⟨hi,rfl⟩:=rowsOf_at hl
 refine ⟨_,n,by rw [Nat.zero_add,List.length_map,List.length_range];exact h.rows i hi,by simp,fun hp=>?_⟩
 refine ⟨r i,0,rfl,(h.row i hi).typ.lt,fun j z hz=>?_⟩
 rw [List.getElem?_map] at hz
 by_cases hj:j < n
 ·rw [List.getElem?_range hj] at hz
  obtain rfl:=Option.some.inj hz
  rw [Nat.zero_add];exact (h.row i hi).cell j hj
 ·rw [List.getElem?_eq_none (by simpa using hj)] at hz;cases hz
structure SqInvI (w0 wr:World) (n i:Nat) (v:Value) (h:Nat→Nat) (m:Nat→Nat→Int):Prop where
 own:wr.ownsRow w0.heap.size 31 1 v i ((List.range i).map fun j=>Value.slice (some ⟨h j,0,none⟩) n n)
 row:∀ j,j < i→NRow wr (h j) n (m j)
 inj:∀ j k,j < i→k < i→h j=h k→j=k
 low:∀ j,j < i→w0.heap.size≤h j
 ext:Ext w0 wr
set_option maxHeartbeats 1000000 in
theorem squareSum_any (n bx by_ bz:Nat) (m:Nat→Nat→Int) (w:World) (hn1:1≤n) (hn8:n≤100)
  (hent:∀ i j W,i < n→j < n→Ext w W→Calls Tryz.prog 51 #[.int .i64 i,.int .i64 j,.pointer (some ⟨bx,0,none⟩),.pointer (some ⟨by_,0,none⟩),.pointer (some ⟨bz,0,none⟩)] W fun e w'=>e = .returned (.int .i64 (m i j))∧Ext W w') :
  Calls Tryz.prog 50 #[.int .i64 n,.func (.func 51) #[] #[.pointer (some ⟨bx,0,none⟩),.pointer (some ⟨by_,0,none⟩),.pointer (some ⟨bz,0,none⟩)]] w fun e w'=>∃ g cap h,e = .returned (.slice (some ⟨g,0,none⟩) n cap)∧n≤cap∧MatI w' w.heap.size g n h m∧Ext w w':=by
 have HEnt:=zH hent
 obtain ⟨i0,hi,hz0,hz1,hz2⟩:=info_parts Tryz.infoIs
 have HI0:=zH (show Tryz.prog.info? 31=some i0∧i0.zero=some (.slice none 0 0)∧i0.size=1∧i0.bytes=24 from ⟨hi,hz0,hz1,hz2⟩)
 clear hent hi hz0 hz1 hz2
 go_enter Tryz.func50,Tryz.ntmps50
 go_wp2
 go_loopg [5,10] n (fun kk v iv wr=>∃ (i:Nat) (h:Nat→Nat),kk+i=n∧iv = .int .i64 i∧Hid (SqInvI w wr n i v h m))
 case atStart=>exact ⟨0,fun _=>0,by omega,rfl,⟨World.ownsRow_nil _ _ _ _,fun j hj=>by omega,fun j k hj=>by omega,fun j hj=>by omega,Ext.refl _⟩⟩
 obtain ⟨i,h,hki,rfl,HI⟩:=hrel
 by_cases hin:i < n
 ·obtain ⟨cs,hmk,hT,hcl,hfr⟩:=zDD (n:Int) n rfl om wr
  have HMk:Hid (NRow (wr.alloc (.cells cs 2)) wr.heap.size n (fun _=>0)):=⟨hcl,hfr,hT⟩
  clear hT hcl hfr
  go_wp2
  obtain ⟨W1,hW1⟩:∃ W1,wr.alloc (.cells cs 2)=W1:=⟨_,rfl⟩
  rw [hW1] at HMk
  rw [hW1]
  have hX1:Ext wr W1:=by rw [← hW1];exact (Ext.refl wr).alloc _
  have HX1:=zH hX1
  have HXw:=zH (HI.out.ext.trans hX1)
  have hlo:w.heap.size≤wr.heap.size:=HI.out.ext.size
  obtain ⟨hr,hhr⟩:∃ hr,wr.heap.size=hr:=⟨_,rfl⟩
  have HHr:=zH hhr
  rw [hhr] at HMk hlo
  rw [hhr]
  clear hW1 hX1 hmk hhr
  go_loopg [17] n (fun kk jv wi=>∃ j:Nat,kk+j=n∧jv = .int .i64 j∧Hid (NRow wi hr n (fun j'=>if j' < j then m i j' else 0))∧Hid (ExtBut (fun x=>x=hr) W1 wi))
  case atStart=>exact ⟨0,by omega,rfl,HMk.out.congr (fun j hj=>by simp),ExtBut.refl _ _⟩
  obtain ⟨j,hkj,rfl,HR,HE⟩:=hrel
  by_cases hjn:j < n
  ·have HC:=zH (HEnt.out i j wr hin hjn (HXw.out.but HE.out (by rintro g rfl;exact hlo)))
   have c1:=HR.out.cell j hjn
   have f1:=HR.out.free j
   have hlt:=HR.out.typ.lt
   go_wp2_with fail
   refine HC.out.mono ?_
   rintro e w2 ⟨rfl,hx⟩
   replace f1:=hx.free f1 (zAA c1)
   replace c1:=hx.cell c1
   have HR2:=zH ((HR.out.ext hx).set_ hjn (m i j))
   have HE2:=zH (HE.out.ext hx)
   clear hx HC HR HE
   have HX3:Hid (ExtBut (fun x=>x=hr) W1 (w2.setCell ⟨hr,j,none⟩ (.int .i64 (m i j)))):=HE2.out.setCell (p:=⟨hr,j,none⟩) (.inl rfl) _
   have HR3:Hid (NRow (w2.setCell ⟨hr,j,none⟩ (.int .i64 (m i j))) hr n (fun j'=>if j' < j+1 then m i j' else 0)) :=
    HR2.out.congr fun j' _=>by
     by_cases e:j'=j
     ·subst e;rw [if_pos rfl,if_pos om]
     ·rw [if_neg e]
      by_cases e2:j' < j
      ·rw [if_pos e2,if_pos om]
      ·rw [if_neg e2,if_neg om]
   clear HR2 HE2
   go_wp2
   go_roundg (gk - 1)
   case measure=>omega
   case rel=>exact ⟨j+1,by omega,by go_num,HR3,HX3⟩
  ·obtain rfl:n=j:=by omega
   obtain ⟨ii,hii,hz0,hz1,hz2⟩:∃ ii,Tryz.prog.info? 31=some ii∧ii.zero=some (.slice none 0 0)∧ii.size=1∧ii.bytes=24:=⟨i0,HI0.out⟩
   have HTy:=zH HR.out.typ
   have hlt:=HR.out.typ.lt
   have HOwn:Hid (wr.ownsRow w.heap.size 31 1 u5 i ((List.range i).map fun j=>Value.slice (some ⟨h j,0,none⟩) n n)):=by
    refine (HI.out.own.kept (row:=none) ?_ (by cases u5.ownBlock <;> simp)).kept HE.out.grown ?_
    ·exact ⟨Below.os HX1.out,Below.tape HX1.out,Below.output HX1.out,HX1.out.size,fun k hk _=>Below.block HX1.out k hk⟩
    ·rcases hob:u5.ownBlock with _|g
     ·exact .inl rfl
     ·refine .inr ?_
      have:=HI.out.own.lt g hob
      have:=HHr.out
      intro e;injection e with e;omega
   have HRows:Hid (∀ j,j < i→NRow wr (h j) n (m j)):=fun j hj =>
    ((HI.out.row j hj).ext HX1.out).keep (HE.out.block _ ((HI.out.row j hj).ext HX1.out).typ.lt (by have:=(HI.out.row j hj).typ.lt;have:=HHr.out;omega))
   have HNew:Hid (NRow wr hr n (m i)):=HR.out.congr fun j' hj'=>if_pos hj'
   have HXn:=zH (HXw.out.but HE.out (by rintro g rfl;exact hlo))
   clear HR HE
   have hws:w.heap.size≤wr.heap.size:=HXn.out.size
   go_wp2_with (at_builtin;refine wpList_append_own _ rfl _ _ 22 rfl w.heap.size 31 ii (.slice none 0 0) 1 24 Tryz.underlying22 hii hz0 hz1 hz2 rfl (by decide) _ _ _ rfl (HOwn.out.alloc _) ⟨wr.heap.size,0,none⟩ 1 1 [.slice (some ⟨hr,0,none⟩) n n] rfl rfl ?c1 ?c2 ?c3 ?c4 ?c5 ?_)
   case c1=>exact cell_one_new _ _ _
   case c2=>intro u hu;rw [List.mem_singleton.1 hu];rfl
   case c3=>unfold maxLen;omega
   case c4=>omega
   case c5=>simp only [World.size_alloc];omega
   intro v' w5 hown' hgrow _
   have hOwnA:=HOwn.out.alloc (.cells #[.slice (some ⟨hr,0,none⟩) n n] 31)
   have hk104:∀ b,TB (wr.alloc (.cells #[.slice (some ⟨hr,0,none⟩) n n] 31)) 2 b→w5.heap[b]? = (wr.alloc (.cells #[.slice (some ⟨hr,0,none⟩) n n] 31)).heap[b]?:=fun b hb=>zAR hOwnA hgrow hb (by decide)
   have hk32:∀ b,TB (wr.alloc (.cells #[.slice (some ⟨hr,0,none⟩) n n] 31)) 133 b→w5.heap[b]? = (wr.alloc (.cells #[.slice (some ⟨hr,0,none⟩) n n] 31)).heap[b]?:=fun b hb=>zAR hOwnA hgrow hb (by decide)
   have hXA:Ext wr (wr.alloc (.cells #[.slice (some ⟨hr,0,none⟩) n n] 31)):=(Ext.refl wr).alloc _
   have HS:Hid (SqInvI w w5 n (i+1) v' (fun j=>if j=i then hr else h j) m):=by
    refine ⟨?_,fun j hj=>?_,fun j k hj hk e=>?_,fun j hj=>?_,?_⟩
    ·rw [← zBF i (fun j=>Value.slice (some ⟨h j,0,none⟩) n n) _ (.slice (some ⟨hr,0,none⟩) n n) (fun j hj=>by simp only [if_neg (show ¬ j=i by omega)]) (by simp)]
     exact hown'
    ·by_cases e:j=i
     ·subst e
      simp only [if_true]
      exact (HNew.out.ext hXA).keep (hk104 _ (HNew.out.ext hXA).typ)
     ·simp only [if_neg e]
      have h2:=(HRows.out j om).ext hXA
      exact h2.keep (hk104 _ h2.typ)
    ·by_cases e1:j=i <;> by_cases e2:k=i
     ·omega
     ·rw [if_pos e1,if_neg e2] at e
      have h1:=(HI.out.row k om).typ.lt
      have h2:=HHr.out
      omega
     ·rw [if_neg e1,if_pos e2] at e
      have h1:=(HI.out.row j om).typ.lt
      have h2:=HHr.out
      omega
     ·rw [if_neg e1,if_neg e2] at e
      exact HI.out.inj j k om om e
    ·by_cases e1:j=i
     ·simp only [if_pos e1];exact hlo
     ·simp only [if_neg e1];exact HI.out.low j om
    ·exact (HXn.out.alloc _).grown hgrow (fun k hk=>(hOwnA.lt k hk).1)
   clear hown' hgrow hOwnA hk104 hk32 hXA
   go_wp2
   go_roundg (n - (i+1))
   case measure=>omega
   case rel=>exact ⟨i+1,_,by omega,by go_num,HS⟩
 ·obtain rfl:n=i:=by omega
  rcases HI.out.own.2 with ⟨_,h0⟩|⟨g,cap,cur,rfl,hg,hh,hnc,hcm,hcs,hct⟩
  ·omega
  ·have HM:Hid (MatI wr w.heap.size g n h m):=by
    refine ⟨fun i hi=>?_,HI.out.row,HI.out.inj,HI.out.low,hg,⟨_,_,hh⟩⟩
    have h1:=HI.out.own.cells (g:=g) rfl i (.slice (some ⟨h i,0,none⟩) n n) (by simp [hi])
    rw [← h1]
    unfold Addr.add
    split
    ·subst_vars;rfl
    ·simp
   have HX:=zH HI.out.ext
   clear hh hcs hct HI
   go_wp2
   go_ret
   exact ⟨g,cap,h,rfl,hnc,HM.out,HX.out⟩
theorem wrap_ok {z:Int} (h:-9223372036854775808≤z∧z≤9223372036854775807):IntKind.i64.wrap z=z:=by
 simp only [IntKind.wrap,IntKind.bits,IntKind.signed,Bool.true_and,decide_eq_true_eq,ge_iff_le]
 (repeat split) <;> omega
def sumM (n:Nat) (f g:Nat→Nat→Int) (i j:Nat):Int:=if i < n∧j < n then f i j else if n≤i∧n≤j then g (i - n) (j - n) else 0
set_option maxHeartbeats 4000000 in
set_option maxRecDepth 100000 in
theorem sumEnt (A B:Option Addr) (n p c d:Nat) (ra rb:List (List Int)) (b8 b2 b3 i j:Nat) (w:World) (hn:n=ra.length) (hp:p=rb.length) (hra:IsRows w A ra) (hrb:IsRows w B rb) (hfa:Fit64 ra) (hfb:Fit64 rb) (hsa:∀ l∈ra,l.length=n) (hsb:∀ l∈rb,l.length=p)
  (h8:Blk w b8 3 #[.int .i64 n]) (h2:Blk w b2 22 #[.slice A n c]) (h3:Blk w b3 22 #[.slice B p d]) (hi:i < n+p) (hj:j < n+p) (hnp:n+p≤100) :
  Calls Tryz.prog 51 #[.int .i64 i,.int .i64 j,.pointer (some ⟨b8,0,none⟩),.pointer (some ⟨b2,0,none⟩),.pointer (some ⟨b3,0,none⟩)] w fun e w'=>e = .returned (.int .i64 (sumM n (entry ra) (entry rb) i j))∧Ext w w':=by
 obtain ⟨c8,f8⟩:=h8.one
 obtain ⟨c2,f2⟩:=h2.one
 obtain ⟨c3,f3⟩:=h3.one
 have l8:=h8.lt
 have l2:=h2.lt
 have l3:=h3.lt
 have HA:=zH (fun i j hi hj=>ent_at hn hra hfa hsa i j w hi hj (Ext.refl w))
 have HB:=zH (fun i j hi hj=>ent_at hp hrb hfb hsb i j w hi hj (Ext.refl w))
 clear hn hp hra hrb hfa hfb hsa hsb h8 h2 h3
 by_cases h1:i < n
 ·by_cases h2:j < n
  ·have e1:sumM n (entry ra) (entry rb) i j=entry ra i j:=if_pos ⟨h1,h2⟩
   rw [e1]
   obtain ⟨b,off,R,c',b',off',rfl,rfl,ca,hc',cb,z0,z1⟩:=HA.out i j h1 h2
   obtain ⟨z,hz⟩:∃ z,entry ra i j=z:=⟨_,rfl⟩
   rw [hz] at cb ⊢
   have la:=zAA ca
   have lb:=zAA cb
   simp only at la lb
   clear HA HB e1 hz
   go_enter Tryz.func51,Tryz.ntmps51
   go_wp2
   exact bodyPost_ret (v:=.int .i64 z) (by simp [results,Tryz.results51,go_sem]) rfl ⟨rfl,Ext.refl _⟩
  ·have e1:sumM n (entry ra) (entry rb) i j=0:=by unfold sumM;rw [if_neg (fun h=>h2 h.2),if_neg om]
   rw [e1]
   clear HA HB e1
   go_enter Tryz.func51,Tryz.ntmps51
   go_wp2
   exact bodyPost_ret (v:=.int .i64 0) (by simp [results,Tryz.results51,go_sem]) rfl ⟨rfl,Ext.refl _⟩
 ·by_cases h2:j < n
  ·have e1:sumM n (entry ra) (entry rb) i j=0:=by unfold sumM;rw [if_neg (fun h=>h1 h.1),if_neg om]
   rw [e1]
   clear HA HB e1
   go_enter Tryz.func51,Tryz.ntmps51
   go_wp2
   exact bodyPost_ret (v:=.int .i64 0) (by simp [results,Tryz.results51,go_sem]) rfl ⟨rfl,Ext.refl _⟩
  ·have e1:sumM n (entry ra) (entry rb) i j=entry rb (i - n) (j - n):=by unfold sumM;rw [if_neg (fun h=>h1 h.1),if_pos om]
   rw [e1]
   obtain ⟨b,off,R,c',b',off',rfl,rfl,ca,hc',cb,z0,z1⟩:=HB.out (i - n) (j - n) om om
   obtain ⟨z,hz⟩:∃ z,entry rb (i - n) (j - n)=z:=⟨_,rfl⟩
   obtain ⟨i',hi'⟩:∃ i',i - n=i':=⟨_,rfl⟩
   obtain ⟨j',hj'⟩:∃ j',j - n=j':=⟨_,rfl⟩
   obtain rfl:i=i'+n:=by omega
   obtain rfl:j=j'+n:=by omega
   rw [hz] at cb ⊢
   rw [hi'] at ca
   rw [hj'] at cb
   have hip:i' < p:=by omega
   have hjp:j' < p:=by omega
   have la:=zAA ca
   have lb:=zAA cb
   simp only at la lb
   have hiI:((i'+n:Nat):Int) - (n:Int)=(i':Int):=by omega
   have hjI:((j'+n:Nat):Int) - (n:Int)=(j':Int):=by omega
   have hwi:IntKind.i64.wrap (i':Int)=i':=wrap_ok om
   have hwj:IntKind.i64.wrap (j':Int)=j':=wrap_ok om
   clear HA HB e1 hz hi' hj'
   go_enter Tryz.func51,Tryz.ntmps51
   go_upto_region 4 with (fail)
   have HKeepT:=zH (fun (w':World) (hx:Ext w w')=>(show w'.cell? ⟨b8,0,none⟩=some (.int .i64 n)∧w'.cell? ⟨b3,0,none⟩=some (.slice (some ⟨b,off,none⟩) p d)∧w'.cell? ⟨b,off+i',none⟩=some (.slice (some ⟨b',off',none⟩) p c')∧w'.cell? ⟨b',off'+j',none⟩=some (.int .i64 z) from ⟨hx.cell c8,hx.cell c3,hx.cell ca,hx.cell cb⟩))
   refine rU HKeepT [11] [] 12 (fun hH hC=>?_)
   revert hC
   refine tk 0 12 hH ?_
   refine tk 1 12 hH ?_
   refine tk 2 12 hH ?_
   refine tk 3 12 hH ?_
   refine tk 4 12 hH ?_
   refine tk 5 12 hH ?_
   refine tk 6 12 hH ?_
   refine tk 7 12 hH ?_
   refine tk 8 12 hH ?_
   refine tk 9 12 hH ?_
   refine tk 10 12 hH ?_
   intro hC
   refine zAB hC (i:=11) Sg kr (fun K hK=>?_)
   go_simp
   refine hK.out _ _ (fun h=>by cases h) (fun hCn=>?_)
   clear hK K hC
   have hC:=hCn
   clear hCn
   try simp only [Act.put,sA,sB,sC]
   refine zAD kr ?_ _
   clear hC HKeepT
   try clear hH
   go_wp2
   first
   | exact bodyPost_ret (v:=.int .i64 z) (by simp [results,Tryz.results51,go_sem]) rfl ⟨rfl,(Ext.refl _).drew⟩
set_option maxHeartbeats 4000000 in
set_option maxRecDepth 100000 in
theorem gramSum_any (A B:Option Addr) (n p c d:Nat) (ra rb:List (List Int)) (w:World) (hn:n=ra.length) (hp:p=rb.length) (hra:IsRows w A ra) (hrb:IsRows w B rb) (hfa:Fit64 ra) (hfb:Fit64 rb) :
  Calls Tryz.prog 17 #[.slice A n c,.slice B p d] w fun e w'=>Ext w w' ∧
   ((¬ (chk ra=0∧chk rb=0∧n+p≤8)∧∃ z,z≠0∧e = .returned (.tuple #[.slice none 0 0,.int .i64 z])) ∨
   (chk ra=0∧chk rb=0∧n+p≤8∧∃ g cap h,e = .returned (.tuple #[.slice (some ⟨g,0,none⟩) (n+p:Nat) cap,.int .i64 0])∧n+p≤cap∧MatI w' w.heap.size g (n+p) h (sumM n (entry ra) (entry rb)))):=by
 obtain ⟨R,hR⟩:∃ R:Ending→World→Prop,(fun e w'=>Ext w w' ∧
   ((¬ (chk ra=0∧chk rb=0∧n+p≤8)∧∃ z,z≠0∧e = .returned (.tuple #[.slice none 0 0,.int .i64 z])) ∨
   (chk ra=0∧chk rb=0∧n+p≤8∧∃ g cap h,e = .returned (.tuple #[.slice (some ⟨g,0,none⟩) (n+p:Nat) cap,.int .i64 0])∧n+p≤cap∧MatI w' w.heap.size g (n+p) h (sumM n (entry ra) (entry rb)))))=R:=⟨_,rfl⟩
 have HR:=zH hR
 rw [hR]
 clear hR
 obtain ⟨W0,hW0⟩:∃ W0,(w.alloc (.cells #[.slice A n c] 22)).alloc (.cells #[.slice B p d] 22)=W0:=⟨_,rfl⟩
 have HX0:Hid (Ext w W0):=by rw [← hW0];exact ((Ext.refl _).alloc _).alloc _
 obtain ⟨b2,hb2⟩:∃ b,w.heap.size=b:=⟨_,rfl⟩
 obtain ⟨b3,hb3⟩:∃ b,b2+1=b:=⟨_,rfl⟩
 have HK2:Hid (Blk W0 b2 22 #[.slice A n c]):=by rw [← hW0,← hb2];exact Blk.al (Blk.new _ _ _)
 have HK3:Hid (Blk W0 b3 22 #[.slice B p d]):=by rw [← hW0,← hb3,← hb2];exact Blk.at (by simp)
 have HCa:=zH (fun W (hx:Ext w W)=>zC1 A n c ra W hn (hra.ext hx) hfa)
 have HCb:=zH (fun W (hx:Ext w W)=>zC1 B p d rb W hp (hrb.ext hx) hfb)
 have HRa:=zH hra
 have HRb:=zH hrb
 have HFa:=zH hfa
 have HFb:=zH hfb
 have HNa:=zH hn
 have HNb:=zH hp
 obtain ⟨ka,hka⟩:∃ z,chk ra=z:=⟨_,rfl⟩
 obtain ⟨kb,hkb⟩:∃ z,chk rb=z:=⟨_,rfl⟩
 have HKa:=zH hka
 have HKb:=zH hkb
 rw [hka] at HCa
 rw [hkb] at HCb
 have hn64:n≤140737488351232:=by rw [hn];exact hfa.1
 have hp64:p≤140737488351232:=by rw [hp];exact hfb.1
 obtain ⟨c2,f2⟩:=HK2.out.one
 obtain ⟨c3,f3⟩:=HK3.out.one
 have l2:=HK2.out.lt
 have l3:=HK3.out.lt
 have hmf:∀ (fn:Fn) (first cap:Array Value) (w:World),(Instr.makeFunc fn first cap).run Tryz.prog w = .ok (.func fn first cap) w:=fun _ _ _ _=>rfl
 clear hra hrb hfa hfb hn hp hka hkb
 go_enter Tryz.func17,Tryz.ntmps17
 by_cases ha:ka=0
 ·subst ha
  by_cases hb:kb=0
  ·subst hb
   by_cases h8:n+p≤8
   ·have h8i:¬ ((n:Int)+(p:Int) > 8):=by omega
    go_upto_region 4 with (go_at_call 49;refine (HCa.out _ HX0.out).mono ?_;rintro e w1 ⟨rfl,hx⟩;have HX1:=zH (HX0.out.trans hx);have HK21:=zH (HK2.out.ext hx);have HK31:=zH (HK3.out.ext hx);clear hx c2 f2 c3 f3 l2 l3)
    obtain ⟨c2,f2⟩:=HK21.out.one
    obtain ⟨c3,f3⟩:=HK31.out.one
    have l2:=HK21.out.lt
    have l3:=HK31.out.lt
    clear HCa
    go_upto_region 7 with (go_at_call 49;refine (HCb.out _ HX1.out).mono ?_;rintro e w2 ⟨rfl,hx⟩;have HX2:=zH (HX1.out.trans hx);have HK22:=zH (HK21.out.ext hx);have HK32:=zH (HK31.out.ext hx);clear hx c2 f2 c3 f3 l2 l3)
    obtain ⟨c2,f2⟩:=HK22.out.one
    obtain ⟨c3,f3⟩:=HK32.out.one
    have l2:=HK22.out.lt
    have l3:=HK32.out.lt
    clear HCb
    go_upto_region 8 with (fail)
    obtain ⟨W3,hW3⟩:∃ W3,w2.alloc (.cells #[.int .i64 n] 3)=W3:=⟨_,rfl⟩
    obtain ⟨b8,hb8⟩:∃ b,w2.heap.size=b:=⟨_,rfl⟩
    have h23:Ext w2 W3:=by rw [← hW3];exact (Ext.refl _).alloc _
    have HK8:Hid (Blk W3 b8 3 #[.int .i64 n]):=by rw [← hW3,← hb8];exact Blk.new _ _ _
    have HK23:=zH (HK22.out.ext h23)
    have HK33:=zH (HK32.out.ext h23)
    have HX3:=zH (HX2.out.trans h23)
    rw [hW3,hb8]
    obtain ⟨c8,f8⟩:=HK8.out.one
    have l8:=HK8.out.lt
    clear hW3 hb8 h23 c2 f2 c3 f3 l2 l3
    obtain ⟨c2,f2⟩:=HK23.out.one
    obtain ⟨c3,f3⟩:=HK33.out.one
    have l2:=HK23.out.lt
    have l3:=HK33.out.lt
    have HSq:Hid (Calls Tryz.prog 50 #[.int .i64 ((n:Int)+(p:Int)),.func (.func 51) #[] #[.pointer (some ⟨b8,0,none⟩),.pointer (some ⟨b2,0,none⟩),.pointer (some ⟨b3,0,none⟩)]] W3 fun e w'=>∃ g cap h,e = .returned (.slice (some ⟨g,0,none⟩) (n+p:Nat) cap)∧n+p≤cap∧MatI w' W3.heap.size g (n+p) h (sumM n (entry ra) (entry rb))∧Ext W3 w'):=by
     obtain ⟨h1,_,hsa,_⟩:=zCp HKa.out
     obtain ⟨_,_,hsb,_⟩:=zCp HKb.out
     have h:=squareSum_any (n+p) b8 b2 b3 (sumM n (entry ra) (entry rb)) W3 (by have:=HNa.out;omega) om (fun i j W hi hj hx=>sumEnt A B n p c d ra rb b8 b2 b3 i j W HNa.out HNb.out (HRa.out.ext (HX3.out.trans hx)) (HRb.out.ext (HX3.out.trans hx)) HFa.out HFb.out (by rw [HNa.out];exact hsa) (by rw [HNb.out];exact hsb) (HK8.out.ext hx) (HK23.out.ext hx) (HK33.out.ext hx) hi hj om)
     rw [Int.natCast_add] at h
     exact h
    go_wp2_with (go_at_call 50;refine HSq.out.mono ?_;rintro e w4 ⟨g,cap,h,rfl,hcap,hM,hx⟩;have HX4:=zH (HX3.out.trans hx);have HM:=zH hM;clear hx hM)
    have HF:R (.returned (.tuple #[.slice (some ⟨g,0,none⟩) (n+p:Nat) cap,.int .i64 0])) w4:=by
     rw [← HR.out]
     have hm:=HM.out
     exact ⟨HX4.out,Or.inr ⟨HKa.out,HKb.out,h8,g,cap,h,rfl,hcap,hm.rows,hm.row,hm.inj,fun i hi=>Nat.le_trans HX3.out.size (hm.low i hi),Nat.le_trans HX3.out.size hm.glow,hm.typ⟩⟩
    first
    | exact HF
   ·have h8i:((n:Int)+(p:Int) > 8):=by omega
    go_upto_region 4 with (go_at_call 49;refine (HCa.out _ HX0.out).mono ?_;rintro e w1 ⟨rfl,hx⟩;have HX1:=zH (HX0.out.trans hx);have HK21:=zH (HK2.out.ext hx);have HK31:=zH (HK3.out.ext hx);clear hx c2 f2 c3 f3 l2 l3)
    obtain ⟨c2,f2⟩:=HK21.out.one
    obtain ⟨c3,f3⟩:=HK31.out.one
    have l2:=HK21.out.lt
    have l3:=HK31.out.lt
    clear HCa
    go_upto_region 7 with (go_at_call 49;refine (HCb.out _ HX1.out).mono ?_;rintro e w2 ⟨rfl,hx⟩;have HX2:=zH (HX1.out.trans hx);have HK22:=zH (HK21.out.ext hx);have HK32:=zH (HK31.out.ext hx);clear hx c2 f2 c3 f3 l2 l3)
    obtain ⟨c2,f2⟩:=HK22.out.one
    obtain ⟨c3,f3⟩:=HK32.out.one
    have l2:=HK22.out.lt
    have l3:=HK32.out.lt
    clear HCb
    go_wp2
    have HF:∀ w4,Ext w2 w4→R (.returned (.tuple #[.slice none 0 0,.int .i64 5])) w4:=fun w4 hx=>by
     rw [← HR.out]
     exact ⟨HX2.out.trans hx,Or.inl ⟨fun h=>h8 h.2.2,5,by decide,rfl⟩⟩
    first
    | exact HF _ ((Ext.refl _).alloc _)
  ·go_upto_region 4 with (go_at_call 49;refine (HCa.out _ HX0.out).mono ?_;rintro e w1 ⟨rfl,hx⟩;have HX1:=zH (HX0.out.trans hx);have HK21:=zH (HK2.out.ext hx);have HK31:=zH (HK3.out.ext hx);clear hx c2 f2 c3 f3 l2 l3)
   obtain ⟨c2,f2⟩:=HK21.out.one
   obtain ⟨c3,f3⟩:=HK31.out.one
   have l2:=HK21.out.lt
   have l3:=HK31.out.lt
   clear HCa
   go_wp2_with (go_at_call 49;refine (HCb.out _ HX1.out).mono ?_;rintro e w2 ⟨rfl,hx⟩;have HX2:=zH (HX1.out.trans hx);clear hx)
   have HF:R (.returned (.tuple #[.slice none 0 0,.int .i64 kb])) w2:=by
    rw [← HR.out]
    exact ⟨HX2.out,Or.inl ⟨fun h=>hb (HKb.out.symm.trans h.2.1),kb,hb,rfl⟩⟩
   first
   | exact HF
 ·go_wp2_with (go_at_call 49;refine (HCa.out _ HX0.out).mono ?_;rintro e w1 ⟨rfl,hx⟩;have HX1:=zH (HX0.out.trans hx);clear hx)
  have HF:R (.returned (.tuple #[.slice none 0 0,.int .i64 ka])) w1:=by
   rw [← HR.out]
   exact ⟨HX1.out,Or.inl ⟨fun h=>ha (HKa.out.symm.trans h.1),ka,ha,rfl⟩⟩
  first
  | exact HF
theorem sm_cut {n p:Nat} {f:Nat→Int} (h:∀ i,n≤i→i < n+p→f i=0):sm (n+p) f=sm n f:=by
 induction p with
 | zero=>rfl
 | succ p ih =>
  show sm (n+p) f+f (n+p)=_
  rw [ih fun i h1 h2=>h i h1 om,h (n+p) om om,Int.add_zero]
def behindB (n:Nat) (y:List Int):Bool:=(y.drop n).any fun v=>decide (v≠0)
theorem yAA {n p:Nat} {y:List Int} (hy:y.length=n+p):behindB n y=false↔∀ i,n≤i→i < n+p→vat y i=0:=by
 unfold behindB
 rw [List.any_eq_false]
 constructor
 ·intro h i h1 h2
  have:=h (vat y i) (by
   rw [List.mem_iff_getElem?]
   exact ⟨i - n,by rw [List.getElem?_drop,show n+(i - n)=i by omega,List.getElem?_eq_getElem om];unfold vat;rw [List.getElem?_eq_getElem om];rfl⟩)
  simpa using this
 ·intro h x hx
  obtain ⟨j,hj⟩:=List.mem_iff_getElem?.1 hx
  rw [List.getElem?_drop] at hj
  have h1:n+j < y.length:=(List.getElem?_eq_some_iff.1 hj).1
  have:=h (n+j) om om
  unfold vat at this
  rw [hj] at this
  simpa using this
theorem vat_take {y:List Int} {n i:Nat} (h:i < n):vat (y.take n) i=vat y i:=by
 unfold vat;rw [List.getElem?_take_of_lt h]
theorem qf_sum {n p:Nat} {f fa fb:Nat→Nat→Int} {y:List Int} (hf:∀ i j,i < n+p→j < n+p→f i j=sumM n fa fb i j) (h0:∀ i,n≤i→i < n+p→vat y i=0):qf (n+p) f (vat y)=qf n fa (vat (y.take n)):=by
 unfold qf bf
 rw [sm_cut fun i h1 h2=>by rw [h0 i h1 h2,Int.zero_mul]]
 refine zAC fun i hi=>?_
 rw [sm_cut fun j h1 h2=>by rw [h0 j h1 h2,Int.mul_zero],vat_take hi]
 congr 1
 refine zAC fun j hj=>?_
 rw [hf i j om om,vat_take hj]
 unfold sumM
 rw [if_pos ⟨hi,hj⟩]
theorem zeros_behind {n p:Nat} {y:List Int} (hy:y.length=n+p) (h0:∀ i,n≤i→i < n+p→vat y i=0):y=y.take n ++ List.replicate p 0:=by
 refine vec_ext hy (by simp [hy]) fun i hi=>?_
 unfold vat
 by_cases h:i < n
 ·rw [List.getElem?_append_left (by simp [hy];omega),List.getElem?_take_of_lt h]
 ·have h1:=h0 i om hi
  rw [List.getElem?_append_right (by simp [hy];omega),List.getElem?_replicate]
  simp only [List.length_take,hy]
  unfold vat at h1
  rw [h1,if_pos om];rfl
theorem yAD (x:List Int) (p:Nat):firstP (x ++ List.replicate p 0)=firstP x:=by
 induction x with
 | nil =>
  induction p with
  | zero=>rfl
  | succ p ih=>rw [List.replicate_succ];show (if (0:Int)=0 then firstP ([] ++ List.replicate p 0) else _)=_;rw [if_pos rfl];exact ih
 | cons a x ih=>show (if a=0 then firstP (x ++ List.replicate p 0) else _)=_;rw [ih];rfl
theorem lexC_app {x y z:List Int} (h:x.length=y.length):lexC (x ++ z) (y ++ z)=lexC x y:=by
 induction x generalizing y with
 | nil=>rw [List.eq_nil_of_length_eq_zero h.symm];exact lexC_self z
 | cons a x ih =>
  cases y with
  | nil=>simp at h
  | cons b y =>
   show (if a < b then -1 else if b < a then 1 else lexC (x ++ z) (y ++ z))=_
   rw [ih (by simpa using h)]
   rfl
theorem shorts_sum {n p:Nat} {f fa fb:Nat→Nat→Int} {nb:Int} {L:List (List Int × Int)} (hf:∀ i j,i < n+p→j < n+p→f i j=sumM n fa fb i j) (hL:Shorts (n+p) f nb L):Shorts n fa nb ((L.filter fun q=>!behindB n q.1).map fun q=>(q.1.take n,q.2)):=by
 have hlen:∀ q,q∈L→q.1.length=n+p:=fun q hq=>((hL.mem q.1 q.2).1 hq).1
 have hz:∀ q,q∈L.filter (fun q=>!behindB n q.1)→q.1=q.1.take n ++ List.replicate p 0:=fun q hq=>by
  obtain ⟨h1,h2⟩:=List.mem_filter.1 hq
  exact zeros_behind (hlen q h1) ((yAA (hlen q h1)).1 (by simpa using h2))
 refine ⟨?_,fun y z=>?_⟩
 ·rw [List.pairwise_map]
  refine List.Pairwise.imp_of_mem (fun {a b} ha hb h=>?_) (hL.sorted.sublist List.filter_sublist)
  have h1:=hz a ha
  have h2:=hz b hb
  have l1:=hlen a (List.mem_filter.1 ha).1
  have l2:=hlen b (List.mem_filter.1 hb).1
  unfold lexL at h ⊢
  rw [h1,h2,lexC_app (by simp [l1,l2])] at h
  exact h
 ·rw [List.mem_map]
  constructor
  ·rintro ⟨q,hq,e⟩
   obtain ⟨h1,h2⟩:=List.mem_filter.1 hq
   obtain ⟨h3,h4,h5,h6⟩:=(hL.mem q.1 q.2).1 h1
   have h0:=(yAA h3).1 (by simpa using h2)
   cases e
   refine ⟨by simp [h3],?_,h5,?_⟩
   ·rw [h4,qf_sum hf h0]
   ·rw [hz q hq,yAD] at h6;exact h6
  ·rintro ⟨h1,h2,h3,h4⟩
   have hl:(y ++ List.replicate p 0).length=n+p:=by simp [h1]
   have htk:(y ++ List.replicate p 0).take n=y:=by rw [← h1];simp
   have h0:∀ i,n≤i→i < n+p→vat (y ++ List.replicate p 0) i=0:=fun i hi hip=>by
    unfold vat
    rw [List.getElem?_append_right om,List.getElem?_replicate,if_pos om];rfl
   refine ⟨(y ++ List.replicate p 0,z),List.mem_filter.2 ⟨(hL.mem _ _).2 ⟨hl,?_,h3,by rw [yAD];exact h4⟩,by simpa using (yAA hl).2 h0⟩,by simp [htk]⟩
   rw [qf_sum hf h0,htk];exact h2
theorem yAF {rows:List (List Int)} (hc:chk rows=0) {i j:Nat} (hi:i < rows.length) (hj:j < rows.length):(entry rows i j).natAbs≤16384:=(zC2 hc).small i j hi hj
theorem rowsOf_fit {w:World} {lo g n p:Nat} {h:Nat→Nat} {ra rb:List (List Int)} (hM:MatI w lo g (n+p) h (sumM n (entry ra) (entry rb))) (hca:chk ra=0) (hcb:chk rb=0) (hn:n=ra.length:=by assumption) (hp:p=rb.length:=by assumption):Fit64 (rowsOf (n+p) (sumM n (entry ra) (entry rb))):=by
 have ha:=(zCp hca).2.1
 have hb:=(zCp hcb).2.1
 refine ⟨by rw [rowsOf_len];omega,fun l hl=>⟨by rw [rowsOf_sq l hl];omega,fun z hz=>?_⟩⟩
 unfold rowsOf at hl
 obtain ⟨i,hi,rfl⟩:=List.mem_map.1 hl
 obtain ⟨j,hj,rfl⟩:=List.mem_map.1 hz
 have hi':=List.mem_range.1 hi
 have hj':=List.mem_range.1 hj
 unfold sumM
 split
 ·have:=yAF hca (i:=i) (j:=j) om om;omega
 ·split
  ·have:=yAF hcb (i:=i - n) (j:=j - n) om om;omega
  ·omega
theorem vat_out {v:List Int} {i:Nat} (h:v.length≤i):vat v i=0:=by
 unfold vat;rw [List.getElem?_eq_none h];rfl
def keyV (v:List Int):Value:=.agg #[.int .i64 (vat v 0),.int .i64 (vat v 1),.int .i64 (vat v 2),.int .i64 (vat v 3),.int .i64 (vat v 4),.int .i64 (vat v 5),.int .i64 (vat v 6),.int .i64 (vat v 7)]
theorem Tryz.sizeI64:(Tryz.prog.info? 2).map (·.size)=some 1:=by kernel_rfl
theorem key_splice {v:List Int} {n:Nat} (hv:v.length=n) (hn:n≤8) :
  splice [Value.int .i64 0,.int .i64 0,.int .i64 0,.int .i64 0,.int .i64 0,.int .i64 0,.int .i64 0,.int .i64 0] 0 ((List.range n).map fun j=>Value.int .i64 (vat v j))=[Value.int .i64 (vat v 0),.int .i64 (vat v 1),.int .i64 (vat v 2),.int .i64 (vat v 3),.int .i64 (vat v 4),.int .i64 (vat v 5),.int .i64 (vat v 6),.int .i64 (vat v 7)]:=by
 have e:[Value.int .i64 (vat v 0),.int .i64 (vat v 1),.int .i64 (vat v 2),.int .i64 (vat v 3),.int .i64 (vat v 4),.int .i64 (vat v 5),.int .i64 (vat v 6),.int .i64 (vat v 7)]=(List.range 8).map fun j=>Value.int .i64 (vat v j):=rfl
 rw [e]
 have e0:[Value.int .i64 0,.int .i64 0,.int .i64 0,.int .i64 0,.int .i64 0,.int .i64 0,.int .i64 0,.int .i64 0]=List.replicate 8 (Value.int .i64 0):=rfl
 rw [e0]
 generalize hz:Value.int .i64 0=z
 unfold splice
 apply List.ext_getElem
 ·simp;omega
 ·intro i h1 h2
  simp only [List.length_map,List.length_range] at h2
  simp only [List.take_zero,List.nil_append]
  by_cases h:i < n
  ·rw [List.getElem_append_left (by simpa using h)]
   simp
  ·rw [List.getElem_append_right (by simpa using h)]
   simp [-List.reduceReplicate,vat_out (v:=v) (i:=i) om,hz]
set_option maxHeartbeats 2000000 in
set_option maxRecDepth 100000 in
theorem keyO_any (b off n c:Nat) (v:List Int) (w:World) (hr:∀ j,j < n→w.cell? ⟨b,off+j,none⟩=some (.int .i64 (vat v j))) (hv:v.length=n) (hn:n≤8) :
  Calls Tryz.prog 19 #[.slice (some ⟨b,off,none⟩) n c] w fun e w'=>e = .returned (keyV v)∧Ext w w':=by
 obtain ⟨W2,hW2⟩:∃ W2,(w.alloc (.cells #[.int .i64 0,.int .i64 0,.int .i64 0,.int .i64 0,.int .i64 0,.int .i64 0,.int .i64 0,.int .i64 0] 34)).alloc (.cells #[.int .i64 0,.int .i64 0,.int .i64 0,.int .i64 0,.int .i64 0,.int .i64 0,.int .i64 0,.int .i64 0] 34)=W2:=⟨_,rfl⟩
 obtain ⟨b2,hb2⟩:∃ b,w.heap.size=b:=⟨_,rfl⟩
 obtain ⟨b3,hb3⟩:∃ b,b2+1=b:=⟨_,rfl⟩
 have HX2:Hid (Ext w W2):=by rw [← hW2];exact ((Ext.refl _).alloc _).alloc _
 have HK2:Hid (Blk W2 b2 34 #[.int .i64 0,.int .i64 0,.int .i64 0,.int .i64 0,.int .i64 0,.int .i64 0,.int .i64 0,.int .i64 0]):=by rw [← hW2,← hb2];exact Blk.al (Blk.new _ _ _)
 have HK3:Hid (Blk W2 b3 34 #[.int .i64 0,.int .i64 0,.int .i64 0,.int .i64 0,.int .i64 0,.int .i64 0,.int .i64 0,.int .i64 0]):=by rw [← hW2,← hb3,← hb2];exact Blk.at (by simp)
 have HRow:=zH (fun j (h:j < n)=>HX2.out.cell (hr j h))
 have HV:=zH hv
 have hb2w:w.heap.size≤b2:=by omega
 clear hr hv
 go_enter Tryz.func19,Tryz.ntmps19
 go_upto_region 2 with (fail)
 go_wp2_with (refine wpList_copy_splice rfl (.tmp 4) (.tmp 5) 31 31 rfl 2 Tryz.underlying31 Tryz.sizeI64 (some ⟨b3,0,none⟩) (some ⟨b,off,none⟩) 8 8 n c rfl rfl b3 0 [.int .i64 0,.int .i64 0,.int .i64 0,.int .i64 0,.int .i64 0,.int .i64 0,.int .i64 0,.int .i64 0] 34 HK3.out ((List.range n).map fun j=>Value.int .i64 (vat v j)) (by simp only [List.length_map,List.length_range];exact (Nat.min_eq_left hn).symm) ?c1 (by simp only [List.length_map,List.length_range,List.length_cons,List.length_nil];omega) ?c2 b3 W2 (Below.refl _ _) (Nat.le_refl _) ?_)
 case c1 =>
  intro _ j a hj
  obtain ⟨h1,h2⟩:=List.getElem?_eq_some_iff.1 hj
  simp only [List.length_range] at h1
  rw [List.getElem_range] at h2
  subst h2
  exact HRow.out j h1
 case c2=>(intro u hu;first|(obtain ⟨x,_,rfl⟩:=List.mem_map.1 hu;rfl)|(obtain ⟨x,_,rfl⟩:=hu;rfl))
 intro w3 hk hbl
 rw [key_splice HV.out hn] at hk
 have HK:Hid (Blk w3 b3 34 #[.int .i64 (vat v 0),.int .i64 (vat v 1),.int .i64 (vat v 2),.int .i64 (vat v 3),.int .i64 (vat v 4),.int .i64 (vat v 5),.int .i64 (vat v 6),.int .i64 (vat v 7)]):=hk.out
 have HX3:Hid (Ext w w3):=(show Below w.heap.size w w3 from Below.trans HX2.out (Below.mono hbl om))
 have HK23:Hid (Blk w3 b2 34 #[.int .i64 0,.int .i64 0,.int .i64 0,.int .i64 0,.int .i64 0,.int .i64 0,.int .i64 0,.int .i64 0]):=(Below.block hbl b2 om).trans HK2.out
 obtain ⟨x0,h0⟩:∃ z,vat v 0=z:=⟨_,rfl⟩
 obtain ⟨x1,h1⟩:∃ z,vat v 1=z:=⟨_,rfl⟩
 obtain ⟨x2,h2⟩:∃ z,vat v 2=z:=⟨_,rfl⟩
 obtain ⟨x3,h3⟩:∃ z,vat v 3=z:=⟨_,rfl⟩
 obtain ⟨x4,h4⟩:∃ z,vat v 4=z:=⟨_,rfl⟩
 obtain ⟨x5,h5⟩:∃ z,vat v 5=z:=⟨_,rfl⟩
 obtain ⟨x6,h6⟩:∃ z,vat v 6=z:=⟨_,rfl⟩
 obtain ⟨x7,h7⟩:∃ z,vat v 7=z:=⟨_,rfl⟩
 have HKV:Hid (keyV v = .agg #[.int .i64 x0,.int .i64 x1,.int .i64 x2,.int .i64 x3,.int .i64 x4,.int .i64 x5,.int .i64 x6,.int .i64 x7]):=by
  unfold keyV;rw [h0,h1,h2,h3,h4,h5,h6,h7];exact zH rfl
 rw [h0,h1,h2,h3,h4,h5,h6,h7] at HK
 have hne:b2≠b3:=by omega
 have c0:=HK.out.cell 0 rfl
 have d0:=HK23.out.cell 0 rfl
 have e0:=HK.out.free 0
 have g0:=HK23.out.free 0
 have c1:=HK.out.cell 1 rfl
 have d1:=HK23.out.cell 1 rfl
 have e1:=HK.out.free 1
 have g1:=HK23.out.free 1
 have c2:=HK.out.cell 2 rfl
 have d2:=HK23.out.cell 2 rfl
 have e2:=HK.out.free 2
 have g2:=HK23.out.free 2
 have c3:=HK.out.cell 3 rfl
 have d3:=HK23.out.cell 3 rfl
 have e3:=HK.out.free 3
 have g3:=HK23.out.free 3
 have c4:=HK.out.cell 4 rfl
 have d4:=HK23.out.cell 4 rfl
 have e4:=HK.out.free 4
 have g4:=HK23.out.free 4
 have c5:=HK.out.cell 5 rfl
 have d5:=HK23.out.cell 5 rfl
 have e5:=HK.out.free 5
 have g5:=HK23.out.free 5
 have c6:=HK.out.cell 6 rfl
 have d6:=HK23.out.cell 6 rfl
 have e6:=HK.out.free 6
 have g6:=HK23.out.free 6
 have c7:=HK.out.cell 7 rfl
 have d7:=HK23.out.cell 7 rfl
 have e7:=HK.out.free 7
 have g7:=HK23.out.free 7
 have l2:=HK23.out.lt
 have l3:=HK.out.lt
 clear hk hbl HX2 HK2 HK3 HRow hW2 hb2 hb3 h0 h1 h2 h3 h4 h5 h6 h7
 go_wp2
 obtain ⟨V,hV⟩:∃ V,((((((((w3.setCell ⟨b2,0,none⟩ (.int .i64 x0)).setCell ⟨b2,1,none⟩ (.int .i64 x1)).setCell ⟨b2,2,none⟩ (.int .i64 x2)).setCell ⟨b2,3,none⟩ (.int .i64 x3)).setCell ⟨b2,4,none⟩ (.int .i64 x4)).setCell ⟨b2,5,none⟩ (.int .i64 x5)).setCell ⟨b2,6,none⟩ (.int .i64 x6)).setCell ⟨b2,7,none⟩ (.int .i64 x7))=V:=⟨_,rfl⟩
 have hk:Blk V b2 34 #[.int .i64 x0,.int .i64 x1,.int .i64 x2,.int .i64 x3,.int .i64 x4,.int .i64 x5,.int .i64 x6,.int .i64 x7]:=by rw [← hV];exact ((((((((HK23.out.set 0 _).set 1 _).set 2 _).set 3 _).set 4 _).set 5 _).set 6 _).set 7 _)
 have hx:Ext w V:=by rw [← hV];exact (Ext.setCell (p:=⟨b2,7,none⟩) (Ext.setCell (p:=⟨b2,6,none⟩) (Ext.setCell (p:=⟨b2,5,none⟩) (Ext.setCell (p:=⟨b2,4,none⟩) (Ext.setCell (p:=⟨b2,3,none⟩) (Ext.setCell (p:=⟨b2,2,none⟩) (Ext.setCell (p:=⟨b2,1,none⟩) (Ext.setCell (p:=⟨b2,0,none⟩) HX3.out hb2w _) hb2w _) hb2w _) hb2w _) hb2w _) hb2w _) hb2w _) hb2w _)
 rw [hV]
 have q0:=hk.cell 0 rfl
 have q1:=hk.cell 1 rfl
 have q2:=hk.cell 2 rfl
 have q3:=hk.cell 3 rfl
 have q4:=hk.cell 4 rfl
 have q5:=hk.cell 5 rfl
 have q6:=hk.cell 6 rfl
 have q7:=hk.cell 7 rfl
 exact bodyPost_ret (v:=.agg #[.int .i64 x0,.int .i64 x1,.int .i64 x2,.int .i64 x3,.int .i64 x4,.int .i64 x5,.int .i64 x6,.int .i64 x7]) (by simp [results,Tryz.results19,go_sem,q0,q1,q2,q3,q4,q5,q6,q7]) rfl ⟨by rw [HKV.out],hx⟩
theorem key_any (b n:Nat) (v:List Int) (w:World) (hr:NRow w b n (vat v)) (hv:v.length=n) (hn:n≤8) :
  Calls Tryz.prog 19 #[.slice (some ⟨b,0,none⟩) n n] w fun e w'=>e = .returned (keyV v)∧Ext w w':=keyO_any b 0 n n v w (fun j hj=>by rw [Nat.zero_add];exact hr.cell j hj) hv hn
theorem plain_i64:Tryz.prog.plainKey 2=true:=by kernel_rfl
theorem eqItems_same (w:World) (xs:Array Value):∀ (is:List Nat),(∀ i,i∈is→∃ z,xs[i*1]? = some (.int .i64 z))→(Op.eqItems 9999 2 1 xs xs is).run Tryz.prog w = .ok true w:=by
 intro is
 induction is with
 | nil=>intro _;simp [Op.eqItems]
 | cons i is ih =>
  intro h
  obtain ⟨z,hz⟩:=h i (List.mem_cons_self ..)
  have hp:=run_part_plain (P:=Tryz.prog) (w:=w) plain_i64 hz
  have he:=run_equalIn_int (P:=Tryz.prog) w 9998 2 .i64 .i64 z z Tryz.underlying2
  simp only [Op.eqItems,Sem.run_bind,hp,Result.andThen_ok]
  rw [show (9999:Nat)=9998+1 from rfl,he]
  simp only [Result.andThen_ok,beq_self_eq_true,Bool.not_true,Bool.false_eq_true,if_false]
  exact ih fun j hj=>h j (List.mem_cons_of_mem _ hj)
theorem eq_keys (w:World) (x0 x1 x2 x3 x4 x5 x6 x7:Int):(Op.equalIn 10000 34 (.agg #[.int .i64 x0,.int .i64 x1,.int .i64 x2,.int .i64 x3,.int .i64 x4,.int .i64 x5,.int .i64 x6,.int .i64 x7]) (.agg #[.int .i64 x0,.int .i64 x1,.int .i64 x2,.int .i64 x3,.int .i64 x4,.int .i64 x5,.int .i64 x6,.int .i64 x7])).run Tryz.prog w = .ok true w:=by
 obtain ⟨i0,hi,hz0,hz1,hz2⟩:=info_parts Tryz.infoI
 rw [show (10000:Nat)=9999+1 from rfl,run_equalIn_array w 9999 _ _ Tryz.underlying34 hi,show Tryz.prog.cellsOf 2=1 by simp [Program.cellsOf,hi,hz1]]
 refine eqItems_same w _ _ fun i hi=>?_
 have:=List.mem_range.1 hi
 match i,this with
 | 0,_=>exact ⟨_,rfl⟩
 | 1,_=>exact ⟨_,rfl⟩
 | 2,_=>exact ⟨_,rfl⟩
 | 3,_=>exact ⟨_,rfl⟩
 | 4,_=>exact ⟨_,rfl⟩
 | 5,_=>exact ⟨_,rfl⟩
 | 6,_=>exact ⟨_,rfl⟩
 | 7,_=>exact ⟨_,rfl⟩
theorem keyV_ext {x y:List Int} (h:∀ i,i < 8→vat x i=vat y i):keyV x=keyV y:=by
 unfold keyV
 rw [h 0 om,h 1 om,h 2 om,h 3 om,h 4 om,h 5 om,h 6 om,h 7 om]
def keepF (n i:Nat) (bs:List SV):List SV:=(bs.take i).filter fun q=>!behindB n q.2.1
theorem keepF_succ {n i:Nat} {bs:List SV} {q:SV} (h:bs[i]? = some q):keepF n (i+1) bs=keepF n i bs ++ (if behindB n q.2.1=true then [] else [q]):=by
 unfold keepF
 rw [List.take_add_one,h,List.filter_append]
 congr 1
 cases hb:behindB n q.2.1 <;> simp [hb]
theorem keepF_le (n i:Nat) (bs:List SV):(keepF n i bs).length≤bs.length:=Nat.le_trans (List.length_filter_le _ _) (by simp;omega)
theorem keepF_mem {n i:Nat} {bs:List SV} {q:SV} (h:q∈keepF n i bs):q∈bs∧behindB n q.2.1=false:=by
 obtain ⟨h1,h2⟩:=List.mem_filter.1 h
 exact ⟨List.mem_of_mem_take h1,by simpa using h2⟩
theorem own_cells {w:World} {base g c k:Nat} {t:TypeId} {xs:List Value} (ho:w.ownsRow base t 2 (.slice (some ⟨g,0,none⟩) k c) k xs) {j:Nat} {u:Value} (hu:xs[j]? = some u):w.cell? ⟨g,j,none⟩=some u:=by
 rw [← ho.cells (g:=g) rfl j u hu]
 unfold Addr.add
 split
 ·subst_vars;rfl
 ·simp
def behJ (n:Nat) (y:List Int) (j:Nat):Bool:=((y.drop n).take j).any fun v=>decide (v≠0)
theorem behJ_succ {n j:Nat} {y:List Int} (h:n+j < y.length):behJ n y (j+1)=(behJ n y j || decide (vat y (n+j)≠0)):=by
 unfold behJ
 rw [List.take_add_one,List.getElem?_drop,List.getElem?_eq_getElem h,List.any_append]
 unfold vat
 rw [List.getElem?_eq_getElem h]
 simp
theorem behJ_all {n p:Nat} {y:List Int} (h:y.length=n+p):behJ n y p=behindB n y:=by
 unfold behJ behindB
 rw [List.take_of_length_le (by simp [h])]
set_option maxHeartbeats 8000000 in
set_option maxRecDepth 100000 in
theorem shortSums_any (A B:Option Addr) (n p c d:Nat) (ra rb:List (List Int)) (nb:Int) (w:World) (hn:n=ra.length) (hp:p=rb.length) (hra:IsRows w A ra) (hrb:IsRows w B rb) (hfa:Fit64 ra) (hfb:Fit64 rb) (hb0:-9223372036854775808≤nb) (hb1:nb≤9223372036854775807) :
  Calls Tryz.prog 3 #[.slice A n c,.slice B p d,.int .i64 nb] w fun e w'=>e = .returned (.bool true)∧Ext w w':=by
 have HW:=zH works15_any
 have HBa:=zH (fun W (hx:Ext w W)=>beyond_any A n c ra W hn (hra.ext hx) hfa)
 have HBb:=zH (fun W (hx:Ext w W)=>beyond_any B p d rb W hp (hrb.ext hx) hfb)
 have HSum:=zH (fun W (hx:Ext w W)=>gramSum_any A B n p c d ra rb W hn hp (hra.ext hx) (hrb.ext hx) hfa hfb)
 have HAll:=zH (fun W (hx:Ext w W)=>yAC A n c ra nb W hn (hra.ext hx) hfa hb0 hb1)
 have hn64:n≤140737488351232:=by rw [hn];exact hfa.1
 have hp64:p≤140737488351232:=by rw [hp];exact hfb.1
 have HNa:=zH hn
 have HNb:=zH hp
 clear hn hp hra hrb hfa hfb
 obtain ⟨R,hR⟩:∃ R:Ending→World→Prop,(fun e w'=>e = .returned (.bool true)∧Ext w w')=R:=⟨_,rfl⟩
 have HR:Hid (∀ w',Ext w w'→R (.returned (.bool true)) w'):=fun w' h=>by rw [← hR];exact ⟨rfl,h⟩
 rw [hR]
 clear hR
 go_enter Tryz.func3,Tryz.ntmps3
 go_wp2_with (fail)
 refine (HW.out _).mono ?_
 rintro e w1 ⟨rfl,hx⟩
 have HX1:=zH hx
 clear hx
 go_wp2_with (fail)
 refine (HBa.out _ HX1.out).mono ?_
 rintro e w2 ⟨ba,rfl,rfl⟩
 cases ba with
 | true =>
  go_wp2_with (fail)
  refine (HW.out _).mono ?_
  rintro e w3 ⟨rfl,hx⟩
  have HX3:=zH (HX1.out.trans hx)
  clear hx
  go_wp2
  first
  | exact HR.out _ HX3.out
 | false =>
 go_wp2_with (fail)
 refine (HBb.out _ HX1.out).mono ?_
 rintro e w3 ⟨bb,rfl,rfl⟩
 cases bb with
 | true =>
  go_wp2_with (fail)
  refine (HW.out _).mono ?_
  rintro e w3 ⟨rfl,hx⟩
  have HX3:=zH (HX1.out.trans hx)
  clear hx
  go_wp2
  first
  | exact HR.out _ HX3.out
 | false =>
 clear HBa HBb HW
 go_wp2_with (fail)
 refine (HSum.out _ HX1.out).mono ?_
 rintro e w4 ⟨hx,⟨_,z,hz,rfl⟩|⟨hca,hcb,h8,g,cap,h,rfl,hcap,hM⟩⟩
 ·have HX4:=zH (HX1.out.trans hx)
  clear hx
  go_wp2
  first
  | exact HR.out _ HX4.out
 have HX4:=zH (HX1.out.trans hx)
 have HCa:=zH hca
 have HAs:=zH (yAC (some ⟨g,0,none⟩) (n+p) cap (rowsOf (n+p) (sumM n (entry ra) (entry rb))) nb w4 (rowsOf_len _ _).symm hM.is (rowsOf_fit hM hca hcb HNa.out HNb.out) hb0 hb1)
 have hp1:1≤p:=by have:=(zCp hcb).1;have:=HNb.out;omega
 have hn1':1≤n:=by have:=(zCp hca).1;have:=HNa.out;omega
 clear hx hca hcb hM HSum
 go_wp2_with (fail)
 refine HAs.out.mono ?_
 rintro e w5 ⟨hx,As,K,cs,zs,rfl,h2,h3⟩
 have HX5:=zH (HX4.out.trans hx)
 have HT:=zH h2
 clear hx h2 h3 HAs
 go_wp2_with (fail)
 refine (HAll.out _ HX5.out).mono ?_
 rintro e w6 ⟨hx,Al,k,cl,zl,rfl,h2,h3⟩
 have HX6:=zH (HX5.out.trans hx)
 have HX56:=zH hx
 rcases HT.out with ⟨hz,rfl,rfl,rfl⟩|⟨rfl,hcs,hn0,hn1,bs,rfl,hk8,hS,hL⟩
 ·clear hx h2 h3
  go_wp2
  first
  | exact HR.out _ HX6.out
 have hmf:∀ i j,i < n+p→j < n+p→entry (rowsOf (n+p) (sumM n (entry ra) (entry rb))) i j=sumM n (entry ra) (entry rb) i j:=fun i j hi hj=>rowsOf_entry hi hj
 have hSa:=shorts_sum hmf hS
 have hla:(((bs.map (·.2)).filter fun q=>!behindB n q.1).map fun q=>(q.1.take n,q.2)).length≤8192:=by
  rw [List.length_map]
  exact Nat.le_trans (List.length_filter_le _ _) (by simpa using hk8)
 obtain rfl:=h3 HCa.out hn0 hn1 ⟨_,hSa,hla⟩
 rcases h2 with ⟨h,_⟩|⟨_,_,_,_,bl,rfl,hkl,hSl,hLl⟩
 ·exact absurd rfl h
 have HEq:=zH (hSl.unique hSa)
 have HLs:=zH (hL.ext hx)
 have HLl:=zH hLl
 have HS:=zH hS
 have hKF:(keepF n bs.length bs).map (fun q=>(q.2.1.take n,q.2.2))=bl.map (·.2):=by
  rw [HEq.out,List.filter_map,List.map_map]
  unfold keepF
  rw [List.take_length]
  rfl
 have HKF:=zH hKF
 have hKl:(keepF n bs.length bs).length=bl.length:=by
  have:=congrArg List.length hKF
  simpa using this
 obtain ⟨m,hm⟩:∃ m,n+p=m:=⟨_,rfl⟩
 rw [hm] at HLs HS
 clear hx h3 HT hS hL hSa hla hSl hLl hcs hKF HX4 HX5 HX56 HAll hmf
 have hnm:n≤m:=by omega
 have hm8:m≤8:=by omega
 have hcap0:n+p=m:=hm
 clear hm
 go_wp2
 go_loopg [12,60] bs.length (fun kk v iv wk=>∃ i:Nat,kk+i=bs.length∧iv = .int .i64 i∧Hid (wk.ownsRow w6.heap.size 33 2 v (keepF n i bs).length ((keepF n i bs).flatMap (encS m)))∧Hid (Ext w6 wk))
 case atStart=>exact ⟨0,by omega,rfl,World.ownsRow_nil _ _ _ _,Ext.refl _⟩
 obtain ⟨i,hki,rfl,HO,HX⟩:=hrel
 by_cases hin:i < bs.length
 ·skip
  obtain ⟨gs,rfl,hcs2,hcell⟩:=HLs.out.slice rfl om
  obtain ⟨q,hq⟩:∃ q,bs[i]? = some q:=⟨_,List.getElem?_eq_getElem hin⟩
  have c0:=HX.out.cell (hcell i q hq).1
  have c1:=HX.out.cell (hcell i q hq).2
  have hmem:=List.mem_of_getElem? hq
  have HRow:=zH ((HLs.out.row q hmem).1.ext HX.out)
  have HLen:=zH (HLs.out.row q hmem).2.1
  have HQ:=zH hq
  have l0:=zAA c0
  simp only at l0
  have HKI:=zH hki
  clear hcell hmem hq hki
  go_upto_region 15 with (fail)
  obtain ⟨qb,hqb⟩:∃ z,q.1=z:=⟨_,rfl⟩
  obtain ⟨qz,hqz⟩:∃ z,q.2.2=z:=⟨_,rfl⟩
  rw [hqb] at c0 HRow
  rw [hqz] at c1
  have HQb:=zH hqb
  have HQz:=zH hqz
  obtain ⟨W1,hW1⟩:∃ W1,wr.alloc (.cells #[.slice (some ⟨qb,0,none⟩) m m,.int .i64 qz] 33)=W1:=⟨_,rfl⟩
  obtain ⟨b14,hb14⟩:∃ b,wr.heap.size=b:=⟨_,rfl⟩
  have hx1:Ext wr W1:=by rw [← hW1];exact (Ext.refl _).alloc _
  have HK14:Hid (Blk W1 b14 33 #[.slice (some ⟨qb,0,none⟩) m m,.int .i64 qz]):=by rw [← hW1,← hb14];exact Blk.new _ _ _
  have HX1w:=zH hx1
  have HXw:=zH (HX.out.trans hx1)
  have HRw:=zH (HRow.out.ext hx1)
  have HOw:Hid (W1.ownsRow w6.heap.size 33 2 u12 (keepF n i bs).length ((keepF n i bs).flatMap (encS m))):=zH (zAh HO.out hx1)
  (try rw [hqb])
  (try rw [hqz])
  (try rw [hW1])
  (try rw [hb14])
  clear hqb hqz hW1 hb14 hx1 HO HX HRow c0 c1 l0
  have c14:=HK14.out.cell 0 rfl
  have l14:=HK14.out.lt
  have hnmI:(n:Int)≤(m:Int):=by omega
  have hmn:m - n=p:=by omega
  have hmne:¬ m=n:=by omega
  go_wp2
  clear c14 l14
  go_loopg [15,70] p (fun kk bv jv wj=>∃ j:Nat,kk+j=p∧jv = .int .i64 j∧bv = .bool (behJ n q.2.1 j)∧wj=W1)
  case atStart=>exact ⟨0,by omega,rfl,by simp [behJ],rfl⟩
  obtain ⟨j,hkj,rfl,rfl,rfl⟩:=hrel
  obtain ⟨bj,hbj⟩:∃ b,behJ n q.2.1 j=b:=⟨_,rfl⟩
  have HBj:=zH hbj
  by_cases hjp:j < p
  ·skip
   rw [hbj]
   have cv:=HRw.out.cell (n+j) om
   obtain ⟨z,hz⟩:∃ z,vat q.2.1 (n+j)=z:=⟨_,rfl⟩
   rw [hz] at cv
   have HNx:=zH (by rw [behJ_succ (by rw [HLen.out];omega),hbj,hz]:behJ n q.2.1 (j+1)=(bj || decide (z≠0)))
   have lv:=zAA cv
   simp only at lv
   have HKJ:=zH hkj
   clear hbj hz hkj
   cases bj with
   | true =>
    go_wp2
    go_roundg (p - (j+1))
    case measure=>have:=HKJ.out;omega
    case rel=>exact ⟨j+1,by have:=HKJ.out;omega,by go_num,by rw [HNx.out];rfl,rfl⟩
   | false =>
    by_cases hz0:z=0
    ·subst hz0
     go_wp2
     go_roundg (p - (j+1))
     case measure=>have:=HKJ.out;omega
     case rel=>exact ⟨j+1,by have:=HKJ.out;omega,by go_num,by rw [HNx.out];rfl,rfl⟩
    ·go_wp2
     go_roundg (p - (j+1))
     case measure=>have:=HKJ.out;omega
     case rel=>exact ⟨j+1,by have:=HKJ.out;omega,by go_num,by rw [HNx.out];simp [hz0],rfl⟩
  ·skip
   obtain rfl:p=j:=by omega
   have HBq:=zH (by rw [← behJ_all (p:=p) (by rw [HLen.out];omega)];exact hbj:behindB n q.2.1=bj)
   have HKs:=zH (keepF_succ (n:=n) HQ.out)
   rw [hbj]
   clear hbj hkj HBj hjp
   cases bj with
   | true =>
    have hk1:keepF n (i+1) bs=keepF n i bs:=by rw [HKs.out,if_pos HBq.out,List.append_nil]
    go_wp2
    go_roundg (bs.length - (i+1))
    case measure=>have:=HKI.out;omega
    case rel=>exact ⟨i+1,by have:=HKI.out;omega,by go_num,by rw [hk1];exact HOw,HXw⟩
   | false =>
    have hk1:keepF n (i+1) bs=keepF n i bs ++ [q]:=by rw [HKs.out,if_neg (by rw [HBq.out];decide)]
    have HK1:=zH hk1
    obtain ⟨c0,g0,c1,g1⟩:=HK14.out.two
    have l14:=HK14.out.lt
    have hkf:=keepF_le n i bs
    obtain ⟨ii,hii,hz0',hz1',hz2'⟩:=info_parts Tryz.infoSh
    have hws:=HXw.out.size
    clear hk1
    go_wp2_with (at_builtin;go_loud (refine wpList_append_own _ rfl _ _ 28 rfl w6.heap.size 33 ii (.agg #[.slice none 0 0,.int .i64 0]) 2 32 Tryz.underlying28 hii hz0' hz1' hz2' rfl (by decide) _ _ _ rfl (HOw.out.alloc _) ⟨wr.heap.size,0,none⟩ 1 1 [.slice (some ⟨qb,0,none⟩) m m,.int .i64 qz] rfl rfl ?c1 ?c2 ?c3 ?c4 ?c5 ?_))
    case c1=>exact cell_two_new _ _ _ _
    case c2=>intro u hu;simp at hu;rcases hu with rfl|rfl <;> rfl
    case c3=>unfold maxLen;omega
    case c4=>omega
    case c5=>simp only [World.size_alloc];omega
    intro v' w9 hown' hgrow _
    have HO9:Hid (w9.ownsRow w6.heap.size 33 2 v' (keepF n (i+1) bs).length ((keepF n (i+1) bs).flatMap (encS m))):=by
     rw [HK1.out,List.length_append,List.flatMap_append,List.flatMap_cons,List.flatMap_nil,List.append_nil]
     unfold encS
     rw [HQb.out,HQz.out]
     exact hown'
    have HX9:Hid (Ext w6 w9):=(HXw.out.alloc _).grown hgrow (fun k hk=>(HOw.out.lt k hk).1)
    clear hown' hgrow hii hz0' hz1' hz2' HOw HXw c0 c1
    go_wp2
    go_roundg (bs.length - (i+1))
    case measure=>have:=HKI.out;omega
    case rel=>exact ⟨i+1,by have:=HKI.out;omega,by go_num,HO9,HX9⟩
 ·skip
  obtain rfl:bs.length=i:=by omega
  clear hki hin
  obtain ⟨Av,cv,hv12⟩:∃ A c,u12 = .slice A (keepF n bs.length bs).length c:=by
   rcases HO.out.2 with ⟨h,h0⟩|⟨g',cap',cur,h,_⟩
   ·exact ⟨none,0,by rw [h,h0]⟩
   ·exact ⟨_,_,h⟩
  subst hv12
  have HLl2:=zH (HLl.out.ext HX.out)
  have HX2:=zH (HX6.out.trans HX.out)
  go_wp2
  obtain ⟨W9,hW9⟩:∃ W9,W9=wr:=⟨_,rfl⟩
  subst hW9
  have HLs2:=zH (HLs.out.ext HX.out)
  go_loopg [98] bl.length (fun kk iv wk=>∃ i:Nat,kk+i=bl.length∧iv = .int .i64 i∧Hid (Ext W9 wk))
  case atStart=>exact ⟨0,by omega,rfl,Ext.refl _⟩
  obtain ⟨i,hki,rfl,HXi⟩:=hrel
  by_cases hin:i < bl.length
  ·skip
   obtain ⟨ql,hql⟩:∃ q,bl[i]? = some q:=⟨_,List.getElem?_eq_getElem hin⟩
   obtain ⟨qk,hqk⟩:∃ q,(keepF n bs.length bs)[i]? = some q:=⟨_,List.getElem?_eq_getElem om⟩
   have heq:(qk.2.1.take n,qk.2.2)=ql.2:=by
    have h:=congrArg (fun l:List (List Int × Int)=>l[i]?) HKF.out
    simp only [List.getElem?_map,hql,hqk,Option.map_some,Option.some.injEq] at h
    exact h
   obtain ⟨gl,rfl,hcl2,hcell⟩:=HLl2.out.slice rfl om
   obtain ⟨gs,rfl,hcs2⟩:∃ gs,Av=some ⟨gs,0,none⟩∧(keepF n bs.length bs).length≤cv:=by
    rcases HO.out.2 with ⟨h,h0⟩|⟨g',cap',cur,h,_,_,h5,_⟩
    ·omega
    ·cases h;exact ⟨_,rfl,h5⟩
   have c0:=HXi.out.cell (hcell i ql hql).1
   have c1:=HXi.out.cell (hcell i ql hql).2
   have hfl:=flat_get m _ i qk hqk
   have d0:=HXi.out.cell (own_cells HO.out hfl.1)
   have d1:=HXi.out.cell (own_cells HO.out hfl.2)
   have hrx:=HLl2.out.row ql (List.mem_of_getElem? hql)
   have hkm:=keepF_mem (List.mem_of_getElem? hqk)
   have hry:=HLs2.out.row qk hkm.1
   have hkey:keyV qk.2.1=keyV ql.2.1:=keyV_ext fun t ht=>by
    have e1:ql.2.1=qk.2.1.take n:=(congrArg Prod.fst heq).symm
    by_cases htn:t < n
    ·rw [e1,vat_take htn]
    ·rw [vat_out (v:=ql.2.1) (by rw [hrx.2.1];omega)]
     by_cases htm:t < m
     ·exact (yAA (p:=p) (by rw [hry.2.1];omega)).1 hkm.2 t om om
     ·exact vat_out (by rw [hry.2.1];omega)
   have hnorm:qk.2.2=ql.2.2:=by
    have h:=congrArg Prod.snd heq
    exact h
   rw [hnorm] at d1
   have HKx:=zH (fun W (hx:Ext wr W)=>key_any ql.1 n ql.2.1 W (hrx.1.ext (HXi.out.trans hx)) hrx.2.1 om)
   have HKy:=zH (fun W (hx:Ext wr W)=>key_any qk.1 m qk.2.1 W (hry.1.ext (HXi.out.trans hx)) hry.2.1 om)
   rw [hkey] at HKy
   unfold keyV at HKx HKy
   obtain ⟨xb,hxb⟩:∃ z,ql.1=z:=⟨_,rfl⟩
   obtain ⟨yb,hyb⟩:∃ z,qk.1=z:=⟨_,rfl⟩
   obtain ⟨zn,hzn⟩:∃ z,ql.2.2=z:=⟨_,rfl⟩
   rw [hxb] at c0 HKx
   rw [hyb] at d0 HKy
   rw [hzn] at c1 d1
   obtain ⟨x0,h0⟩:∃ z,vat ql.2.1 0=z:=⟨_,rfl⟩
   obtain ⟨x1,h1⟩:∃ z,vat ql.2.1 1=z:=⟨_,rfl⟩
   obtain ⟨x2,h2⟩:∃ z,vat ql.2.1 2=z:=⟨_,rfl⟩
   obtain ⟨x3,h3⟩:∃ z,vat ql.2.1 3=z:=⟨_,rfl⟩
   obtain ⟨x4,h4⟩:∃ z,vat ql.2.1 4=z:=⟨_,rfl⟩
   obtain ⟨x5,h5⟩:∃ z,vat ql.2.1 5=z:=⟨_,rfl⟩
   obtain ⟨x6,h6⟩:∃ z,vat ql.2.1 6=z:=⟨_,rfl⟩
   obtain ⟨x7,h7⟩:∃ z,vat ql.2.1 7=z:=⟨_,rfl⟩
   rw [h0,h1,h2,h3,h4,h5,h6,h7] at HKx HKy
   have l0:=zAA c0
   have l1:=zAA d0
   simp only at l0 l1
   have HKI:=zH hki
   have hEqK:=fun W=>eq_keys W x0 x1 x2 x3 x4 x5 x6 x7
   clear heq hcell hfl hrx hkm hry hkey hnorm hxb hyb hzn h0 h1 h2 h3 h4 h5 h6 h7 hql hqk hki
   rw [hKl] at *
   go_upto_region 28 with (fail)
   have HKeepT:=zH (fun (w':World) (hx:Ext wr w')=>(show w'.cell? ⟨gl,i*2,none⟩=some (.slice (some ⟨xb,0,none⟩) n n)∧w'.cell? ⟨gl,i*2+1,none⟩=some (.int .i64 zn)∧w'.cell? ⟨gs,i*2,none⟩=some (.slice (some ⟨yb,0,none⟩) m m)∧w'.cell? ⟨gs,i*2+1,none⟩=some (.int .i64 zn) from ⟨hx.cell c0,hx.cell c1,hx.cell d0,hx.cell d1⟩))
   refine rU HKeepT [] [] 26 (fun hH hC=>?_)
   revert hC
   refine tk 0 26 hH ?_
   refine tk 1 26 hH ?_
   refine tk 2 26 hH ?_
   refine tk 3 26 hH ?_
   refine tk 4 26 hH ?_
   refine tk 6 26 hH ?_
   refine tk 7 26 hH ?_
   refine tk 8 26 hH ?_
   refine tk 9 26 hH ?_
   refine tk 10 26 hH ?_
   intro hC
   refine zAB hC (i:=5) Sg kr (fun K hK=>?_)
   go_simp
   (go_at_call 19;with_reducible refine Calls.mono (HKx.out _ ?_) ?_;exact Ext.ua;rintro e w1 ⟨rfl,hx⟩;have hxN:Ext wr w1:=Ext.trans Ext.ua hx;have hxA:=hxN;clear hxN;clear hx)
   try go_wp2_with fail
   have hHeldN:=HKeepT.out w1 Ext.ua
   refine hK.out _ _ (fun _ _=>hHeldN) (fun hCn=>?_)
   clear hK K hH hC
   have hH:=hHeldN
   have hC:=hCn
   clear hHeldN hCn
   try simp only [Act.put,sA,sB,sC]
   refine zAB hC (i:=11) Sg kr (fun K hK=>?_)
   go_simp
   (go_at_call 19;with_reducible refine Calls.mono (HKy.out _ ?_) ?_;exact Ext.ua;rintro e w2 ⟨rfl,hx⟩;have hxN:Ext wr w2:=Ext.trans Ext.ua hx;(try clear hxA);have hxA:=hxN;clear hxN;clear hx)
   try go_wp2_with fail
   have hHeldN:=HKeepT.out w2 Ext.ua
   refine hK.out _ _ (fun _ _=>hHeldN) (fun hCn=>?_)
   clear hK K hH hC
   have hH:=hHeldN
   have hC:=hCn
   clear hHeldN hCn
   try simp only [Act.put,sA,sB,sC]
   revert hC
   refine tk 12 26 hH ?_
   refine tk 13 26 hH ?_
   refine tk 14 26 hH ?_
   refine tk 15 26 hH ?_
   refine tk 16 26 hH ?_
   refine tk 17 26 hH ?_
   refine tk 18 26 hH ?_
   refine tk 19 26 hH ?_
   refine tk 20 26 hH ?_
   refine tk 21 26 hH ?_
   refine tk 22 26 hH ?_
   refine tk 23 26 hH ?_
   refine tk 24 26 hH ?_
   refine tk 25 26 hH ?_
   intro hC
   refine zAD kr ?_ _
   clear hC HKeepT
   try clear hH
   go_wp2
   go_roundg (bl.length - (i+1))
   case measure=>have:=HKI.out;omega
   case rel=>exact ⟨i+1,by have:=HKI.out;omega,by go_num,by first|exact zH (HXi.out.trans hxA)⟩
  ·skip
   obtain rfl:bl.length=i:=by omega
   have HF:=zH (HR.out _ (HX2.out.trans HXi.out))
   go_wp2
   first
   | exact HF.out
end Go.Proofs.YtdkgilioejdmeaaGreat
namespace Go.Proofs.YtdkgilioejdmeaaGreat
open Go.ChangeShapes Go.WideShapes Go.ChangeAt Go.RowKit
theorem Tryz.own:ownKnob Tryz.prog.godebug=none:=by kernel_rfl
theorem yAB {H:Type} {P:Program} {e:TypeId} {d:DataW H} {n:Nat}:∀ {l:List (DataW H)},d∈l→n∈d.weights P e→n∈DataW.weightsAll P e l
 | d0 :: l,hd,hn=>by
  simp only [DataW.weightsAll,List.mem_append]
  rcases List.mem_cons.1 hd with rfl|hd
  ·exact .inl hn
  ·exact .inr (yAB hd hn)
 | [],hd,_=>by cases hd
theorem weights_elem {H:Type} {P:Program} {t e:TypeId} {d:DataW H} {elems spare:List (DataW H)} {n:Nat} (hu:P.underlying t=some (.slice e)) (hd:d∈elems) (hn:n∈d.weights P e):n∈(DataW.slice elems spare).weights P t:=by
 have:=yAB hd hn
 simp only [DataW.weights,hu,List.mem_cons,List.mem_append]
 exact .inr (.inl this)
theorem yAE {H:Type} {P:Program} {t e:TypeId} {elems spare:List (DataW H)} (hu:P.underlying t=some (.slice e)):(elems.length+spare.length)*P.bytesOf e∈(DataW.slice elems spare).weights P t:=by
 simp only [DataW.weights,hu,List.mem_cons]
 exact .inl trivial
theorem bytes1:Tryz.prog.bytesOf 2=8:=by kernel_rfl
theorem bytes2:Tryz.prog.bytesOf 31=24:=by kernel_rfl
theorem reach_eq:reachBytes=140737488351232:=rfl
theorem addr_at {w:World} {a:Addr} {v:Value} (h:w.cell? (a.add 0)=some v):∃ b off,a=⟨b,off,none⟩∧b < w.heap.size:=by
 rw [Addr.add_zero'] at h
 have h1:=zAA h
 have h2:=World.cell?_spot h
 obtain ⟨b,off,spot⟩:=a
 exact ⟨b,off,by rw [show spot=none from h2],h1⟩
set_option maxRecDepth 10000 in
theorem rows_open {H:Type} {enc:TypeId × Value→H} {W:World} {fuel:Nat} {v:Value} {d:DataW H} {ps:List MemPlace} (hd:DataW.trod enc Tryz.prog W 0 (fun _=>true) true fuel 22 [v]=some (d,ps)) (hw:∀ n∈d.weights Tryz.prog 22,n≤reachBytes) :
  ∃ (A:Option Addr) (c:Nat) (rows:List (List Int)),v = .slice A rows.length c∧rows.length≤c∧IsRows W A rows∧Fit64 rows:=by
 rcases Deep.open_int_rows Tryz.underlying22 Tryz.underlying31 Tryz.underlying2 kr kr hd with ⟨hc,_⟩|⟨a,len,cap,A,L,C,Z,hcs,_,hl,hm,hx,hr⟩
 ·injection hc with hc _
  exact ⟨none,0,[],hc,by simp,fun h=>by simp at h,by decide,by simp⟩
 ·injection hcs with hcs _
  injection hx with hx _
  subst hx
  have hzl:∀ r,r < cap→((Z r).take (L r)).length=L r:=fun r h=>by
   obtain ⟨_,h1,_,h2,_⟩:=hr r h
   rw [List.length_take];omega
  refine ⟨some a,cap,(List.range len).map fun r=>(Z r).take (L r),by rw [hcs];simp,by simpa using hl,fun hl0=>?_,?_,?_⟩
  ·have hl1:0 < len:=by simpa using hl0
   obtain ⟨b,off,rfl,hb⟩:=addr_at (hr 0 om).1
   refine ⟨b,off,rfl,hb,fun i l hi=>?_⟩
   obtain ⟨hil,rfl⟩:=List.getElem?_eq_some_iff.1 hi
   have hil':i < len:=by simpa using hil
   simp only [List.getElem_map,List.getElem_range]
   obtain ⟨q1,q2,q3,q4,q5,q6,q7⟩:=hr i om
   rw [Addr.add_lit] at q1
   refine ⟨A i,C i,by rw [hzl i om];exact q1,by rw [hzl i om];exact q2,fun hl0=>?_⟩
   rw [hzl i om] at hl0
   cases hA:A i with
   | none=>have:=q6 hA;omega
   | some a' =>
    obtain ⟨_,q8⟩:=q7 a' hA
    obtain ⟨b',off',rfl,hb'⟩:=addr_at (q8 0 om)
    refine ⟨b',off',rfl,hb',fun j z hj=>?_⟩
    obtain ⟨hjl,rfl⟩:=List.getElem?_eq_some_iff.1 hj
    rw [List.length_take] at hjl
    have:=q8 j om
    rw [Addr.add_lit] at this
    rw [this,List.getElem_take]
    simp [List.getD,show j < (Z i).length by omega]
  ·have:=hw _ (yAE Tryz.underlying22)
   rw [bytes2,reach_eq] at this
   simp only [List.length_map,List.length_range] at this ⊢
   omega
  ·intro l hl'
   obtain ⟨r,hr1,rfl⟩:=List.mem_map.1 hl'
   rw [List.mem_range] at hr1
   obtain ⟨q1,q2,q3,q4,q5,q6,q7⟩:=hr r om
   constructor
   ·rw [hzl r om]
    cases hA:A r with
    | none=>have:=q6 hA;omega
    | some a' =>
     have h1:Deep.intRow (H:=H) .i64 (A r) (L r) (Z r)∈(List.range len).map fun r=>Deep.intRow (H:=H) .i64 (A r) (L r) (Z r):=List.mem_map.2 ⟨r,List.mem_range.2 hr1,rfl⟩
     have h2:((Z r).take (L r)).length*8≤reachBytes:=by
      refine Nat.le_trans ?_ (hw _ (weights_elem Tryz.underlying22 h1 (n:=((lits (H:=H) .i64 ((Z r).take (L r))).length+(lits (H:=H) .i64 ((Z r).drop (L r))).length)*Tryz.prog.bytesOf 2) ?_))
      ·rw [bytes1];unfold lits;simp only [List.length_map];omega
      ·unfold Deep.intRow;rw [hA]
       exact yAE Tryz.underlying31
     rw [reach_eq,hzl r om] at h2
     omega
   ·intro z hz
    have:=q5 z (List.mem_of_mem_take hz)
    simp only [Lit.wf,Bool.and_eq_true,decide_eq_true_eq] at this
    exact this
theorem post_of_ext {H:Type} {enc:TypeId × Value→H} {P:Program} {f:Func} {s:ChangeSpec} {apart fresh handsOn again:Bool} {W W':World} {args:Array Value} {v:Value} {ds gs:List (DataW H)} {before pa pv:List MemPlace}
  (hW:DataW.Whole enc P f.params.toList s.vars apart W args.toList ds gs before)
  (hres:∀ (b:Nat) (sp:Nat→Bool) (hd:Bool),DataW.TrodAll enc P W' b sp hd f.resultTypes.toList (v.resultList f.resultTypes.size) (s.fn H (ds ++ gs)).results [])
  (hargs:∀ sp:Nat→Bool,(∀ p∈before,sp p.block=true)→DataW.TrodAll enc P W' 0 sp true f.params.toList args.toList (s.fn H (ds ++ gs)).args pa)
  (hvars:∀ sp:Nat→Bool,(∀ p∈before,sp p.block=true)→DataW.TrodVars enc P W' sp s.vars (s.fn H (ds ++ gs)).vars pv)
  (hps:before=pa ++ pv) (hb:Below W.heap.size W W')
  (hok:∀ (j:Nat) (t:TypeId) (r:Value),f.resultTypes[j]? = some t→(v.resultList f.resultTypes.size)[j]? = some r→Value.okWide P W' .any 0 t r) :
  s.post enc P f apart fresh handsOn again W args v W':=by
 have hlt:∀ p∈before,p.block < W.heap.size:=fun p hp=>hW.lt p hp
 have hold:∀ p∈before,(fun b=>decide (b < W.heap.size)) p.block=true:=fun p hp=>by simpa using hlt p hp
 refine ⟨ds,gs,before,[],pa,pv,hW,hres _ _ _,hargs _ hold,hvars _ hold,World.keptBut_mono (fun p hp=>⟨hp,?_⟩) (hb.frame (· ∈ before)),fun _=>?_⟩
 ·rw [hps,List.mem_append] at hp
  exact Or.inr hp
 ·obtain ⟨_,_,_,_,_,hz,hn⟩:=hW
  refine ⟨hok,_,_,([] ++ pa) ++ pv,⟨[] ++ pa,pv,trodAll_append (hargs _ (fun _ _=>rfl)) (hres _ _ _),hvars _ (fun _ _=>rfl),rfl,?_,?_⟩,?_⟩
  ·intro b off hp
   have hin:MemPlace.cell b off∈before:=by rw [hps];simpa using hp
   rw [hb.frozen (hlt _ hin)]
   exact hz b off hin
  ·intro ha
   have:=hn ha
   rw [hps] at this
   simpa using this
  ·intro p hp _
   rw [hps]
   simpa using hp
theorem Tryz.laidOutB:laidOutB Tryz.prog=true:=by kernel_rfl
noncomputable def laidWorld (os:Os):World:=World.holding Tryz.prog os ⟨#[],#[],[]⟩
set_option maxRecDepth 100000 in
theorem sums_contract (H:Type) (enc:TypeId × Value→H) (W:World) (base:Nat) (args:Array Value) (ds gs:List (DataW H)) (before:List MemPlace)
  (hval:∀ (j:Nat) t v,Tryz.f3.params[j]? = some t→args[j]? = some v→Value.okWide Tryz.prog W .any base t v)
  (hW:DataW.Whole enc Tryz.prog Tryz.f3.params.toList Rows.shortSumsSpec.vars false W args.toList ds gs before)
  (hsz:(DataW.weightsEach Tryz.prog (Tryz.f3.params.toList ++ (OpenSpec.ofChange Rows.shortSumsSpec).bare.plain.varTypes Tryz.prog) (ds ++ gs)).all (· ≤ reachBytes)=true) :
  Calls Tryz.prog 3 args W fun e W'=>∃ v,e = .returned v∧Rows.shortSumsSpec.post enc Tryz.prog Tryz.f3 false true false false W args v W':=by
 have hW':=hW
 obtain ⟨p,q,hA0,hV,rfl,hfz,hnd⟩:=hW
 have hA:DataW.TrodAll enc Tryz.prog W 0 (fun _=>true) true Tryz.f3.params.toList args.toList ds p:=hA0
 rw [Tryz.params3] at hA hval hsz
 obtain ⟨v0,vs0,d0,ds0,p0,q0,hargs,rfl,rfl,h0,r0⟩:=trodAll_cons hA
 obtain ⟨v1,vs1,d1,ds1,p1,q1,rfl,rfl,rfl,h1,r1⟩:=trodAll_cons r0
 obtain ⟨v2,vs2,d2,ds2,p2,q2,rfl,rfl,rfl,h2,r2⟩:=trodAll_cons r1
 obtain ⟨rfl,rfl,rfl⟩:=trodAll_nil r2
 obtain rfl:args=#[v0,v1,v2]:=by cases args;simp_all
 obtain ⟨rfl,rfl⟩:=trodVars_none hV
 obtain ⟨i2,rfl,rfl,rfl,w2⟩:=open_int Tryz.underlying2 (hval 2 2 v2 rfl rfl) h2
 obtain ⟨a0,l0,c0,rfl⟩:=okWide_slice Tryz.underlying22 (hval 0 22 v0 rfl rfl)
 obtain ⟨a1,l1,c1,rfl⟩:=okWide_slice Tryz.underlying22 (hval 1 22 v1 rfl rfl)
 obtain ⟨f0,hf0⟩:=h0
 obtain ⟨f1,hf1⟩:=h1
 obtain ⟨A,c,ra,hv0,_,hF0,hFit0⟩:=rows_open hf0 fun n hn=>by
  have:=List.all_eq_true.1 hsz n (DataW.weights_mem_each (j:=0) rfl rfl n hn)
  simpa using this
 obtain ⟨B,d,rb,hv1,_,hF1,hFit1⟩:=rows_open hf1 fun n hn=>by
  have:=List.all_eq_true.1 hsz n (DataW.weights_mem_each (j:=1) rfl rfl n hn)
  simpa using this
 injection hv0 with e1 e2 e3
 injection hv1 with e4 e5 e6
 subst e1;subst e2;subst e3;subst e4;subst e5;subst e6
 have k2:(-9223372036854775808:Int)≤i2∧i2≤9223372036854775807:=by
  simp only [Lit.wf,Bool.and_eq_true,decide_eq_true_eq] at w2;exact w2
 refine (shortSums_any a0 a1 _ _ c0 c1 ra rb i2 W rfl rfl hF0 hF1 hFit0 hFit1 k2.1 k2.2).mono fun e W' ⟨he,hx⟩=>?_
 subst he
 simp only [List.append_nil] at hW'
 have hlt:∀ x∈p0 ++ p1,x.block < W.heap.size:=fun x hx=>hW'.lt x (by simpa using hx)
 have hl0:∀ x∈p0,x.block < W.heap.size:=fun x hx=>hlt x (List.mem_append.2 (.inl hx))
 have hl1:∀ x∈p1,x.block < W.heap.size:=fun x hx=>hlt x (List.mem_append.2 (.inr hx))
 exact ⟨_,rfl,post_of_ext (pa:=p0 ++ p1) (pv:=[]) hW'
  (fun _ _ _=>trodAll_cons_mk (shut_bool Tryz.underlying4 _) trodAll_mk0)
  (fun sp hsp=>by
   have ha:DataW.TrodAll enc Tryz.prog W' 0 sp true [22,22,2] [.slice a0 ra.length c0,.slice a1 rb.length c1,.int .i64 i2] [d0,d1,.lit (.int .i64 i2)] (p0 ++ (p1 ++ ([] ++ []))) :=
    trodAll_cons_mk (WideElems.Trod_stays (P:=Tryz.prog) Tryz.laidOutB kr (of_decide_eq_true kr) (⟨f0,hf0⟩:DataW.Trod enc Tryz.prog W 0 (fun _=>true) true 22 (.slice a0 ra.length c0) d0 p0) (fun x hx'=>hx.same (hl0 x hx')) (fun x hx'=>hsp x (by simp [hx'])))
     (trodAll_cons_mk (WideElems.Trod_stays (P:=Tryz.prog) Tryz.laidOutB kr (of_decide_eq_true kr) (⟨f1,hf1⟩:DataW.Trod enc Tryz.prog W 0 (fun _=>true) true 22 (.slice a1 rb.length c1) d1 p1) (fun x hx'=>hx.same (hl1 x hx')) (fun x hx'=>hsp x (by simp [hx'])))
      (trodAll_cons_mk (shut_int Tryz.underlying2 w2) trodAll_mk0))
   simp only [List.append_nil] at ha
   exact ha)
  (fun _ _=>rfl) (by simp) hx (ok_one kr rfl (okWide_bool_mk Tryz.underlying4 _))⟩
abbrev sumsArgs:Array Value:=#[.slice none 0 0,.slice none 0 0,.int .i64 0]
theorem sums_witness (os:Os) {H:Type} (enc:TypeId × Value→H) :
  (OpenSpec.ofChange Rows.shortSumsSpec).preRow enc Tryz.prog Tryz.f3 Rows.shortSumsRow.domain false Rows.shortSumsRow.laid ((laidWorld os).forCall (fun _ _=>0) ⟨#[],sumsArgs,[]⟩).memory sumsArgs:=by
 have hw:(DataW.whole enc Tryz.prog ((laidWorld os).forCall (fun _ _=>0) ⟨#[],sumsArgs,[]⟩).memory Tryz.f3.params.toList Rows.shortSumsSpec.vars false sumsArgs.toList 8).map (fun x=>(x.1,x.2.1)) =
   some ([.nil,.nil,.lit (.int .i64 0)],[]):=by kernel_rfl
 obtain ⟨⟨x1,x2,x3⟩,hx,hx1⟩:=Option.map_eq_some_iff.1 hw
 simp only [Prod.mk.injEq] at hx1
 obtain ⟨rfl,rfl⟩:=hx1
 exact OpenSpec.preRow_of_cond 8 hx kr (fun k hk=>by cases hk) kr (laidMetH_of_parts (laidMet_of_run' 8 kr kr) kr)
set_option maxRecDepth 100000 in
set_option maxHeartbeats 2000000 in
theorem sums_lifted (os:Os) (started:os.Started) (H:Type) (enc:TypeId × Value→H) (F:Stop.Interp) :
  ReturnsInHanded {} Tryz.checked os 3 .any ((OpenSpec.ofChange Rows.shortSumsSpec).preRow enc Tryz.prog Tryz.f3 Rows.shortSumsRow.domain false Rows.shortSumsRow.laid) (((OpenSpec.ofChange Rows.shortSumsSpec).at F).post enc Tryz.prog Tryz.f3 false true false false):=by
 refine returnsInHanded_of_row (C:=Tryz.checked) (s:=OpenSpec.ofChange Rows.shortSumsSpec) Tryz.own started kr Tryz.func3
  (witness_row_atRef (enc:=enc) (C:=Tryz.checked) false (laidWorld os) sumsArgs rfl kr kr kr (sums_witness os enc)) ?_
 intro W base args ds gs before hval hW _ _ hsz hL _ _
 exact sums_contract H enc W base args ds gs before hval hW hsz
set_option maxRecDepth 100000 in
theorem sums_said:Rows.ShortSumsSaid :=
 OpenClaim.holds_of_cond 3 Tryz.f3 rfl rfl rfl rfl rfl rfl rfl ⟨rfl,rfl,rfl,rfl,rfl⟩ rfl rfl rfl rfl rfl kr Tryz.func3 kr
  (of_decide_eq_true kr) (by unfold Func.isWrapper;first|(rw [if_pos (by decide +kernel)];kernel_rfl)|(rw [if_neg (by decide +kernel)];exact ⟨rfl,rfl⟩))
  (fun os started H enc _ F=>by rw [OpenClaim.pre_eq_preRow];exact sums_lifted os started H enc F)
end Go.Proofs.YtdkgilioejdmeaaGreat
