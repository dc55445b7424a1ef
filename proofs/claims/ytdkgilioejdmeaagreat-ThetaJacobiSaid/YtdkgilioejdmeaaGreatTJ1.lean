/- YtdkgilioejdmeaaGreatTJ1: what is proved here stands in the theorems' own rows. -/
import Derived.Test.YtdkgilioejdmeaaGreatProg
import Derived.WalkKit
import Derived.Deep.Draws
import Derived.Deep.QuietTactic
import Derived.BigQuiet
import Derived.KernelRfl
import Derived.Lib.Hide
import Derived.Shelf.Small.Bits
import Derived.Shelf.Strconv.Itoa0
import Derived.Lib.ItoaNum
import Derived.Laws.BitsLemmas
import Derived.Deep.LoopGhost
import Derived.Laws.CopyOwn
import Derived.Laws.MakeOwn
import Derived.Maps.AppendAt
import Derived.Deep.AppendLies
import Derived.Laws.Rows
import Derived.Deep.RegionHeld3
import Derived.Deep.DeepCutAuto
import Derived.Deep.CutBlock
import Derived.Outline
import Derived.RegionTactic
import Derived.Deep.RegionWith
import Derived.Laws.OwnMore
import Derived.Deep.RegionHeld
import Derived.StillTail
import Derived.StillTailTactics
import Derived.IntWalk
import Derived.RangeFuncCalls
import Derived.RangeFuncBound
import Derived.RangeFuncKeeps
import Derived.TacticsIn
import Derived.RegionIn
import Derived.Laws.EntriesVeiled
import Derived.Sort.Grow
import Derived.Shelf.SlGeneric
import Derived.Shelf.SlSortCmp.WholeK
import Derived.Shelf.SlSortCmp.NoneTotal
import Derived.Ground.SlsfProg
import Derived.OwnWalkIn
import Derived.Lib.SliceRun
import Derived.Test.YtdkgilioejdmeaaGreatBA1
import Derived.Test.YtdkgilioejdmeaaGreatBA2
import Derived.Test.YtdkgilioejdmeaaGreatBA3
import Derived.Test.YtdkgilioejdmeaaGreatBA4
import Derived.Test.YtdkgilioejdmeaaGreatBA5
import Derived.Test.YtdkgilioejdmeaaGreatBA6
import Derived.Test.YtdkgilioejdmeaaGreatBA7
import Derived.Test.YtdkgilioejdmeaaGreatBA8
import Derived.Test.YtdkgilioejdmeaaGreatBA9
import Derived.Test.YtdkgilioejdmeaaGreatBA10
import Derived.Test.YtdkgilioejdmeaaGreatBA11
import Derived.Test.YtdkgilioejdmeaaGreatBA12
import Derived.Test.YtdkgilioejdmeaaGreatBA13
set_option linter.unusedVariables false
set_option linter.unusedSimpArgs false
namespace Go.Proofs.YtdkgilioejdmeaaGreat
open Go.RowKit
theorem eq_of_sorted {α : Type} {lt : α → α → Prop} (irr:∀ a,¬ lt a a) (tr:∀ a b c,lt a b→lt b c→lt a c):∀ (L M:List α),L.Pairwise lt→M.Pairwise lt→(∀ x,x∈L↔x∈M)→L=M:=by
 intro L
 induction L with
 | nil =>
  intro M _ _ h
  cases M with
  | nil=>rfl
  | cons b M=>exact absurd ((h b).2 (List.mem_cons_self ..)) (by simp)
 | cons a L ih =>
  intro M hL hM h
  cases M with
  | nil=>exact absurd ((h a).1 (List.mem_cons_self ..)) (by simp)
  | cons b M =>
   have hL1:=List.pairwise_cons.1 hL
   have hM1:=List.pairwise_cons.1 hM
   have hab:a=b:=by
    rcases List.mem_cons.1 ((h a).1 (List.mem_cons_self ..)) with e|e
    ·exact e
    ·rcases List.mem_cons.1 ((h b).2 (List.mem_cons_self ..)) with e2|e2
     ·exact e2.symm
     ·exact absurd (tr _ _ _ (hM1.1 a e) (hL1.1 b e2)) (irr b)
   subst hab
   rw [ih M hL1.2 hM1.2 fun x=>?_]
   constructor
   ·intro hx
    rcases List.mem_cons.1 ((h x).1 (List.mem_cons_of_mem _ hx)) with e|e
    ·subst e;exact absurd (hL1.1 x hx) (irr x)
    ·exact e
   ·intro hx
    rcases List.mem_cons.1 ((h x).2 (List.mem_cons_of_mem _ hx)) with e|e
    ·subst e;exact absurd (hM1.1 x hx) (irr x)
    ·exact e
theorem Shorts.unique {n:Nat} {f:Nat→Nat→Int} {nb:Int} {L M:List (List Int × Int)} (h:Shorts n f nb L) (k:Shorts n f nb M):L=M :=
 eq_of_sorted (lt:=fun a b:List Int × Int=>lexL a.1 b.1) (fun a=>lexL_irr a.1) (fun _ _ _=>zCa) L M h.sorted k.sorted fun x=>by
  obtain ⟨y,z⟩:=x
  rw [h.mem,k.mem]
theorem SList.slice {w:World} {base n:Nat} {A:Option Addr} {k c:Nat} {bs:List SV} (h:SList w base n (.slice A k c) bs) (hk:k=bs.length) (h0:0 < k):∃ g,A=some ⟨g,0,none⟩∧k≤c∧∀ i p,bs[i]? = some p→w.cell? ⟨g,i*2,none⟩=some (.slice (some ⟨p.1,0,none⟩) n n)∧w.cell? ⟨g,i*2+1,none⟩=some (.int .i64 p.2.2):=by
 rcases h.val with ⟨h1,h2⟩|⟨g,cap,h1,h2,_,_,h5,_⟩
 ·subst h1;cases h2;simp at hk;omega
 ·cases h1;exact ⟨g,rfl,h2,h5⟩
theorem boxL_sorted (B:Nat):∀ n,(boxL B n).Pairwise lexL:=by
 intro n
 induction n with
 | zero=>exact List.pairwise_singleton _ _
 | succ n ih =>
  show ((List.range (2*B+1)).flatMap fun (i:Nat)=>(boxL B n).map fun v=>((i:Int) - (B:Int)) :: v).Pairwise lexL
  rw [List.pairwise_flatMap]
  refine ⟨fun i hi=>?_,?_⟩
  ·rw [List.pairwise_map]
   refine ih.imp fun {a b} h=>?_
   unfold lexL lexC
   rw [if_neg om,if_neg om]
   exact h
  ·refine List.pairwise_lt_range.imp fun {i j} hij x hx y hy=>?_
   obtain ⟨v,_,rfl⟩:=List.mem_map.1 hx
   obtain ⟨u,_,rfl⟩:=List.mem_map.1 hy
   unfold lexL lexC
   rw [if_pos om]
   decide
def boxS (n:Nat) (f:Nat→Nat→Int) (nb:Int) (B:Nat):List (List Int × Int) :=
 ((boxL B n).filter fun v=>decide (v.length=n) && (decide (qf n f (vat v)≤nb) && firstP v)).map fun v=>(v,qf n f (vat v))
theorem shorts_box {n:Nat} {f:Nat→Nat→Int} (h:PD n f) {E:Nat} (hE:∀ i c,i < n→c < n→(f i c).natAbs≤E) (nb:Int) (B:Nat) (hB:nb*((fct (n - 1)*E ^ (n - 1):Nat):Int) < ((B:Int)+1)*((B:Int)+1)):Shorts n f nb (boxS n f nb B):=by
 refine ⟨?_,fun y z=>?_⟩
 ·unfold boxS
  rw [List.pairwise_map];exact (boxL_sorted B n).sublist List.filter_sublist
 ·unfold boxS
  rw [List.mem_map]
  constructor
  ·rintro ⟨v,hv,e⟩
   rw [List.mem_filter] at hv
   simp only [Bool.and_eq_true,decide_eq_true_eq] at hv
   cases e
   exact ⟨hv.2.1,rfl,hv.2.2.1,hv.2.2.2⟩
  ·rintro ⟨hy,hz,hb,hp⟩
   refine ⟨y,List.mem_filter.2 ⟨mem_boxL hy fun i hi=>?_,by simp [hy,hp,← hz,hb]⟩,by rw [hz]⟩
   have h3:=h.coord hE (vat y) hi
   have h5:qf n f (vat y)*((fct (n - 1)*E ^ (n - 1):Nat):Int)≤nb*((fct (n - 1)*E ^ (n - 1):Nat):Int):=Int.mul_le_mul_of_nonneg_right om (Int.natCast_nonneg _)
   rcases Nat.lt_or_ge B (vat y i).natAbs with h7|h7
   ·exfalso
    have h8:(((vat y i).natAbs*(vat y i).natAbs:Nat):Int)=vat y i*vat y i:=by rw [Int.natCast_mul];exact Int.natAbs_mul_self
    have h9:(B+1)*(B+1)≤(vat y i).natAbs*(vat y i).natAbs:=Nat.mul_le_mul h7 h7
    have h10:(((B+1)*(B+1):Nat):Int)=((B:Int)+1)*((B:Int)+1):=by rw [Int.natCast_mul,Int.natCast_add];rfl
    omega
   ·exact h7
def hexa:List (List Int):=[[2,1],[1,2]]
theorem hexa_chk:chk hexa=0:=by kernel_rfl
theorem two_small {f:Nat→Nat→Int} {E:Nat} (h00:(f 0 0).natAbs≤E) (h01:(f 0 1).natAbs≤E) (h10:(f 1 0).natAbs≤E) (h11:(f 1 1).natAbs≤E):∀ i c,i < 2→c < 2→(f i c).natAbs≤E:=by
 intro i c hi hc
 rcases (show i=0∨i=1 by omega) with rfl|rfl <;> rcases (show c=0∨c=1 by omega) with rfl|rfl <;> assumption
set_option exponentiation.threshold 5000
def sl {α : Type} (g : α → Nat):List α → Nat
 | []=>0
 | a :: l=>g a+sl g l
theorem sl_app {α : Type} (g : α → Nat) (l m:List α):sl g (l ++ m)=sl g l+sl g m:=by
 induction l with
 | nil=>simp [sl]
 | cons a l ih=>simp only [List.cons_append,sl,ih];omega
theorem sl_range (g:Nat→Nat) (n:Nat):((sl g (List.range n):Nat):Int)=sm n fun i=>(g i:Int):=by
 induction n with
 | zero=>rfl
 | succ n ih=>rw [List.range_succ,sl_app,Int.natCast_add,ih];simp [sl,sm]
theorem sm_split (n p:Nat) (f:Nat→Int):sm (n+p) f=sm n f+sm p fun i=>f (n+i):=by
 induction p with
 | zero=>simp [sm]
 | succ p ih=>show sm (n+p) f+f (n+p)=_;rw [ih];simp only [sm];omega
theorem sm_left (n:Nat) (f:Nat→Int):sm (n+1) f=f 0+sm n fun i=>f (i+1):=by
 rw [show n+1=1+n by omega,sm_split]
 simp only [sm,Int.zero_add]
 congr 1
 exact zAC fun i _=>by rw [Nat.add_comm]
theorem sm_tail {n p:Nat} {f:Nat→Int} (hnp:n≤p) (h:∀ i,n≤i→i < p→f i=0):sm p f=sm n f:=by
 obtain ⟨d,rfl⟩:=Nat.exists_eq_add_of_le hnp
 rw [sm_split,zA5 (n:=d) fun i hi=>h _ om om,Int.add_zero]
theorem vec_zero {n:Nat} {f:Nat→Nat→Int} (h:Start n f) {v:List Int} (hv:v.length=n) (hq:qf n f (vat v)=0):v=List.replicate n 0:=by
 refine vec_ext hv (by simp) fun i hi=>?_
 have h1:=h.pd.coord (B:=16384) (fun i c hi hc=>h.small i c hi hc) (vat v) hi
 rw [hq,Int.zero_mul] at h1
 have h2:vat (List.replicate n 0) i=0:=by unfold vat;rw [List.getElem?_replicate,if_pos hi];rfl
 rw [h2]
 have h3:(vat v i).natAbs*(vat v i).natAbs=0:=by
  have:(((vat v i).natAbs*(vat v i).natAbs:Nat):Int)=vat v i*vat v i:=by rw [Int.natCast_mul];exact Int.natAbs_mul_self
  omega
 have h4:(vat v i).natAbs=0:=by rcases Nat.mul_eq_zero.1 h3 with h|h <;> exact h
 omega
theorem firstP_rep (n:Nat):firstP (List.replicate n 0)=false:=by
 induction n with
 | zero=>rfl
 | succ n ih=>rw [List.replicate_succ];exact ih
def thC (L:List (List Int × Int)) (m:Nat):Int:=(if m=0 then 1 else 0)+2*((L.countP fun q=>decide (q.2=(m:Int)):Nat):Int)
theorem shorts_pos {n:Nat} {f:Nat→Nat→Int} {nb:Int} {L:List (List Int × Int)} (h:Start n f) (hL:Shorts n f nb L) {q:List Int × Int} (hq:q∈L):1≤q.2:=by
 obtain ⟨h1,h2,h3,h4⟩:=(hL.mem q.1 q.2).1 hq
 have h5:=h.pd.qf_nonneg (vat q.1)
 rcases Int.lt_or_le 0 q.2 with h6|h6
 ·omega
 ·have h7:=vec_zero h h1 om
  rw [h7,firstP_rep] at h4
  cases h4
theorem thC_le (L:List (List Int × Int)) (m:Nat):0≤thC L m∧thC L m≤2*(L.length:Int)+1:=by
 unfold thC
 have:=List.countP_le_length (p:=fun q:List Int × Int=>decide (q.2=(m:Int))) (l:=L)
 split <;> omega
def sqW:Nat→Nat→Int
 | 0,m=>if m=0 then 1 else 0
 | k+1,m=>sm (m+1) fun x=>if x*x≤m then (if x=0 then 1 else 2)*sqW k (m - x*x) else 0
theorem yAI {n:Nat} {f:Nat→Int} (h:∀ i,i < n→0≤f i):0≤sm n f:=by
 induction n with
 | zero=>exact Int.le_refl _
 | succ n ih=>simp only [sm];have:=ih fun i hi=>h i om;have:=h n om;omega
theorem yAE (k m:Nat):0≤sqW k m:=by
 induction k generalizing m with
 | zero=>simp only [sqW];split <;> decide
 | succ k ih =>
  simp only [sqW]
  refine yAI fun x _=>?_
  split
  ·exact Int.mul_nonneg (by split <;> decide) (ih _)
  ·exact Int.le_refl _
theorem le_sq (a:Nat):a≤a*a:=by
 cases a with
 | zero=>exact Nat.le_refl _
 | succ a=>exact Nat.le_mul_of_pos_left _ om
theorem sqW_one {m M:Nat} (h:m < M):sqW 1 m=sm M fun x=>if x*x=m then (if x=0 then 1 else 2) else 0:=by
 show (sm (m+1) fun x=>if x*x≤m then (if x=0 then 1 else 2)*(if m - x*x=0 then 1 else 0) else 0)=_
 rw [sm_tail (n:=m+1) (p:=M) om fun x h1 _=>by
  have:=le_sq x
  rw [if_neg (show ¬ x*x=m by omega)]]
 refine zAC fun x _=>?_
 by_cases h1:x*x=m
 ·rw [if_pos h1,if_pos om,if_pos (show m - x*x=0 by omega),Int.mul_one]
 ·rw [if_neg h1]
  by_cases h2:x*x≤m
  ·rw [if_pos h2,if_neg (show ¬ m - x*x=0 by omega),Int.mul_zero]
  ·rw [if_neg h2]
theorem sqW_conv (k m:Nat):sqW (k+1) m=sm (m+1) fun i=>sqW k i*sqW 1 (m - i):=by
 have h1:(sm (m+1) fun i=>sqW k i*sqW 1 (m - i))=sm (m+1) fun i=>sm (m+1) fun x=>sqW k i*(if x*x=m - i then (if x=0 then 1 else 2) else 0) :=
  zAC fun i _=>by rw [sqW_one (M:=m+1) (show m - i < m+1 by omega),← zAY]
 rw [h1,zCG]
 show (sm (m+1) fun x=>if x*x≤m then (if x=0 then 1 else 2)*sqW k (m - x*x) else 0)=_
 refine zAC fun x _=>?_
 by_cases h:x*x≤m
 ·rw [if_pos h,zBL (k:=m - x*x) om fun i hi hne=>by rw [if_neg om,Int.mul_zero],if_pos (show x*x=m - (m - x*x) by omega),Int.mul_comm]
 ·rw [if_neg h]
  exact (zA5 fun i hi=>by rw [if_neg om,Int.mul_zero]).symm
end Go.Proofs.YtdkgilioejdmeaaGreat
namespace Go.Proofs.YtdkgilioejdmeaaGreat
open Go.RowKit
set_option maxHeartbeats 2000000 in
theorem ints_any (b n:Nat) (x:Nat→Int) (w:World) (hr:NRow w b n x) (hn:n≤5000) (hf:∀ j,j < n → -9223372036854775808≤x j∧x j≤9223372036854775807) :
  Calls Tryz.prog 59 #[.slice (some ⟨b,0,none⟩) n n] w fun e w'=>∃ h,e = .returned (.slice (some ⟨h,0,none⟩) n n)∧MRow w' h n x∧w.heap.size≤h∧Ext w w':=by
 obtain ⟨R,hR⟩:∃ R:Ending→World→Prop,(fun e w'=>∃ h,e = .returned (.slice (some ⟨h,0,none⟩) n n)∧MRow w' h n x∧w.heap.size≤h∧Ext w w')=R:=⟨_,rfl⟩
 have HR:Hid (∀ h w',MRow w' h n x→w.heap.size≤h→Ext w w'→R (.returned (.slice (some ⟨h,0,none⟩) n n)) w'):=fun h w' h1 h2 h3=>by rw [← hR];exact ⟨h,rfl,h1,h2,h3⟩
 rw [hR]
 clear hR
 have HO:=zH (fun z h0 h1 V=>zOf_any z V h0 h1)
 have HRow:=zH hr
 have HF:=zH hf
 obtain ⟨cs,hmk,hrow⟩:=zAs (n:Int) n rfl om w
 have HM0:=zH hrow
 clear hr hf hrow
 go_enter Tryz.func59,Tryz.ntmps59
 go_wp2
 clear hmk
 obtain ⟨W0,hW0⟩:∃ W0,w.alloc (.cells cs 49)=W0:=⟨_,rfl⟩
 obtain ⟨h,hh⟩:∃ h,w.heap.size=h:=⟨_,rfl⟩
 have hlo:w.heap.size≤h:=by omega
 have HX0:Hid (Ext w W0):=by rw [← hW0];exact (Ext.refl _).alloc _
 rw [hW0,hh] at HM0 ⊢
 clear hW0 hh
 go_loopg [10] n (fun kk iv wk=>∃ i:Nat,kk+i=n∧iv = .int .i64 i∧Hid (MRow wk h n (fun j=>if j < i then x j else 0))∧Hid (Ext w wk))
 case atStart=>exact ⟨0,by omega,rfl,HM0.out.congr fun j _=>by simp,HX0⟩
 clear HM0 HX0
 obtain ⟨i,hki,rfl,HM,HX⟩:=hrel
 by_cases hin:i < n
 ·have cx:=HX.out.cell (HRow.out.cell i hin)
  have hz0:=(HF.out i hin).1
  have hz1:=(HF.out i hin).2
  obtain ⟨z,hz⟩:∃ z,x i=z:=⟨_,rfl⟩
  rw [hz] at cx hz0 hz1
  have HZ:=zH hz
  have lx:=zAA cx
  simp only at lx
  clear hz
  go_wp2_with (fail)
  refine (HO.out z hz0 hz1 _).mono ?_
  rintro e w1 ⟨ng,Ag,kg,rfl,hi1,hx⟩
  have HM1:=zH (HM.out.ext hx)
  have HX1:=zH (HX.out.trans hx)
  have HI1:=zH hi1
  obtain ⟨n0,A0,k0,d1,d2,_⟩:=HM1.out.cells i hin
  have f1:=HM1.out.free (i*2)
  have f2:=HM1.out.free (i*2+1)
  have lh:=HM1.out.lt
  clear hx hi1 HM HX cx lx
  go_wp2
  go_roundg (n - (i+1))
  case measure=>omega
  case rel=>exact ⟨i+1,by omega,by go_num,(HM1.out.set_ hin HI1.out).congr fun j _=>by
    by_cases e:j=i
    ·subst e;rw [if_pos rfl,if_pos om,HZ.out]
    ·rw [if_neg e]
     by_cases h:j < i
     ·rw [if_pos h,if_pos om]
     ·rw [if_neg h,if_neg om],zAO HX1.out hlo⟩
 ·obtain rfl:n=i:=by omega
  have HF2:=zH (HR.out h _ (HM.out.congr fun j hj=>if_pos hj) hlo HX.out)
  go_wp2
  first
  | exact HF2.out
  | exact bodyPost_ret (v:=.slice (some ⟨h,0,none⟩) n n) (by simp [results,Tryz.results59,go_sem]) rfl HF2.out
theorem yAK (N:Int) (h:0≤N∧N≤4096) (w:World):Calls Tryz.prog 58 #[.int .i64 N] w fun e w'=>e = .returned (.bool true)∧w'=w:=by
 obtain ⟨h0,h1⟩:=h
 have g0:N≥0:=h0
 go_enter Tryz.func58,Tryz.ntmps58
 go_wp2
 exact bodyPost_ret (v:=.bool true) (by simp [results,Tryz.results58,go_sem]) rfl ⟨rfl,rfl⟩
theorem terms_no (N:Int) (h:¬ (0≤N∧N≤4096)) (w:World):Calls Tryz.prog 58 #[.int .i64 N] w fun e w'=>e = .returned (.bool false)∧w'=w:=by
 by_cases h0:0≤N
 ·have h1:¬ N≤4096:=fun h1=>h ⟨h0,h1⟩
  have g0:N≥0:=h0
  clear h
  go_enter Tryz.func58,Tryz.ntmps58
  go_wp2
  exact bodyPost_ret (v:=.bool false) (by simp [results,Tryz.results58,go_sem]) rfl ⟨rfl,rfl⟩
 ·have g0:¬ N≥0:=h0
  clear h
  go_enter Tryz.func58,Tryz.ntmps58
  go_wp2
  exact bodyPost_ret (v:=.bool false) (by simp [results,Tryz.results58,go_sem]) rfl ⟨rfl,rfl⟩
theorem thC_step {bs:List (List Int × Int)} {i:Nat} {q:List Int × Int} (h:bs[i]? = some q) (m:Nat):thC (bs.take (i+1)) m=thC (bs.take i) m+if q.2=(m:Int) then 2 else 0:=by
 unfold thC
 rw [List.take_add_one,h,List.countP_append]
 by_cases e:q.2=(m:Int)
 ·simp [e];omega
 ·simp [e]
def OfTells (n:Nat) (rows:List (List Int)) (N:Int) (w:World) (e:Ending) (w':World):Prop :=
 ∃ (A:Option Addr) (k c:Nat) (z:Int),e = .returned (.tuple #[.slice A k c,.int .i64 z]) ∧
  ((chk rows≠0∧z=chk rows∧k=0)∨(chk rows=0∧¬ (0≤N∧N≤4096)∧z=2∧k=0)∨(chk rows=0∧N=0∧z=0∧k=0) ∨
  (chk rows=0∧1≤N∧N≤4096∧∃ L,Shorts n (entry rows) (N - 1) L∧((L.length≤8192∧z=0∧(k:Int)=N∧c=k∧∃ h,A=some ⟨h,0,none⟩∧w.heap.size≤h∧MRow w' h k (thC L))∨(8192 < L.length∧z=9∧k=0))))
set_option maxHeartbeats 8000000 in
set_option maxRecDepth 100000 in
theorem thOf_any (A:Option Addr) (n c:Nat) (rows:List (List Int)) (N:Int) (w:World) (hn:n=rows.length) (hr:IsRows w A rows) (hf:Fit64 rows) (hN0:-9223372036854775808≤N) (hN1:N≤9223372036854775807) :
  Calls Tryz.prog 27 #[.slice A n c,.int .i64 N] w fun e w'=>Ext w w'∧OfTells n rows N w e w':=by
 obtain ⟨R,hR⟩:∃ R:Ending→World→Prop,(fun e w'=>Ext w w'∧OfTells n rows N w e w')=R:=⟨_,rfl⟩
 have HNil:Hid (∀ (z:Int) w',Ext w w'→((chk rows≠0∧z=chk rows)∨(chk rows=0∧¬ (0≤N∧N≤4096)∧z=2)∨(chk rows=0∧N=0∧z=0)∨(chk rows=0∧1≤N∧N≤4096∧(∃ L,Shorts n (entry rows) (N - 1) L∧8192 < L.length)∧z=9))→R (.returned (.tuple #[.slice none 0 0,.int .i64 z])) w'):=fun z w' hx h=>by
  rw [← hR]
  refine ⟨hx,none,0,0,z,rfl,?_⟩
  rcases h with ⟨h1,h2⟩|⟨h1,h2,h3⟩|⟨h1,h2,h3⟩|⟨h1,h2,h3,⟨L,h4,h5⟩,h6⟩
  ·exact Or.inl ⟨h1,h2,rfl⟩
  ·exact Or.inr (Or.inl ⟨h1,h2,h3,rfl⟩)
  ·exact Or.inr (Or.inr (Or.inl ⟨h1,h2,h3,rfl⟩))
  ·exact Or.inr (Or.inr (Or.inr ⟨h1,h2,h3,L,h4,Or.inr ⟨h5,h6,rfl⟩⟩))
 have HFull:Hid (∀ (h:Nat) (w':World) (L:List (List Int × Int)) (k:Nat),Ext w w'→chk rows=0→1≤N→N≤4096→Shorts n (entry rows) (N - 1) L→L.length≤8192→(k:Int)=N→w.heap.size≤h→MRow w' h k (thC L)→R (.returned (.tuple #[.slice (some ⟨h,0,none⟩) k k,.int .i64 0])) w'):=fun h w' L k hx h1 h2 h3 h4 h5 h6 h7 h8=>by
  rw [← hR]
  exact ⟨hx,_,k,k,0,rfl,Or.inr (Or.inr (Or.inr ⟨h1,h2,h3,L,h4,Or.inl ⟨h5,rfl,h6,rfl,h,rfl,h7,h8⟩⟩))⟩
 rw [hR]
 clear hR
 have HChk:=zH (zC1 A n c rows w hn hr hf)
 have HAll:=zH (fun W (hx:Ext w W) (nb:Int) h0 h1=>all_any A n c rows nb W hn (hr.ext hx) hf h0 h1)
 have HSt:Hid (chk rows=0→Start n (entry rows)):=fun h=>by rw [hn];exact zC2 h
 obtain ⟨ck,hck⟩:∃ z,chk rows=z:=⟨_,rfl⟩
 have HCK:=zH hck
 rw [hck] at HChk
 clear hn hr hf hck
 go_enter Tryz.func27,Tryz.ntmps27
 go_wp2_with (fail)
 refine HChk.out.mono ?_
 rintro e w1 ⟨rfl,hx⟩
 have HX1:=zH hx
 clear hx HChk
 by_cases hc0:ck=0
 case neg =>
  have HF:=zH (HNil.out ck w1 HX1.out (Or.inl ⟨by rw [HCK.out];exact hc0,HCK.out.symm⟩))
  go_wp2
  first
  | exact HF.out
  | exact bodyPost_ret (v:=.tuple #[.slice none 0 0,.int .i64 ck]) (by simp [results,Tryz.results27,go_sem]) rfl HF.out
 subst hc0
 by_cases hT:0≤N∧N≤4096
 case neg =>
  have HF:=zH (HNil.out 2 w1 HX1.out (Or.inr (Or.inl ⟨HCK.out,hT,rfl⟩)))
  have HTe:=zH (terms_no N hT)
  clear hT
  go_wp2_with (fail)
  refine (HTe.out _).mono ?_
  rintro e w2 ⟨rfl,rfl⟩
  go_wp2
  first
  | exact HF.out
  | exact bodyPost_ret (v:=.tuple #[.slice none 0 0,.int .i64 2]) (by simp [results,Tryz.results27,go_sem]) rfl HF.out
 have HTe:=zH (yAK N hT)
 obtain ⟨hN2,hN3⟩:=hT
 go_wp2_with (fail)
 refine (HTe.out _).mono ?_
 rintro e w2 ⟨rfl,rfl⟩
 by_cases hz:N=0
 case pos =>
  have HF:=zH (HNil.out 0 w2 HX1.out (Or.inr (Or.inr (Or.inl ⟨HCK.out,hz,rfl⟩))))
  go_wp2
  first
  | exact HF.out
  | exact bodyPost_ret (v:=.tuple #[.slice none 0 0,.int .i64 0]) (by simp [results,Tryz.results27,go_sem]) rfl HF.out
 obtain ⟨K,rfl⟩:∃ K:Nat,N=K:=⟨N.toNat,by omega⟩
 have hK1:1≤K:=by omega
 have hK2:K≤4096:=by omega
 clear hN0 hN1 hN2 hN3 HTe
 go_wp2_with (fail)
 refine (HAll.out _ HX1.out ((K:Int) - 1) om om).mono ?_
 rintro e w3 ⟨hx,h⟩
 have HX3:=zH (HX1.out.trans hx)
 rcases h with ⟨h1,_⟩|⟨_,h2,_⟩|⟨_,_,_,L,hL,h⟩
 ·exact absurd HCK.out h1
 ·exact absurd ⟨by omega,by omega⟩ h2
 rcases h with ⟨h4,v,bs,rfl,h5,rfl⟩|⟨h4,rfl⟩
 case inr =>
  have HF:=zH (HNil.out 9 w3 HX3.out (Or.inr (Or.inr (Or.inr ⟨HCK.out,by omega,by omega,⟨L,hL,h4⟩,rfl⟩))))
  clear hx hL h4
  go_wp2
  first
  | exact HF.out
  | exact bodyPost_ret (v:=.tuple #[.slice none 0 0,.int .i64 9]) (by simp [results,Tryz.results27,go_sem]) rfl HF.out
 obtain ⟨Al,k,cl,rfl,hk⟩:∃ A' k' c',v = .slice A' k' c'∧k'=bs.length:=by
  rcases h5.val with ⟨rfl,rfl⟩|⟨g,cap,rfl,_⟩
  ·exact ⟨_,_,_,rfl,rfl⟩
  ·exact ⟨_,_,_,rfl,rfl⟩
 have hk8:bs.length≤8192:=by simpa using h4
 have HL:=zH hL
 have HLs:=zH h5
 have HPos:=zH (fun q hq=>shorts_pos (HSt.out HCK.out) hL (q:=q) hq)
 subst hk
 clear hx hL h4 h5
 obtain ⟨cs,hmk,ht,hcell,hfree⟩:=zDD (K:Int) K rfl om w3
 obtain ⟨W0,hW0⟩:∃ W0,w3.alloc (.cells cs 2)=W0:=⟨_,rfl⟩
 obtain ⟨g,hg⟩:∃ g,w3.heap.size=g:=⟨_,rfl⟩
 have hlo:w3.heap.size≤g:=by omega
 have HX0:Hid (Ext w3 W0):=by rw [← hW0];exact (Ext.refl _).alloc _
 rw [hW0,hg] at hmk ht hcell hfree
 have HN0:Hid (NRow W0 g K (fun _=>0)):=⟨hcell,hfree,ht⟩
 have d0:=hcell 0 om
 have f0:=hfree 0
 have lg:=zAA d0
 simp only at lg
 clear hW0 hg ht hcell hfree
 go_wp2
 obtain ⟨W1,hW1⟩:∃ W1,W0.setCell ⟨g,0,none⟩ (.int .i64 1)=W1:=⟨_,rfl⟩
 have HN1:Hid (NRow W1 g K (thC ((bs.map (·.2)).take 0))):=by
  rw [← hW1]
  refine (HN0.out.set_ (j:=0) om 1).congr fun j _=>?_
  unfold thC;simp
 have HX1':Hid (Ext w3 W1):=by rw [← hW1];exact HX0.out.setCell hlo _
 rw [hW1]
 clear hW1 HN0 HX0 d0 f0 lg hmk
 go_loopg [38] bs.length (fun kk iv wk=>∃ i:Nat,kk+i=bs.length∧iv = .int .i64 i∧Hid (NRow wk g K (thC ((bs.map (·.2)).take i)))∧Hid (Ext w3 wk))
 case atStart=>exact ⟨0,by omega,rfl,HN1,HX1'⟩
 clear HN1 HX1'
 obtain ⟨i,hki,rfl,HN,HX⟩:=hrel
 by_cases hin:i < bs.length
 ·obtain ⟨gs,rfl,hcs2,hcell⟩:=HLs.out.slice rfl om
  obtain ⟨q,hq⟩:∃ q,bs[i]? = some q:=⟨_,List.getElem?_eq_getElem hin⟩
  have c0:=HX.out.cell (hcell i q hq).1
  have c1:=HX.out.cell (hcell i q hq).2
  have hq2:(bs.map (·.2))[i]? = some q.2:=by rw [List.getElem?_map,hq];rfl
  have hpos:=HPos.out q.2 (List.mem_of_getElem? hq2)
  have hle:=((HL.out.mem q.2.1 q.2.2).1 (List.mem_of_getElem? hq2)).2.2.1
  obtain ⟨zn,hzn⟩:∃ z:Nat,q.2.2=z:=⟨q.2.2.toNat,by omega⟩
  obtain ⟨qb,hqb⟩:∃ z,q.1=z:=⟨_,rfl⟩
  have hznK:zn < K:=by omega
  have HQ:=zH hq2
  have HZ:=zH hzn
  have hlen:((bs.map (·.2)).take i).length≤8192:=by rw [List.length_take,List.length_map];omega
  obtain ⟨t,ht⟩:∃ t,thC ((bs.map (·.2)).take i) zn=t:=⟨_,rfl⟩
  have ht0:0≤t:=by rw [← ht];exact (thC_le _ _).1
  have ht1:t≤20000:=by have:=(thC_le ((bs.map (·.2)).take i) zn).2;omega
  have dz:=HN.out.cell zn hznK
  rw [ht] at dz
  have HT:=zH ht
  rw [hzn] at c1
  rw [hqb] at c0
  have l0:=zAA c0
  simp only at l0
  have HKI:=zH hki
  clear hcell hq hq2 hpos hle hlen ht hzn hqb hki
  go_upto_region 16 with (fail)
  obtain ⟨W1,hW1⟩:∃ W1,wr.alloc (.cells #[.slice (some ⟨qb,0,none⟩) n n,.int .i64 zn] 33)=W1:=⟨_,rfl⟩
  obtain ⟨b11,hb11⟩:∃ b,wr.heap.size=b:=⟨_,rfl⟩
  have hx1:Ext wr W1:=by rw [← hW1];exact (Ext.refl _).alloc _
  have HK11:Hid (Blk W1 b11 33 #[.slice (some ⟨qb,0,none⟩) n n,.int .i64 zn]):=by rw [← hW1,← hb11];exact Blk.new _ _ _
  have HXw:=zH (HX.out.trans hx1)
  have HNw:=zH (HN.out.ext hx1)
  (try rw [hW1])
  (try rw [hb11])
  have dz':=HNw.out.cell zn hznK
  rw [HT.out] at dz'
  have fz:=HNw.out.free zn
  have lg:=HNw.out.typ.lt
  have c11:=HK11.out.cell 1 rfl
  have l11:=HK11.out.lt
  clear hW1 hb11 hx1 HX HN c0 c1 l0 dz
  go_wp2
  go_roundg (bs.length - (i+1))
  case measure=>have:=HKI.out;omega
  case rel=>exact ⟨i+1,by have:=HKI.out;omega,by go_num,(HNw.out.set_ hznK (t+2)).congr fun m _=>by
    rw [thC_step HQ.out,HZ.out]
    by_cases e:m=zn
    ·subst e;rw [if_pos rfl,if_pos rfl,HT.out]
    ·rw [if_neg e,if_neg om];omega,HXw.out.setCell hlo _⟩
 ·obtain rfl:bs.length=i:=by omega
  have HN':Hid (NRow wr g K (thC (bs.map (·.2)))):=HN.out.congr fun m _=>by rw [List.take_of_length_le (by simp)]
  have HI:=zH (ints_any g K (thC (bs.map (·.2))) wr HN'.out om (fun j hj=>by have:=thC_le (bs.map (·.2)) j;simp only [List.length_map] at this;omega))
  have HX4:=zH (HX3.out.trans HX.out)
  clear HN HX hki
  go_wp2_with (fail)
  refine HI.out.mono ?_
  rintro e w4 ⟨h,rfl,hm,hl,hx⟩
  have HF:=zH (HFull.out h w4 _ K (HX4.out.trans hx) HCK.out om om HL.out (by simpa using hk8) rfl (Nat.le_trans HX4.out.size hl) hm)
  clear hm hl hx
  go_wp2
  first
  | exact HF.out
  | exact bodyPost_ret (v:=.tuple #[.slice (some ⟨h,0,none⟩) K K,.int .i64 0]) (by simp [results,Tryz.results27,go_sem]) rfl HF.out
theorem wrapZ {z:Int} (h:-9223372036854775808≤z∧z≤9223372036854775807):IntKind.i64.wrap z=z:=by
 simp only [IntKind.wrap,IntKind.bits,IntKind.signed,Bool.true_and,decide_eq_true_eq,ge_iff_le]
 (repeat split) <;> omega
theorem wrapN {j:Nat} (h:j≤100000000):IntKind.i64.wrap (j:Int)=(j:Int):=wrapZ om
def sqT (r m x:Nat):Int:=if x*x≤m then (if x=0 then 1 else 2)*sqW r (m - x*x) else 0
def sqS (r m x:Nat):Int:=sm x (sqT r m)
theorem sqS_all {r m x:Nat} (hx:x≤m+1) (h:m < x*x):sqS r m x=sqW (r+1) m:=by
 show _=sm (m+1) (sqT r m)
 unfold sqS
 rw [sm_tail (p:=m+1) hx fun i h1 _=>by
  unfold sqT
  have:x*x≤i*i:=Nat.mul_le_mul h1 h1
  rw [if_neg om]]
theorem sqT_nonneg (r m x:Nat):0≤sqT r m x:=by
 unfold sqT
 split
 ·exact Int.mul_nonneg (by split <;> decide) (yAE _ _)
 ·exact Int.le_refl _
theorem sm_leB {n:Nat} {f:Nat→Int} {B:Int} (h:∀ i,i < n→f i≤B):sm n f≤n*B:=by
 induction n with
 | zero=>simp [sm]
 | succ n ih =>
  have h1:=ih fun i hi=>h i om
  have h2:=h n om
  simp only [sm]
  rw [Int.natCast_add,Int.add_mul]
  omega
theorem sqS_mono {r m x y:Nat} (h:x≤y):sqS r m x≤sqS r m y:=by
 obtain ⟨d,rfl⟩:=Nat.exists_eq_add_of_le h
 unfold sqS
 rw [sm_split]
 have:=yAI (n:=d) (f:=fun i=>sqT r m (x+i)) fun i _=>sqT_nonneg _ _ _
 omega
theorem sqW_le:∀ (k m:Nat),m < 4096→sqW k m≤((128 ^ k:Nat):Int)
 | 0,m,_=>by simp only [sqW];split <;> decide
 | k+1,m,hm=>by
  have h1:sqW (k+1) m=sqS k m (m+1):=rfl
  have h2:sqS k m (m+1)≤sqS k m 64:=by
   by_cases h:m+1≤64
   ·exact sqS_mono h
   ·refine Int.le_of_eq ?_
    exact sm_tail om fun i h1 _=>by
     unfold sqT
     have:64*64≤i*i:=Nat.mul_le_mul h1 h1
     rw [if_neg om]
  have h3:sqS k m 64≤((64:Nat):Int)*(2*((128 ^ k:Nat):Int)):=sm_leB fun i _=>by
   have h0:(0:Int)≤((128 ^ k:Nat):Int):=Int.natCast_nonneg _
   unfold sqT
   split
   ·have h4:=sqW_le k (m - i*i) om
    have h5:=yAE k (m - i*i)
    split <;> omega
   ·omega
  rw [h1,Nat.pow_succ,Int.natCast_mul]
  omega
theorem pow128 {k:Nat} (h:k≤8):((128 ^ k:Nat):Int)≤72057594037927936:=by
 have h1:128 ^ k≤128 ^ 8:=Nat.pow_le_pow_right (by decide) h
 have h2:(128:Nat) ^ 8=72057594037927936:=by decide
 omega
theorem yAA {k m:Nat} (hk:k≤8) (hm:m < 4096):0≤sqW k m∧sqW k m≤72057594037927936:=⟨yAE k m,Int.le_trans (sqW_le k m hm) (pow128 hk)⟩
theorem sqS_small {r m x:Nat} (hr:r < 8) (hm:m < 4096) (hx:x≤m+1):0≤sqS r m x∧sqS r m x≤72057594037927936 :=
 ⟨yAI fun i _=>sqT_nonneg _ _ _,Int.le_trans (sqS_mono hx) (yAA (k:=r+1) om hm).2⟩
theorem yAB (m:Int) (n:Nat) (h:m=n) (hn:n≤100000) (w:World) :
  ∃ cs,(Instr.makeSlice 31 (.int .i64 m) (.int .i64 m)).run Tryz.prog w = .ok (.slice (some ⟨w.heap.size,0,none⟩) n n) (w.alloc (.cells cs 2))∧NRow (w.alloc (.cells cs 2)) w.heap.size n (fun _=>0):=by
 obtain ⟨cs,h1,h2,h3,h4⟩:=zDD m n h hn w
 exact ⟨cs,h1,h3,h4,h2⟩
theorem yAC (b:Nat):∀ (vs:List Value) (o:Nat) (w:World),(w.setCells b o vs).heap.size=w.heap.size∧(∀ t i,TB w t i→TB (w.setCells b o vs) t i)∧(∀ i,i≠b→(w.setCells b o vs).heap[i]? = w.heap[i]?)∧∀ a,a.heap.size≤b→Ext a w→Ext a (w.setCells b o vs)
 | [],_,_=>⟨rfl,fun _ _ h=>h,fun _ _=>rfl,fun _ _ h=>h⟩
 | v :: r,o,w=>by
  obtain ⟨h1,h2,h3,h4⟩:=yAC b r (o+1) (w.setCell ⟨b,o,none⟩ v)
  refine ⟨h1.trans (by simp [World.setCell]),fun t i h=>h2 t i (h.set_ _ _),fun i hi=>(h3 i hi).trans (heap_setCell_other w ⟨b,o,none⟩ i v hi),fun a ha hx=>h4 a ha (hx.setCell (p:=⟨b,o,none⟩) ha _)⟩
theorem NRow.other {w w':World} {b n:Nat} {f:Nat→Int} (r:NRow w b n f) (e:w'.heap[b]? = w.heap[b]?):NRow w' b n f :=
 ⟨fun j hj=>by rw [zBB e];exact r.cell j hj,fun j=>by rw [zBp e];exact r.free j,r.typ.of_eq e⟩
theorem clear_row {w:World} {b n c:Nat} {f:Nat→Int} (r:NRow w b n f) :
  ∃ w',(∀ ty,(Builtin.clear_ #[31] ty #[.slice (some ⟨b,0,none⟩) n c]).run Tryz.prog w = .ok (.tuple #[]) w')∧NRow w' b n (fun _=>0)∧(∀ i,i≠b→w'.heap[i]? = w.heap[i]?)∧∀ a,a.heap.size≤b→Ext a w→Ext a w':=by
 have hz:∀ w,(zeroValue 2).run Tryz.prog w = .ok (.int .i64 0) w:=fun w=>by kernel_rfl
 rcases Nat.eq_zero_or_pos n with rfl|hn
 ·exact ⟨w,fun ty=>by simp [Builtin.clear_,run_underlying Tryz.underlying31,hz,Result.andThen],⟨fun j hj=>by omega,r.free,r.typ⟩,fun _ _=>rfl,fun _ _ h=>h⟩
 ·obtain ⟨h1,h2,h3,h4⟩:=yAC b (List.replicate n (Value.int .i64 0)) 0 w
  refine ⟨_,fun ty=>Lib.run_clear_slice w _ 2 ty (.int .i64 0) Tryz.underlying31 hz rfl rfl b 0 n c hn (fun j hj=>by rw [Nat.zero_add,r.cell j hj];rfl) (fun j hj=>r.free _),⟨fun j hj=>?_,fun j=>?_,h2 _ _ r.typ⟩,h3,h4⟩
  ·have:=World.cell?_setCells_in b (List.replicate n (Value.int .i64 0)) 0 w (fun j hj=>by rw [Nat.zero_add,r.cell j (by simpa using hj)];rfl) j (by simpa using hj)
   rw [Nat.zero_add] at this
   rw [this,List.getElem_replicate]
  ·rw [World.frozen?_setCells];exact r.free j
set_option exponentiation.threshold 5000
def mulP (kb:Nat) (fa fb:Nat→Int) (k i:Nat):Int:=sm i fun t=>if k - t < kb then fa t*fb (k - t) else 0
def mulT (ka kb:Nat) (fa fb:Nat→Int) (k:Nat):Int:=mulP kb fa fb k (min (k+1) ka)
theorem mulP_skip {kb:Nat} {fa fb:Nat→Int} {k i:Nat} (h:¬ k - i < kb):mulP kb fa fb k (i+1)=mulP kb fa fb k i:=by
 unfold mulP;simp only [sm];rw [if_neg h,Int.add_zero]
theorem mulP_step {kb:Nat} {fa fb:Nat→Int} {k i:Nat} (h:k - i < kb):mulP kb fa fb k (i+1)=mulP kb fa fb k i+fa i*fb (k - i):=by
 unfold mulP;simp only [sm];rw [if_pos h]
def Mild (k:Nat) (f:Nat→Int):Prop:=∀ i,i < k→(f i).natAbs≤2 ^ 2000
theorem mul_mild {ka kb:Nat} {fa fb:Nat→Int} (ha:Mild ka fa) (hb:Mild kb fb) {i j:Nat} (hi:i < ka) (hj:j < kb):(fa i*fb j).natAbs≤2 ^ 4000:=by
 rw [Int.natAbs_mul]
 calc (fa i).natAbs*(fb j).natAbs≤2 ^ 2000*2 ^ 2000:=Nat.mul_le_mul (ha i hi) (hb j hj)
  _=2 ^ 4000:=by rw [← Nat.pow_add]
theorem mulP_mild {ka kb:Nat} {fa fb:Nat→Int} (ha:Mild ka fa) (hb:Mild kb fb) (k:Nat):∀ i,i≤ka→(mulP kb fa fb k i).natAbs≤i*2 ^ 4000
 | 0,_=>by simp [mulP,sm]
 | i+1,hi=>by
  have ih:=mulP_mild ha hb k i om
  have h1:=fun h=>mul_mild ha hb (show i < ka by omega) (j:=k - i) h
  generalize hT:(2:Nat) ^ 4000=T at ih h1 ⊢
  by_cases h:k - i < kb
  ·rw [mulP_step h]
   have h1:=h1 h
   have h2:=Int.natAbs_add_le (mulP kb fa fb k i) (fa i*fb (k - i))
   rw [Nat.succ_mul];omega
  ·rw [mulP_skip h,Nat.succ_mul];omega
theorem yAH {z:Int} (h:z.natAbs < 2 ^ 4096):codeZ z=0:=by unfold codeZ;rw [if_pos ((zAW _ _).2 h)]
theorem two_4096:(5000:Nat)*2 ^ 4000 < 2 ^ 4096:=by decide +kernel
theorem fit_mul {ka kb:Nat} {fa fb:Nat→Int} (ha:Mild ka fa) (hb:Mild kb fb) {i j:Nat} (hi:i < ka) (hj:j < kb):fitZ (fa i*fb j)=fa i*fb j∧codeZ (fa i*fb j)=0:=by
 have h1:=mul_mild ha hb hi hj
 have h2:=two_4096
 have h0:(fa i*fb j).natAbs < 2 ^ 4096:=by
  generalize hT:(2:Nat) ^ 4000=T at h1 h2
  generalize hS:(2:Nat) ^ 4096=S at h2 ⊢
  omega
 exact ⟨zA2 h0,yAH h0⟩
theorem fit_sum {ka kb:Nat} {fa fb:Nat→Int} (ha:Mild ka fa) (hb:Mild kb fb) (k:Nat) {i:Nat} (hi:i≤ka) (hk:i≤4999):fitZ (mulP kb fa fb k i)=mulP kb fa fb k i∧codeZ (mulP kb fa fb k i)=0:=by
 have h1:=mulP_mild ha hb k i hi
 have h2:=two_4096
 have h3:i*2 ^ 4000≤4999*2 ^ 4000:=Nat.mul_le_mul_right _ hk
 have h0:(mulP kb fa fb k i).natAbs < 2 ^ 4096:=by
  generalize hT:(2:Nat) ^ 4000=T at h1 h2 h3
  generalize hS:(2:Nat) ^ 4096=S at h2 ⊢
  omega
 exact ⟨zA2 h0,yAH h0⟩
def SerA (w:World) (A:Option Addr) (k:Nat) (f:Nat→Int):Prop:=0 < k→∃ h,A=some ⟨h,0,none⟩∧MRow w h k f
theorem MRow.serA {w:World} {h k:Nat} {f:Nat→Int} (r:MRow w h k f):SerA w (some ⟨h,0,none⟩) k f:=fun _=>⟨h,rfl,r⟩
end Go.Proofs.YtdkgilioejdmeaaGreat
