/- YtdkgilioejdmeaaGreatTQ1: what is proved here stands in the theorems' own rows. -/
import Derived.Test.YtdkgilioejdmeaaGreatProg
import Derived.WalkKit
import Derived.Deep.Draws
import Derived.Deep.QuietTactic
import Derived.BigQuiet
import Derived.KernelRfl
import Derived.Lib.Hide
import Derived.Shelf.Small.Bits
import Derived.Shelf.Strconv.Itoa0
import Derived.Lib.ItoaNum
import Derived.Laws.BitsLemmas
import Derived.Deep.LoopGhost
import Derived.Laws.CopyOwn
import Derived.Laws.MakeOwn
import Derived.Maps.AppendAt
import Derived.Deep.AppendLies
import Derived.Laws.Rows
import Derived.Deep.RegionHeld3
import Derived.Deep.DeepCutAuto
import Derived.Deep.CutBlock
import Derived.Outline
import Derived.RegionTactic
import Derived.Deep.RegionWith
import Derived.Laws.OwnMore
import Derived.Deep.RegionHeld
import Derived.StillTail
import Derived.StillTailTactics
import Derived.IntWalk
import Derived.RangeFuncCalls
import Derived.RangeFuncBound
import Derived.RangeFuncKeeps
import Derived.TacticsIn
import Derived.RegionIn
import Derived.Laws.EntriesVeiled
import Derived.Sort.Grow
import Derived.Shelf.SlGeneric
import Derived.Shelf.SlSortCmp.WholeK
import Derived.Shelf.SlSortCmp.NoneTotal
import Derived.Ground.SlsfProg
import Derived.OwnWalkIn
import Derived.Lib.SliceRun
import Derived.Test.YtdkgilioejdmeaaGreatRows
import Derived.ProofKit
import Derived.OpenShut
import Derived.Deep.Matrix
import Derived.SizedLaws
import Derived.Deep.DeepHandedRow
import Derived.Deep.DeepWitnessRowRef
import Derived.LaidHandle
import Derived.LaidLaws
import Derived.Below
import Derived.ChangeSame
import Derived.ChangeMaps5
import Derived.Test.YtdkgilioejdmeaaGreatBA1
import Derived.Test.YtdkgilioejdmeaaGreatBA2
import Derived.Test.YtdkgilioejdmeaaGreatBA3
import Derived.Test.YtdkgilioejdmeaaGreatBA4
import Derived.Test.YtdkgilioejdmeaaGreatBA5
import Derived.Test.YtdkgilioejdmeaaGreatBA6
import Derived.Test.YtdkgilioejdmeaaGreatBA7
import Derived.Test.YtdkgilioejdmeaaGreatBA8
import Derived.Test.YtdkgilioejdmeaaGreatBA9
import Derived.Test.YtdkgilioejdmeaaGreatBA10
import Derived.Test.YtdkgilioejdmeaaGreatBA11
import Derived.Test.YtdkgilioejdmeaaGreatBA12
import Derived.Test.YtdkgilioejdmeaaGreatBA13
set_option linter.unusedVariables false
set_option linter.unusedSimpArgs false
namespace Go.Proofs.YtdkgilioejdmeaaGreat
open Go.RowKit
theorem eq_of_sorted {α : Type} {lt : α → α → Prop} (irr:∀ a,¬ lt a a) (tr:∀ a b c,lt a b→lt b c→lt a c):∀ (L M:List α),L.Pairwise lt→M.Pairwise lt→(∀ x,x∈L↔x∈M)→L=M:=by
 intro L
 induction L with
 | nil =>
  intro M _ _ h
  cases M with
  | nil=>rfl
  | cons b M=>exact absurd ((h b).2 (List.mem_cons_self ..)) (by simp)
 | cons a L ih =>
  intro M hL hM h
  cases M with
  | nil=>exact absurd ((h a).1 (List.mem_cons_self ..)) (by simp)
  | cons b M =>
   have hL1:=List.pairwise_cons.1 hL
   have hM1:=List.pairwise_cons.1 hM
   have hab:a=b:=by
    rcases List.mem_cons.1 ((h a).1 (List.mem_cons_self ..)) with e|e
    ·exact e
    ·rcases List.mem_cons.1 ((h b).2 (List.mem_cons_self ..)) with e2|e2
     ·exact e2.symm
     ·exact absurd (tr _ _ _ (hM1.1 a e) (hL1.1 b e2)) (irr b)
   subst hab
   rw [ih M hL1.2 hM1.2 fun x=>?_]
   constructor
   ·intro hx
    rcases List.mem_cons.1 ((h x).1 (List.mem_cons_of_mem _ hx)) with e|e
    ·subst e;exact absurd (hL1.1 x hx) (irr x)
    ·exact e
   ·intro hx
    rcases List.mem_cons.1 ((h x).2 (List.mem_cons_of_mem _ hx)) with e|e
    ·subst e;exact absurd (hM1.1 x hx) (irr x)
    ·exact e
theorem Shorts.unique {n:Nat} {f:Nat→Nat→Int} {nb:Int} {L M:List (List Int × Int)} (h:Shorts n f nb L) (k:Shorts n f nb M):L=M :=
 eq_of_sorted (lt:=fun a b:List Int × Int=>lexL a.1 b.1) (fun a=>lexL_irr a.1) (fun _ _ _=>zCa) L M h.sorted k.sorted fun x=>by
  obtain ⟨y,z⟩:=x
  rw [h.mem,k.mem]
theorem SList.slice {w:World} {base n:Nat} {A:Option Addr} {k c:Nat} {bs:List SV} (h:SList w base n (.slice A k c) bs) (hk:k=bs.length) (h0:0 < k):∃ g,A=some ⟨g,0,none⟩∧k≤c∧∀ i p,bs[i]? = some p→w.cell? ⟨g,i*2,none⟩=some (.slice (some ⟨p.1,0,none⟩) n n)∧w.cell? ⟨g,i*2+1,none⟩=some (.int .i64 p.2.2):=by
 rcases h.val with ⟨h1,h2⟩|⟨g,cap,h1,h2,_,_,h5,_⟩
 ·subst h1;cases h2;simp at hk;omega
 ·cases h1;exact ⟨g,rfl,h2,h5⟩
theorem yAK (B:Nat):∀ n,(boxL B n).Pairwise lexL:=by
 intro n
 induction n with
 | zero=>exact List.pairwise_singleton _ _
 | succ n ih =>
  show ((List.range (2*B+1)).flatMap fun (i:Nat)=>(boxL B n).map fun v=>((i:Int) - (B:Int)) :: v).Pairwise lexL
  rw [List.pairwise_flatMap]
  refine ⟨fun i hi=>?_,?_⟩
  ·rw [List.pairwise_map]
   refine ih.imp fun {a b} h=>?_
   unfold lexL lexC
   rw [if_neg om,if_neg om]
   exact h
  ·refine List.pairwise_lt_range.imp fun {i j} hij x hx y hy=>?_
   obtain ⟨v,_,rfl⟩:=List.mem_map.1 hx
   obtain ⟨u,_,rfl⟩:=List.mem_map.1 hy
   unfold lexL lexC
   rw [if_pos om]
   decide
def boxS (n:Nat) (f:Nat→Nat→Int) (nb:Int) (B:Nat):List (List Int × Int) :=
 ((boxL B n).filter fun v=>decide (v.length=n) && (decide (qf n f (vat v)≤nb) && firstP v)).map fun v=>(v,qf n f (vat v))
theorem shorts_box {n:Nat} {f:Nat→Nat→Int} (h:PD n f) {E:Nat} (hE:∀ i c,i < n→c < n→(f i c).natAbs≤E) (nb:Int) (B:Nat) (hB:nb*((fct (n - 1)*E ^ (n - 1):Nat):Int) < ((B:Int)+1)*((B:Int)+1)):Shorts n f nb (boxS n f nb B):=by
 refine ⟨?_,fun y z=>?_⟩
 ·unfold boxS
  rw [List.pairwise_map];exact (yAK B n).sublist List.filter_sublist
 ·unfold boxS
  rw [List.mem_map]
  constructor
  ·rintro ⟨v,hv,e⟩
   rw [List.mem_filter] at hv
   simp only [Bool.and_eq_true,decide_eq_true_eq] at hv
   cases e
   exact ⟨hv.2.1,rfl,hv.2.2.1,hv.2.2.2⟩
  ·rintro ⟨hy,hz,hb,hp⟩
   refine ⟨y,List.mem_filter.2 ⟨mem_boxL hy fun i hi=>?_,by simp [hy,hp,← hz,hb]⟩,by rw [hz]⟩
   have h3:=h.coord hE (vat y) hi
   have h5:qf n f (vat y)*((fct (n - 1)*E ^ (n - 1):Nat):Int)≤nb*((fct (n - 1)*E ^ (n - 1):Nat):Int):=Int.mul_le_mul_of_nonneg_right om (Int.natCast_nonneg _)
   rcases Nat.lt_or_ge B (vat y i).natAbs with h7|h7
   ·exfalso
    have h8:(((vat y i).natAbs*(vat y i).natAbs:Nat):Int)=vat y i*vat y i:=by rw [Int.natCast_mul];exact Int.natAbs_mul_self
    have h9:(B+1)*(B+1)≤(vat y i).natAbs*(vat y i).natAbs:=Nat.mul_le_mul h7 h7
    have h10:(((B+1)*(B+1):Nat):Int)=((B:Int)+1)*((B:Int)+1):=by rw [Int.natCast_mul,Int.natCast_add];rfl
    omega
   ·exact h7
def hexa:List (List Int):=[[2,1],[1,2]]
theorem hexa_chk:chk hexa=0:=by kernel_rfl
theorem two_small {f:Nat→Nat→Int} {E:Nat} (h00:(f 0 0).natAbs≤E) (h01:(f 0 1).natAbs≤E) (h10:(f 1 0).natAbs≤E) (h11:(f 1 1).natAbs≤E):∀ i c,i < 2→c < 2→(f i c).natAbs≤E:=by
 intro i c hi hc
 rcases (show i=0∨i=1 by omega) with rfl|rfl <;> rcases (show c=0∨c=1 by omega) with rfl|rfl <;> assumption
set_option exponentiation.threshold 5000
def sl {α : Type} (g : α → Nat):List α → Nat
 | []=>0
 | a :: l=>g a+sl g l
theorem sl_app {α : Type} (g : α → Nat) (l m:List α):sl g (l ++ m)=sl g l+sl g m:=by
 induction l with
 | nil=>simp [sl]
 | cons a l ih=>simp only [List.cons_append,sl,ih];omega
theorem sl_flat {α β : Type} (g : β → Nat) (h : α → List β) (l:List α):sl g (l.flatMap h)=sl (fun a=>sl g (h a)) l:=by
 induction l with
 | nil=>rfl
 | cons a l ih=>rw [List.flatMap_cons,sl_app,ih];rfl
theorem sl_map {α β : Type} (g : β → Nat) (h : α → β) (l:List α):sl g (l.map h)=sl (fun a=>g (h a)) l:=by
 induction l with
 | nil=>rfl
 | cons a l ih=>simp only [List.map_cons,sl,ih]
theorem sl_congr {α : Type} {g h : α → Nat} {l:List α} (e:∀ a,a∈l→g a=h a):sl g l=sl h l:=by
 induction l with
 | nil=>rfl
 | cons a l ih=>simp only [sl];rw [e a (List.mem_cons_self ..),ih fun b hb=>e b (List.mem_cons_of_mem _ hb)]
theorem countP_sl {α : Type} (p : α → Bool) (l:List α):l.countP p=sl (fun a=>if p a=true then 1 else 0) l:=by
 induction l with
 | nil=>rfl
 | cons a l ih=>rw [List.countP_cons,ih];simp only [sl];omega
theorem sl_range (g:Nat→Nat) (n:Nat):((sl g (List.range n):Nat):Int)=sm n fun i=>(g i:Int):=by
 induction n with
 | zero=>rfl
 | succ n ih=>rw [List.range_succ,sl_app,Int.natCast_add,ih];simp [sl,sm]
theorem yAJ (n p:Nat) (f:Nat→Int):sm (n+p) f=sm n f+sm p fun i=>f (n+i):=by
 induction p with
 | zero=>simp [sm]
 | succ p ih=>show sm (n+p) f+f (n+p)=_;rw [ih];simp only [sm];omega
theorem sm_left (n:Nat) (f:Nat→Int):sm (n+1) f=f 0+sm n fun i=>f (i+1):=by
 rw [show n+1=1+n by omega,yAJ]
 simp only [sm,Int.zero_add]
 congr 1
 exact zAC fun i _=>by rw [Nat.add_comm]
theorem sm_tail {n p:Nat} {f:Nat→Int} (hnp:n≤p) (h:∀ i,n≤i→i < p→f i=0):sm p f=sm n f:=by
 obtain ⟨d,rfl⟩:=Nat.exists_eq_add_of_le hnp
 rw [yAJ,zA5 (n:=d) fun i hi=>h _ om om,Int.add_zero]
theorem sm_flip (n:Nat) (f:Nat→Int):sm n (fun i=>f (n - 1 - i))=sm n f:=by
 induction n generalizing f with
 | zero=>rfl
 | succ n ih =>
  rw [sm_left]
  show f (n+1 - 1 - 0)+_=sm n f+f n
  rw [← ih f]
  have:(sm n fun i=>f (n+1 - 1 - (i+1)))=sm n fun i=>f (n - 1 - i):=zAC fun i hi=>by congr 1;omega
  rw [this,show n+1 - 1 - 0=n by omega];omega
theorem boxL_len {B n:Nat}:∀ {v:List Int},v∈boxL B n→v.length=n:=by
 induction n with
 | zero=>intro v hv;rw [List.mem_singleton.1 hv];rfl
 | succ n ih =>
  intro v hv
  obtain ⟨i,_,h⟩:=List.mem_flatMap.1 hv
  obtain ⟨u,hu,rfl⟩:=List.mem_map.1 h
  simp [ih hu]
theorem lexL_ne {a b:List Int} (h:lexL a b):a≠b:=fun e=>lexL_irr a (by rw [← e] at h;exact h)
theorem boxL_nodup (B n:Nat):(boxL B n).Nodup:=(yAK B n).imp lexL_ne
def cN (B n:Nat) (f:Nat→Nat→Int) (m:Nat):Nat:=(boxL B n).countP fun v=>decide (qf n f (vat v)=(m:Int))
theorem cN_congr {B n:Nat} {f g:Nat→Nat→Int} (h:∀ i j,i < n→j < n→f i j=g i j) (m:Nat):cN B n f m=cN B n g m:=by
 unfold cN
 congr 1;funext v
 rw [show qf n f (vat v)=qf n g (vat v) from bf_congr h (fun _ _=>rfl) (fun _ _=>rfl)]
theorem vat_neg (v:List Int) (i:Nat):vat (v.map fun z=>-z) i = -1*vat v i:=by
 unfold vat
 rw [List.getElem?_map]
 cases v[i]? <;> simp
theorem qf_neg (n:Nat) (f:Nat→Nat→Int) (v:List Int):qf n f (vat (v.map fun z=>-z))=qf n f (vat v):=by
 rw [show vat (v.map fun z=>-z)=fun i=>-1*vat v i from funext (vat_neg v)]
 unfold qf
 rw [zBI,zA8];omega
theorem firstP_neg:∀ v:List Int,(∃ x,x∈v∧x≠0)→firstP (v.map fun z=>-z) = !firstP v
 | [],h=>by obtain ⟨x,hx,_⟩:=h;cases hx
 | a :: s,h=>by
  by_cases h0:a=0
  ·subst h0
   have h1:=firstP_neg s (by
    obtain ⟨x,hx,hne⟩:=h
    rcases List.mem_cons.1 hx with rfl|hx
    ·exact absurd rfl hne
    ·exact ⟨x,hx,hne⟩)
   simpa [firstP] using h1
  ·have h1:¬ -a=0:=by omega
   simp only [List.map_cons,firstP,if_neg h0,if_neg h1]
   by_cases h2:0 < a
   ·rw [decide_eq_true h2,decide_eq_false om];rfl
   ·rw [decide_eq_false h2,decide_eq_true om];rfl
theorem yAB (v:List Int):(v.map fun z=>-z).map (fun z=>-z)=v:=by
 rw [List.map_map]
 have:((fun z:Int=>-z) ∘ fun z:Int=>-z)=id:=by funext z;simp
 rw [this,List.map_id]
theorem qf_zero {n:Nat} {f:Nat→Nat→Int} {x:Nat→Int} (h:∀ i,i < n→x i=0):qf n f x=0:=by
 unfold qf bf
 exact zA5 fun i hi=>by rw [h i hi,Int.zero_mul]
theorem nonzero_ex {n:Nat} {f:Nat→Nat→Int} {v:List Int} (h:qf n f (vat v)≠0):∃ x,x∈v∧x≠0:=by
 refine Classical.byContradiction fun hc=>h (qf_zero fun i _=>?_)
 unfold vat
 cases hv:v[i]? with
 | none=>rfl
 | some z =>
  refine Classical.byContradiction fun hz=>hc ⟨z,List.mem_of_getElem? hv,hz⟩
theorem vec_zero {n:Nat} {f:Nat→Nat→Int} (h:Start n f) {v:List Int} (hv:v.length=n) (hq:qf n f (vat v)=0):v=List.replicate n 0:=by
 refine vec_ext hv (by simp) fun i hi=>?_
 have h1:=h.pd.coord (B:=16384) (fun i c hi hc=>h.small i c hi hc) (vat v) hi
 rw [hq,Int.zero_mul] at h1
 have h2:vat (List.replicate n 0) i=0:=by unfold vat;rw [List.getElem?_replicate,if_pos hi];rfl
 rw [h2]
 have h3:(vat v i).natAbs*(vat v i).natAbs=0:=by
  have:(((vat v i).natAbs*(vat v i).natAbs:Nat):Int)=vat v i*vat v i:=by rw [Int.natCast_mul];exact Int.natAbs_mul_self
  omega
 have h4:(vat v i).natAbs=0:=by rcases Nat.mul_eq_zero.1 h3 with h|h <;> exact h
 omega
theorem firstP_rep (n:Nat):firstP (List.replicate n 0)=false:=by
 induction n with
 | zero=>rfl
 | succ n ih=>rw [List.replicate_succ];exact ih
def Wide (B n:Nat) (f:Nat→Nat→Int) (nb:Int):Prop:=∀ x:Nat→Int,qf n f x≤nb→∀ i,i < n→(x i).natAbs≤B
theorem Start.wide {n:Nat} {f:Nat→Nat→Int} (h:Start n f) {nb:Int} (h0:0≤nb) (h1:nb≤4096):Wide (2 ^ 62) n f nb:=fun x hx i hi =>
 Nat.le_of_lt (x_sz h (r:=0) om (nb:=nb) (by rw [Qr_zero];show _≤nb*1;omega) h1 h0 hi om)
theorem cN_zero {B n:Nat} {f:Nat→Nat→Int} (h:Start n f):cN B n f 0=1:=by
 unfold cN
 rw [List.countP_eq_length_filter]
 have hq:qf n f (vat (List.replicate n 0))=0:=qf_zero fun i hi=>by unfold vat;rw [List.getElem?_replicate,if_pos hi];rfl
 refine Nat.le_antisymm (nodup_le _ [List.replicate n 0] (List.filter_sublist.nodup (boxL_nodup B n)) fun x hx=>?_) (nodup_le [List.replicate n 0] _ (List.pairwise_singleton _ _) fun x hx=>?_)
 ·obtain ⟨h1,h2⟩:=List.mem_filter.1 hx
  have h3:qf n f (vat x)=0:=by simpa using h2
  exact List.mem_singleton.2 (vec_zero h (boxL_len h1) h3)
 ·rw [List.mem_singleton.1 hx]
  refine List.mem_filter.2 ⟨mem_boxL (by simp) fun i hi=>?_,by simpa using hq⟩
  unfold vat;rw [List.getElem?_replicate,if_pos hi];exact Nat.zero_le _
theorem cN_pos {B n:Nat} {f:Nat→Nat→Int} {nb:Int} {L:List (List Int × Int)} (hL:Shorts n f nb L) (hW:Wide B n f nb) {m:Nat} (hm:1≤m) (hmb:(m:Int)≤nb):cN B n f m=2*L.countP fun q=>decide (q.2=(m:Int)):=by
 obtain ⟨K,hK⟩:∃ K,(L.filter fun q=>decide (q.2=(m:Int))).map Prod.fst=K:=⟨_,rfl⟩
 obtain ⟨M,hM⟩:∃ M,(boxL B n).filter (fun v=>decide (qf n f (vat v)=(m:Int)))=M:=⟨_,rfl⟩
 have hKm:∀ x,x∈K↔x.length=n∧qf n f (vat x)=(m:Int)∧firstP x=true:=fun x=>by
  rw [← hK,List.mem_map]
  constructor
  ·rintro ⟨q,hq,rfl⟩
   obtain ⟨h1,h2⟩:=List.mem_filter.1 hq
   obtain ⟨h3,h4,h5,h6⟩:=(hL.mem q.1 q.2).1 h1
   have h7:q.2=(m:Int):=by simpa using h2
   exact ⟨h3,by rw [← h4,h7],h6⟩
  ·rintro ⟨h1,h2,h3⟩
   exact ⟨(x,(m:Int)),List.mem_filter.2 ⟨(hL.mem x _).2 ⟨h1,h2.symm,hmb,h3⟩,by simp⟩,rfl⟩
 have hMm:∀ x,x∈M↔x.length=n∧qf n f (vat x)=(m:Int):=fun x=>by
  rw [← hM,List.mem_filter]
  constructor
  ·rintro ⟨h1,h2⟩;exact ⟨boxL_len h1,by simpa using h2⟩
  ·rintro ⟨h1,h2⟩;exact ⟨mem_boxL h1 (hW _ (by rw [h2];exact hmb)),by simpa using h2⟩
 have hKn:K.Nodup:=by
  rw [← hK]
  have h1:=hL.sorted.sublist (List.filter_sublist (p:=fun q=>decide (q.2=(m:Int))))
  unfold List.Nodup
  rw [List.pairwise_map]
  exact h1.imp fun {a b} h=>lexL_ne h
 have hMn:M.Nodup:=by rw [← hM];exact List.filter_sublist.nodup (boxL_nodup B n)
 have hne:∀ x,qf n f (vat x)=(m:Int)→firstP (x.map fun z=>-z) = !firstP x:=fun x hx=>firstP_neg x (nonzero_ex (n:=n) (f:=f) om)
 have hKK:(K ++ K.map (List.map fun z=>-z)).Nodup:=by
  rw [List.nodup_append]
  refine ⟨hKn,?_,fun a ha b hb e=>?_⟩
  ·unfold List.Nodup
   rw [List.pairwise_map]
   refine hKn.imp fun {a b} hab e=>hab ?_
   have:=congrArg (List.map fun z:Int=>-z) e
   rwa [yAB,yAB] at this
  ·obtain ⟨c,hc,rfl⟩:=List.mem_map.1 hb
   have h1:=(hKm a).1 ha
   have h2:=(hKm c).1 hc
   have h3:=hne c h2.2.1
   rw [← e,h1.2.2,h2.2.2] at h3
   cases h3
 have hlen:M.length=2*K.length:=by
  have h1:=nodup_le M (K ++ K.map (List.map fun z=>-z)) hMn fun x hx=>by
   obtain ⟨h2,h3⟩:=(hMm x).1 hx
   rw [List.mem_append]
   cases hp:firstP x with
   | true=>exact Or.inl ((hKm x).2 ⟨h2,h3,hp⟩)
   | false =>
    have h4:=hne x h3
    rw [hp] at h4
    exact Or.inr (List.mem_map.2 ⟨_,(hKm (x.map fun z=>-z)).2 ⟨by simpa using h2,by rw [qf_neg];exact h3,h4⟩,yAB x⟩)
  have h2:=nodup_le _ M hKK fun x hx=>by
   rw [hMm]
   rcases List.mem_append.1 hx with h|h
   ·exact ⟨((hKm x).1 h).1,((hKm x).1 h).2.1⟩
   ·obtain ⟨c,hc,rfl⟩:=List.mem_map.1 h
    exact ⟨by simpa using ((hKm c).1 hc).1,by rw [qf_neg];exact ((hKm c).1 hc).2.1⟩
  rw [List.length_append,List.length_map] at h1 h2
  omega
 unfold cN
 rw [List.countP_eq_length_filter,List.countP_eq_length_filter,hM,hlen,← hK,List.length_map]
def thC (L:List (List Int × Int)) (m:Nat):Int:=(if m=0 then 1 else 0)+2*((L.countP fun q=>decide (q.2=(m:Int)):Nat):Int)
theorem shorts_pos {n:Nat} {f:Nat→Nat→Int} {nb:Int} {L:List (List Int × Int)} (h:Start n f) (hL:Shorts n f nb L) {q:List Int × Int} (hq:q∈L):1≤q.2:=by
 obtain ⟨h1,h2,h3,h4⟩:=(hL.mem q.1 q.2).1 hq
 have h5:=h.pd.qf_nonneg (vat q.1)
 rcases Int.lt_or_le 0 q.2 with h6|h6
 ·omega
 ·have h7:=vec_zero h h1 om
  rw [h7,firstP_rep] at h4
  cases h4
theorem thC_cN {B n:Nat} {f:Nat→Nat→Int} {nb:Int} {L:List (List Int × Int)} (h:Start n f) (hL:Shorts n f nb L) (hW:Wide B n f nb) {m:Nat} (hmb:(m:Int)≤nb):thC L m=(cN B n f m:Int):=by
 unfold thC
 by_cases h0:m=0
 ·subst h0
  rw [cN_zero h,if_pos rfl,List.countP_eq_zero.2 fun q hq=>by have:=shorts_pos h hL hq;simp;omega]
  rfl
 ·rw [if_neg h0,cN_pos hL hW om hmb,Int.natCast_mul];simp
theorem thC_le (L:List (List Int × Int)) (m:Nat):0≤thC L m∧thC L m≤2*(L.length:Int)+1:=by
 unfold thC
 have:=List.countP_le_length (p:=fun q:List Int × Int=>decide (q.2=(m:Int))) (l:=L)
 split <;> omega
def idM (i j:Nat):Int:=if i=j then 1 else 0
theorem qf_id (n:Nat) (x:Nat→Int):qf n idM x=sm n fun i=>x i*x i:=by
 unfold qf bf
 refine zAC fun i hi=>?_
 rw [zBL (k:=i) hi fun j _ hne=>by unfold idM;rw [if_neg (Ne.symm hne),Int.zero_mul]]
 unfold idM;rw [if_pos rfl,Int.one_mul]
def sqW:Nat→Nat→Int
 | 0,m=>if m=0 then 1 else 0
 | k+1,m=>sm (m+1) fun x=>if x*x≤m then (if x=0 then 1 else 2)*sqW k (m - x*x) else 0
theorem yAE {n:Nat} {f:Nat→Int} (h:∀ i,i < n→0≤f i):0≤sm n f:=by
 induction n with
 | zero=>exact Int.le_refl _
 | succ n ih=>simp only [sm];have:=ih fun i hi=>h i om;have:=h n om;omega
theorem yAH (k m:Nat):0≤sqW k m:=by
 induction k generalizing m with
 | zero=>simp only [sqW];split <;> decide
 | succ k ih =>
  simp only [sqW]
  refine yAE fun x _=>?_
  split
  ·exact Int.mul_nonneg (by split <;> decide) (ih _)
  ·exact Int.le_refl _
theorem sm_sym (B:Nat) (g:Nat→Int):(sm (2*B+1) fun i=>g ((i:Int) - (B:Int)).natAbs)=sm (B+1) fun x=>(if x=0 then 1 else 2)*g x:=by
 rw [show 2*B+1=B+(B+1) by omega,yAJ,sm_left B fun x=>(if x=0 then 1 else 2)*g x]
 have h1:(sm B fun i=>g ((i:Int) - (B:Int)).natAbs)=sm B fun i=>g (i+1):=by
  rw [← sm_flip B fun i=>g (i+1)]
  exact zAC fun i hi=>by rw [show ((i:Int) - (B:Int)).natAbs=B - 1 - i+1 by omega]
 have h2:(sm (B+1) fun i=>g (((B+i:Nat):Int) - (B:Int)).natAbs)=sm (B+1) g:=zAC fun i _=>by rw [show (((B+i:Nat):Int) - (B:Int)).natAbs=i by omega]
 rw [h1,h2,sm_left B g,if_pos rfl,show (sm B fun i=>(if i+1=0 then 1 else 2)*g (i+1))=2*sm B fun i=>g (i+1) by rw [← zAY];exact zAC fun i _=>by rw [if_neg om]]
 omega
theorem le_sq (a:Nat):a≤a*a:=by
 cases a with
 | zero=>exact Nat.le_refl _
 | succ a=>exact Nat.le_mul_of_pos_left _ om
theorem cN_id {B:Nat} (k m:Nat) (hB:m≤B):(cN B k idM m:Int)=sqW k m:=by
 induction k generalizing m with
 | zero =>
  show ((List.countP (fun v=>decide (qf 0 idM (vat v)=(m:Int))) [[]]:Nat):Int)=_
  simp only [sqW]
  by_cases h:m=0
  ·subst h;rfl
  ·rw [if_neg h,List.countP_eq_zero.2 fun v _=>by rw [decide_eq_true_eq];show ¬ ((0:Int)=(m:Int));omega];rfl
 | succ k ih =>
  have hq:∀ (a:Int) (v:List Int),qf (k+1) idM (vat (a :: v))=a*a+qf k idM (vat v):=fun a v=>by
   rw [qf_id,qf_id,sm_left];rfl
  have hc:∀ a:Int,(boxL B k).countP (fun v=>decide (qf (k+1) idM (vat (a :: v))=(m:Int)))=if a.natAbs*a.natAbs≤m then cN B k idM (m - a.natAbs*a.natAbs) else 0:=fun a=>by
   have ha:((a.natAbs*a.natAbs:Nat):Int)=a*a:=by rw [Int.natCast_mul];exact Int.natAbs_mul_self
   split
   ·unfold cN
    congr 1;funext v
    refine decide_eq_decide.2 ?_
    rw [hq];omega
   ·refine List.countP_eq_zero.2 fun v _=>?_
    rw [decide_eq_true_eq,hq]
    have:0≤qf k idM (vat v):=by rw [qf_id];exact yAE fun i _=>zAi _
    omega
  have h1:cN B (k+1) idM m=sl (fun i:Nat=>(fun x:Nat=>if x*x≤m then cN B k idM (m - x*x) else 0) ((i:Int) - (B:Int)).natAbs) (List.range (2*B+1)):=by
   show List.countP (fun v=>decide (qf (k+1) idM (vat v)=(m:Int))) ((List.range (2*B+1)).flatMap fun (i:Nat)=>(boxL B k).map fun v=>((i:Int) - (B:Int)) :: v)=_
   rw [countP_sl,sl_flat]
   refine sl_congr fun i _=>?_
   rw [sl_map,← countP_sl (fun v=>decide (qf (k+1) idM (vat (((i:Int) - (B:Int)) :: v))=(m:Int)))]
   exact hc _
  rw [h1,sl_range]
  show (sm (2*B+1) fun i:Nat=>(((fun x:Nat=>if x*x≤m then cN B k idM (m - x*x) else 0) ((i:Int) - (B:Int)).natAbs:Nat):Int))=_
  rw [sm_sym B fun x=>((if x*x≤m then cN B k idM (m - x*x) else 0:Nat):Int),sm_tail (n:=m+1) om fun x h1 _=>by
   have:=le_sq x
   rw [if_neg (show ¬ x*x≤m by omega)];simp]
  show _=sm (m+1) _
  refine zAC fun x _=>?_
  by_cases h:x*x≤m
  ·rw [if_pos h,if_pos h,ih _ om]
  ·rw [if_neg h,if_neg h];simp
theorem sqW_one {m M:Nat} (h:m < M):sqW 1 m=sm M fun x=>if x*x=m then (if x=0 then 1 else 2) else 0:=by
 show (sm (m+1) fun x=>if x*x≤m then (if x=0 then 1 else 2)*(if m - x*x=0 then 1 else 0) else 0)=_
 rw [sm_tail (n:=m+1) (p:=M) om fun x h1 _=>by
  have:=le_sq x
  rw [if_neg (show ¬ x*x=m by omega)]]
 refine zAC fun x _=>?_
 by_cases h1:x*x=m
 ·rw [if_pos h1,if_pos om,if_pos (show m - x*x=0 by omega),Int.mul_one]
 ·rw [if_neg h1]
  by_cases h2:x*x≤m
  ·rw [if_pos h2,if_neg (show ¬ m - x*x=0 by omega),Int.mul_zero]
  ·rw [if_neg h2]
theorem sqW_conv (k m:Nat):sqW (k+1) m=sm (m+1) fun i=>sqW k i*sqW 1 (m - i):=by
 have h1:(sm (m+1) fun i=>sqW k i*sqW 1 (m - i))=sm (m+1) fun i=>sm (m+1) fun x=>sqW k i*(if x*x=m - i then (if x=0 then 1 else 2) else 0) :=
  zAC fun i _=>by rw [sqW_one (M:=m+1) (show m - i < m+1 by omega),← zAY]
 rw [h1,zCG]
 show (sm (m+1) fun x=>if x*x≤m then (if x=0 then 1 else 2)*sqW k (m - x*x) else 0)=_
 refine zAC fun x _=>?_
 by_cases h:x*x≤m
 ·rw [if_pos h,zBL (k:=m - x*x) om fun i hi hne=>by rw [if_neg om,Int.mul_zero],if_pos (show x*x=m - (m - x*x) by omega),Int.mul_comm]
 ·rw [if_neg h]
  exact (zA5 fun i hi=>by rw [if_neg om,Int.mul_zero]).symm
end Go.Proofs.YtdkgilioejdmeaaGreat
namespace Go.Proofs.YtdkgilioejdmeaaGreat
open Go.RowKit
set_option maxHeartbeats 2000000 in
theorem ints_any (b n:Nat) (x:Nat→Int) (w:World) (hr:NRow w b n x) (hn:n≤5000) (hf:∀ j,j < n → -9223372036854775808≤x j∧x j≤9223372036854775807) :
  Calls Tryz.prog 59 #[.slice (some ⟨b,0,none⟩) n n] w fun e w'=>∃ h,e = .returned (.slice (some ⟨h,0,none⟩) n n)∧MRow w' h n x∧w.heap.size≤h∧Ext w w':=by
 obtain ⟨R,hR⟩:∃ R:Ending→World→Prop,(fun e w'=>∃ h,e = .returned (.slice (some ⟨h,0,none⟩) n n)∧MRow w' h n x∧w.heap.size≤h∧Ext w w')=R:=⟨_,rfl⟩
 have HR:Hid (∀ h w',MRow w' h n x→w.heap.size≤h→Ext w w'→R (.returned (.slice (some ⟨h,0,none⟩) n n)) w'):=fun h w' h1 h2 h3=>by rw [← hR];exact ⟨h,rfl,h1,h2,h3⟩
 rw [hR]
 clear hR
 have HO:=zH (fun z h0 h1 V=>zOf_any z V h0 h1)
 have HRow:=zH hr
 have HF:=zH hf
 obtain ⟨cs,hmk,hrow⟩:=zAs (n:Int) n rfl om w
 have HM0:=zH hrow
 clear hr hf hrow
 go_enter Tryz.func59,Tryz.ntmps59
 go_wp2
 clear hmk
 obtain ⟨W0,hW0⟩:∃ W0,w.alloc (.cells cs 49)=W0:=⟨_,rfl⟩
 obtain ⟨h,hh⟩:∃ h,w.heap.size=h:=⟨_,rfl⟩
 have hlo:w.heap.size≤h:=by omega
 have HX0:Hid (Ext w W0):=by rw [← hW0];exact (Ext.refl _).alloc _
 rw [hW0,hh] at HM0 ⊢
 clear hW0 hh
 go_loopg [10] n (fun kk iv wk=>∃ i:Nat,kk+i=n∧iv = .int .i64 i∧Hid (MRow wk h n (fun j=>if j < i then x j else 0))∧Hid (Ext w wk))
 case atStart=>exact ⟨0,by omega,rfl,HM0.out.congr fun j _=>by simp,HX0⟩
 clear HM0 HX0
 obtain ⟨i,hki,rfl,HM,HX⟩:=hrel
 by_cases hin:i < n
 ·have cx:=HX.out.cell (HRow.out.cell i hin)
  have hz0:=(HF.out i hin).1
  have hz1:=(HF.out i hin).2
  obtain ⟨z,hz⟩:∃ z,x i=z:=⟨_,rfl⟩
  rw [hz] at cx hz0 hz1
  have HZ:=zH hz
  have lx:=zAA cx
  simp only at lx
  clear hz
  go_wp2_with (fail)
  refine (HO.out z hz0 hz1 _).mono ?_
  rintro e w1 ⟨ng,Ag,kg,rfl,hi1,hx⟩
  have HM1:=zH (HM.out.ext hx)
  have HX1:=zH (HX.out.trans hx)
  have HI1:=zH hi1
  obtain ⟨n0,A0,k0,d1,d2,_⟩:=HM1.out.cells i hin
  have f1:=HM1.out.free (i*2)
  have f2:=HM1.out.free (i*2+1)
  have lh:=HM1.out.lt
  clear hx hi1 HM HX cx lx
  go_wp2
  go_roundg (n - (i+1))
  case measure=>omega
  case rel=>exact ⟨i+1,by omega,by go_num,(HM1.out.set_ hin HI1.out).congr fun j _=>by
    by_cases e:j=i
    ·subst e;rw [if_pos rfl,if_pos om,HZ.out]
    ·rw [if_neg e]
     by_cases h:j < i
     ·rw [if_pos h,if_pos om]
     ·rw [if_neg h,if_neg om],zAO HX1.out hlo⟩
 ·obtain rfl:n=i:=by omega
  have HF2:=zH (HR.out h _ (HM.out.congr fun j hj=>if_pos hj) hlo HX.out)
  go_wp2
  first
  | exact HF2.out
  | exact bodyPost_ret (v:=.slice (some ⟨h,0,none⟩) n n) (by simp [results,Tryz.results59,go_sem]) rfl HF2.out
theorem yAC (N:Int) (h:0≤N∧N≤4096) (w:World):Calls Tryz.prog 58 #[.int .i64 N] w fun e w'=>e = .returned (.bool true)∧w'=w:=by
 obtain ⟨h0,h1⟩:=h
 have g0:N≥0:=h0
 go_enter Tryz.func58,Tryz.ntmps58
 go_wp2
 exact bodyPost_ret (v:=.bool true) (by simp [results,Tryz.results58,go_sem]) rfl ⟨rfl,rfl⟩
theorem terms_no (N:Int) (h:¬ (0≤N∧N≤4096)) (w:World):Calls Tryz.prog 58 #[.int .i64 N] w fun e w'=>e = .returned (.bool false)∧w'=w:=by
 by_cases h0:0≤N
 ·have h1:¬ N≤4096:=fun h1=>h ⟨h0,h1⟩
  have g0:N≥0:=h0
  clear h
  go_enter Tryz.func58,Tryz.ntmps58
  go_wp2
  exact bodyPost_ret (v:=.bool false) (by simp [results,Tryz.results58,go_sem]) rfl ⟨rfl,rfl⟩
 ·have g0:¬ N≥0:=h0
  clear h
  go_enter Tryz.func58,Tryz.ntmps58
  go_wp2
  exact bodyPost_ret (v:=.bool false) (by simp [results,Tryz.results58,go_sem]) rfl ⟨rfl,rfl⟩
theorem thC_step {bs:List (List Int × Int)} {i:Nat} {q:List Int × Int} (h:bs[i]? = some q) (m:Nat):thC (bs.take (i+1)) m=thC (bs.take i) m+if q.2=(m:Int) then 2 else 0:=by
 unfold thC
 rw [List.take_add_one,h,List.countP_append]
 by_cases e:q.2=(m:Int)
 ·simp [e];omega
 ·simp [e]
def OfTells (n:Nat) (rows:List (List Int)) (N:Int) (w:World) (e:Ending) (w':World):Prop :=
 ∃ (A:Option Addr) (k c:Nat) (z:Int),e = .returned (.tuple #[.slice A k c,.int .i64 z]) ∧
  ((chk rows≠0∧z=chk rows∧k=0)∨(chk rows=0∧¬ (0≤N∧N≤4096)∧z=2∧k=0)∨(chk rows=0∧N=0∧z=0∧k=0) ∨
  (chk rows=0∧1≤N∧N≤4096∧∃ L,Shorts n (entry rows) (N - 1) L∧((L.length≤8192∧z=0∧(k:Int)=N∧c=k∧∃ h,A=some ⟨h,0,none⟩∧w.heap.size≤h∧MRow w' h k (thC L))∨(8192 < L.length∧z=9∧k=0))))
set_option maxHeartbeats 8000000 in
set_option maxRecDepth 100000 in
theorem thOf_any (A:Option Addr) (n c:Nat) (rows:List (List Int)) (N:Int) (w:World) (hn:n=rows.length) (hr:IsRows w A rows) (hf:Fit64 rows) (hN0:-9223372036854775808≤N) (hN1:N≤9223372036854775807) :
  Calls Tryz.prog 27 #[.slice A n c,.int .i64 N] w fun e w'=>Ext w w'∧OfTells n rows N w e w':=by
 obtain ⟨R,hR⟩:∃ R:Ending→World→Prop,(fun e w'=>Ext w w'∧OfTells n rows N w e w')=R:=⟨_,rfl⟩
 have HNil:Hid (∀ (z:Int) w',Ext w w'→((chk rows≠0∧z=chk rows)∨(chk rows=0∧¬ (0≤N∧N≤4096)∧z=2)∨(chk rows=0∧N=0∧z=0)∨(chk rows=0∧1≤N∧N≤4096∧(∃ L,Shorts n (entry rows) (N - 1) L∧8192 < L.length)∧z=9))→R (.returned (.tuple #[.slice none 0 0,.int .i64 z])) w'):=fun z w' hx h=>by
  rw [← hR]
  refine ⟨hx,none,0,0,z,rfl,?_⟩
  rcases h with ⟨h1,h2⟩|⟨h1,h2,h3⟩|⟨h1,h2,h3⟩|⟨h1,h2,h3,⟨L,h4,h5⟩,h6⟩
  ·exact Or.inl ⟨h1,h2,rfl⟩
  ·exact Or.inr (Or.inl ⟨h1,h2,h3,rfl⟩)
  ·exact Or.inr (Or.inr (Or.inl ⟨h1,h2,h3,rfl⟩))
  ·exact Or.inr (Or.inr (Or.inr ⟨h1,h2,h3,L,h4,Or.inr ⟨h5,h6,rfl⟩⟩))
 have HFull:Hid (∀ (h:Nat) (w':World) (L:List (List Int × Int)) (k:Nat),Ext w w'→chk rows=0→1≤N→N≤4096→Shorts n (entry rows) (N - 1) L→L.length≤8192→(k:Int)=N→w.heap.size≤h→MRow w' h k (thC L)→R (.returned (.tuple #[.slice (some ⟨h,0,none⟩) k k,.int .i64 0])) w'):=fun h w' L k hx h1 h2 h3 h4 h5 h6 h7 h8=>by
  rw [← hR]
  exact ⟨hx,_,k,k,0,rfl,Or.inr (Or.inr (Or.inr ⟨h1,h2,h3,L,h4,Or.inl ⟨h5,rfl,h6,rfl,h,rfl,h7,h8⟩⟩))⟩
 rw [hR]
 clear hR
 have HChk:=zH (zC1 A n c rows w hn hr hf)
 have HAll:=zH (fun W (hx:Ext w W) (nb:Int) h0 h1=>all_any A n c rows nb W hn (hr.ext hx) hf h0 h1)
 have HSt:Hid (chk rows=0→Start n (entry rows)):=fun h=>by rw [hn];exact zC2 h
 obtain ⟨ck,hck⟩:∃ z,chk rows=z:=⟨_,rfl⟩
 have HCK:=zH hck
 rw [hck] at HChk
 clear hn hr hf hck
 go_enter Tryz.func27,Tryz.ntmps27
 go_wp2_with (fail)
 refine HChk.out.mono ?_
 rintro e w1 ⟨rfl,hx⟩
 have HX1:=zH hx
 clear hx HChk
 by_cases hc0:ck=0
 case neg =>
  have HF:=zH (HNil.out ck w1 HX1.out (Or.inl ⟨by rw [HCK.out];exact hc0,HCK.out.symm⟩))
  go_wp2
  first
  | exact HF.out
  | exact bodyPost_ret (v:=.tuple #[.slice none 0 0,.int .i64 ck]) (by simp [results,Tryz.results27,go_sem]) rfl HF.out
 subst hc0
 by_cases hT:0≤N∧N≤4096
 case neg =>
  have HF:=zH (HNil.out 2 w1 HX1.out (Or.inr (Or.inl ⟨HCK.out,hT,rfl⟩)))
  have HTe:=zH (terms_no N hT)
  clear hT
  go_wp2_with (fail)
  refine (HTe.out _).mono ?_
  rintro e w2 ⟨rfl,rfl⟩
  go_wp2
  first
  | exact HF.out
  | exact bodyPost_ret (v:=.tuple #[.slice none 0 0,.int .i64 2]) (by simp [results,Tryz.results27,go_sem]) rfl HF.out
 have HTe:=zH (yAC N hT)
 obtain ⟨hN2,hN3⟩:=hT
 go_wp2_with (fail)
 refine (HTe.out _).mono ?_
 rintro e w2 ⟨rfl,rfl⟩
 by_cases hz:N=0
 case pos =>
  have HF:=zH (HNil.out 0 w2 HX1.out (Or.inr (Or.inr (Or.inl ⟨HCK.out,hz,rfl⟩))))
  go_wp2
  first
  | exact HF.out
  | exact bodyPost_ret (v:=.tuple #[.slice none 0 0,.int .i64 0]) (by simp [results,Tryz.results27,go_sem]) rfl HF.out
 obtain ⟨K,rfl⟩:∃ K:Nat,N=K:=⟨N.toNat,by omega⟩
 have hK1:1≤K:=by omega
 have hK2:K≤4096:=by omega
 clear hN0 hN1 hN2 hN3 HTe
 go_wp2_with (fail)
 refine (HAll.out _ HX1.out ((K:Int) - 1) om om).mono ?_
 rintro e w3 ⟨hx,h⟩
 have HX3:=zH (HX1.out.trans hx)
 rcases h with ⟨h1,_⟩|⟨_,h2,_⟩|⟨_,_,_,L,hL,h⟩
 ·exact absurd HCK.out h1
 ·exact absurd ⟨by omega,by omega⟩ h2
 rcases h with ⟨h4,v,bs,rfl,h5,rfl⟩|⟨h4,rfl⟩
 case inr =>
  have HF:=zH (HNil.out 9 w3 HX3.out (Or.inr (Or.inr (Or.inr ⟨HCK.out,by omega,by omega,⟨L,hL,h4⟩,rfl⟩))))
  clear hx hL h4
  go_wp2
  first
  | exact HF.out
  | exact bodyPost_ret (v:=.tuple #[.slice none 0 0,.int .i64 9]) (by simp [results,Tryz.results27,go_sem]) rfl HF.out
 obtain ⟨Al,k,cl,rfl,hk⟩:∃ A' k' c',v = .slice A' k' c'∧k'=bs.length:=by
  rcases h5.val with ⟨rfl,rfl⟩|⟨g,cap,rfl,_⟩
  ·exact ⟨_,_,_,rfl,rfl⟩
  ·exact ⟨_,_,_,rfl,rfl⟩
 have hk8:bs.length≤8192:=by simpa using h4
 have HL:=zH hL
 have HLs:=zH h5
 have HPos:=zH (fun q hq=>shorts_pos (HSt.out HCK.out) hL (q:=q) hq)
 subst hk
 clear hx hL h4 h5
 obtain ⟨cs,hmk,ht,hcell,hfree⟩:=zDD (K:Int) K rfl om w3
 obtain ⟨W0,hW0⟩:∃ W0,w3.alloc (.cells cs 2)=W0:=⟨_,rfl⟩
 obtain ⟨g,hg⟩:∃ g,w3.heap.size=g:=⟨_,rfl⟩
 have hlo:w3.heap.size≤g:=by omega
 have HX0:Hid (Ext w3 W0):=by rw [← hW0];exact (Ext.refl _).alloc _
 rw [hW0,hg] at hmk ht hcell hfree
 have HN0:Hid (NRow W0 g K (fun _=>0)):=⟨hcell,hfree,ht⟩
 have d0:=hcell 0 om
 have f0:=hfree 0
 have lg:=zAA d0
 simp only at lg
 clear hW0 hg ht hcell hfree
 go_wp2
 obtain ⟨W1,hW1⟩:∃ W1,W0.setCell ⟨g,0,none⟩ (.int .i64 1)=W1:=⟨_,rfl⟩
 have HN1:Hid (NRow W1 g K (thC ((bs.map (·.2)).take 0))):=by
  rw [← hW1]
  refine (HN0.out.set_ (j:=0) om 1).congr fun j _=>?_
  unfold thC;simp
 have HX1':Hid (Ext w3 W1):=by rw [← hW1];exact HX0.out.setCell hlo _
 rw [hW1]
 clear hW1 HN0 HX0 d0 f0 lg hmk
 go_loopg [38] bs.length (fun kk iv wk=>∃ i:Nat,kk+i=bs.length∧iv = .int .i64 i∧Hid (NRow wk g K (thC ((bs.map (·.2)).take i)))∧Hid (Ext w3 wk))
 case atStart=>exact ⟨0,by omega,rfl,HN1,HX1'⟩
 clear HN1 HX1'
 obtain ⟨i,hki,rfl,HN,HX⟩:=hrel
 by_cases hin:i < bs.length
 ·obtain ⟨gs,rfl,hcs2,hcell⟩:=HLs.out.slice rfl om
  obtain ⟨q,hq⟩:∃ q,bs[i]? = some q:=⟨_,List.getElem?_eq_getElem hin⟩
  have c0:=HX.out.cell (hcell i q hq).1
  have c1:=HX.out.cell (hcell i q hq).2
  have hq2:(bs.map (·.2))[i]? = some q.2:=by rw [List.getElem?_map,hq];rfl
  have hpos:=HPos.out q.2 (List.mem_of_getElem? hq2)
  have hle:=((HL.out.mem q.2.1 q.2.2).1 (List.mem_of_getElem? hq2)).2.2.1
  obtain ⟨zn,hzn⟩:∃ z:Nat,q.2.2=z:=⟨q.2.2.toNat,by omega⟩
  obtain ⟨qb,hqb⟩:∃ z,q.1=z:=⟨_,rfl⟩
  have hznK:zn < K:=by omega
  have HQ:=zH hq2
  have HZ:=zH hzn
  have hlen:((bs.map (·.2)).take i).length≤8192:=by rw [List.length_take,List.length_map];omega
  obtain ⟨t,ht⟩:∃ t,thC ((bs.map (·.2)).take i) zn=t:=⟨_,rfl⟩
  have ht0:0≤t:=by rw [← ht];exact (thC_le _ _).1
  have ht1:t≤20000:=by have:=(thC_le ((bs.map (·.2)).take i) zn).2;omega
  have dz:=HN.out.cell zn hznK
  rw [ht] at dz
  have HT:=zH ht
  rw [hzn] at c1
  rw [hqb] at c0
  have l0:=zAA c0
  simp only at l0
  have HKI:=zH hki
  clear hcell hq hq2 hpos hle hlen ht hzn hqb hki
  go_upto_region 16 with (fail)
  obtain ⟨W1,hW1⟩:∃ W1,wr.alloc (.cells #[.slice (some ⟨qb,0,none⟩) n n,.int .i64 zn] 33)=W1:=⟨_,rfl⟩
  obtain ⟨b11,hb11⟩:∃ b,wr.heap.size=b:=⟨_,rfl⟩
  have hx1:Ext wr W1:=by rw [← hW1];exact (Ext.refl _).alloc _
  have HK11:Hid (Blk W1 b11 33 #[.slice (some ⟨qb,0,none⟩) n n,.int .i64 zn]):=by rw [← hW1,← hb11];exact Blk.new _ _ _
  have HXw:=zH (HX.out.trans hx1)
  have HNw:=zH (HN.out.ext hx1)
  (try rw [hW1])
  (try rw [hb11])
  have dz':=HNw.out.cell zn hznK
  rw [HT.out] at dz'
  have fz:=HNw.out.free zn
  have lg:=HNw.out.typ.lt
  have c11:=HK11.out.cell 1 rfl
  have l11:=HK11.out.lt
  clear hW1 hb11 hx1 HX HN c0 c1 l0 dz
  go_wp2
  go_roundg (bs.length - (i+1))
  case measure=>have:=HKI.out;omega
  case rel=>exact ⟨i+1,by have:=HKI.out;omega,by go_num,(HNw.out.set_ hznK (t+2)).congr fun m _=>by
    rw [thC_step HQ.out,HZ.out]
    by_cases e:m=zn
    ·subst e;rw [if_pos rfl,if_pos rfl,HT.out]
    ·rw [if_neg e,if_neg om];omega,HXw.out.setCell hlo _⟩
 ·obtain rfl:bs.length=i:=by omega
  have HN':Hid (NRow wr g K (thC (bs.map (·.2)))):=HN.out.congr fun m _=>by rw [List.take_of_length_le (by simp)]
  have HI:=zH (ints_any g K (thC (bs.map (·.2))) wr HN'.out om (fun j hj=>by have:=thC_le (bs.map (·.2)) j;simp only [List.length_map] at this;omega))
  have HX4:=zH (HX3.out.trans HX.out)
  clear HN HX hki
  go_wp2_with (fail)
  refine HI.out.mono ?_
  rintro e w4 ⟨h,rfl,hm,hl,hx⟩
  have HF:=zH (HFull.out h w4 _ K (HX4.out.trans hx) HCK.out om om HL.out (by simpa using hk8) rfl (Nat.le_trans HX4.out.size hl) hm)
  clear hm hl hx
  go_wp2
  first
  | exact HF.out
  | exact bodyPost_ret (v:=.tuple #[.slice (some ⟨h,0,none⟩) K K,.int .i64 0]) (by simp [results,Tryz.results27,go_sem]) rfl HF.out
theorem wrapZ {z:Int} (h:-9223372036854775808≤z∧z≤9223372036854775807):IntKind.i64.wrap z=z:=by
 simp only [IntKind.wrap,IntKind.bits,IntKind.signed,Bool.true_and,decide_eq_true_eq,ge_iff_le]
 (repeat split) <;> omega
theorem wrapN {j:Nat} (h:j≤100000000):IntKind.i64.wrap (j:Int)=(j:Int):=wrapZ om
def sqT (r m x:Nat):Int:=if x*x≤m then (if x=0 then 1 else 2)*sqW r (m - x*x) else 0
def sqS (r m x:Nat):Int:=sm x (sqT r m)
theorem sqS_all {r m x:Nat} (hx:x≤m+1) (h:m < x*x):sqS r m x=sqW (r+1) m:=by
 show _=sm (m+1) (sqT r m)
 unfold sqS
 rw [sm_tail (p:=m+1) hx fun i h1 _=>by
  unfold sqT
  have:x*x≤i*i:=Nat.mul_le_mul h1 h1
  rw [if_neg om]]
theorem sqT_nonneg (r m x:Nat):0≤sqT r m x:=by
 unfold sqT
 split
 ·exact Int.mul_nonneg (by split <;> decide) (yAH _ _)
 ·exact Int.le_refl _
theorem sm_leB {n:Nat} {f:Nat→Int} {B:Int} (h:∀ i,i < n→f i≤B):sm n f≤n*B:=by
 induction n with
 | zero=>simp [sm]
 | succ n ih =>
  have h1:=ih fun i hi=>h i om
  have h2:=h n om
  simp only [sm]
  rw [Int.natCast_add,Int.add_mul]
  omega
theorem sqS_mono {r m x y:Nat} (h:x≤y):sqS r m x≤sqS r m y:=by
 obtain ⟨d,rfl⟩:=Nat.exists_eq_add_of_le h
 unfold sqS
 rw [yAJ]
 have:=yAE (n:=d) (f:=fun i=>sqT r m (x+i)) fun i _=>sqT_nonneg _ _ _
 omega
theorem sqW_le:∀ (k m:Nat),m < 4096→sqW k m≤((128 ^ k:Nat):Int)
 | 0,m,_=>by simp only [sqW];split <;> decide
 | k+1,m,hm=>by
  have h1:sqW (k+1) m=sqS k m (m+1):=rfl
  have h2:sqS k m (m+1)≤sqS k m 64:=by
   by_cases h:m+1≤64
   ·exact sqS_mono h
   ·refine Int.le_of_eq ?_
    exact sm_tail om fun i h1 _=>by
     unfold sqT
     have:64*64≤i*i:=Nat.mul_le_mul h1 h1
     rw [if_neg om]
  have h3:sqS k m 64≤((64:Nat):Int)*(2*((128 ^ k:Nat):Int)):=sm_leB fun i _=>by
   have h0:(0:Int)≤((128 ^ k:Nat):Int):=Int.natCast_nonneg _
   unfold sqT
   split
   ·have h4:=sqW_le k (m - i*i) om
    have h5:=yAH k (m - i*i)
    split <;> omega
   ·omega
  rw [h1,Nat.pow_succ,Int.natCast_mul]
  omega
theorem pow128 {k:Nat} (h:k≤8):((128 ^ k:Nat):Int)≤72057594037927936:=by
 have h1:128 ^ k≤128 ^ 8:=Nat.pow_le_pow_right (by decide) h
 have h2:(128:Nat) ^ 8=72057594037927936:=by decide
 omega
theorem yAF {k m:Nat} (hk:k≤8) (hm:m < 4096):0≤sqW k m∧sqW k m≤72057594037927936:=⟨yAH k m,Int.le_trans (sqW_le k m hm) (pow128 hk)⟩
theorem sqS_small {r m x:Nat} (hr:r < 8) (hm:m < 4096) (hx:x≤m+1):0≤sqS r m x∧sqS r m x≤72057594037927936 :=
 ⟨yAE fun i _=>sqT_nonneg _ _ _,Int.le_trans (sqS_mono hx) (yAF (k:=r+1) om hm).2⟩
theorem yAA (m:Int) (n:Nat) (h:m=n) (hn:n≤100000) (w:World) :
  ∃ cs,(Instr.makeSlice 31 (.int .i64 m) (.int .i64 m)).run Tryz.prog w = .ok (.slice (some ⟨w.heap.size,0,none⟩) n n) (w.alloc (.cells cs 2))∧NRow (w.alloc (.cells cs 2)) w.heap.size n (fun _=>0):=by
 obtain ⟨cs,h1,h2,h3,h4⟩:=zDD m n h hn w
 exact ⟨cs,h1,h3,h4,h2⟩
theorem yAD (b:Nat):∀ (vs:List Value) (o:Nat) (w:World),(w.setCells b o vs).heap.size=w.heap.size∧(∀ t i,TB w t i→TB (w.setCells b o vs) t i)∧(∀ i,i≠b→(w.setCells b o vs).heap[i]? = w.heap[i]?)∧∀ a,a.heap.size≤b→Ext a w→Ext a (w.setCells b o vs)
 | [],_,_=>⟨rfl,fun _ _ h=>h,fun _ _=>rfl,fun _ _ h=>h⟩
 | v :: r,o,w=>by
  obtain ⟨h1,h2,h3,h4⟩:=yAD b r (o+1) (w.setCell ⟨b,o,none⟩ v)
  refine ⟨h1.trans (by simp [World.setCell]),fun t i h=>h2 t i (h.set_ _ _),fun i hi=>(h3 i hi).trans (heap_setCell_other w ⟨b,o,none⟩ i v hi),fun a ha hx=>h4 a ha (hx.setCell (p:=⟨b,o,none⟩) ha _)⟩
theorem NRow.other {w w':World} {b n:Nat} {f:Nat→Int} (r:NRow w b n f) (e:w'.heap[b]? = w.heap[b]?):NRow w' b n f :=
 ⟨fun j hj=>by rw [zBB e];exact r.cell j hj,fun j=>by rw [zBp e];exact r.free j,r.typ.of_eq e⟩
theorem clear_row {w:World} {b n c:Nat} {f:Nat→Int} (r:NRow w b n f) :
  ∃ w',(∀ ty,(Builtin.clear_ #[31] ty #[.slice (some ⟨b,0,none⟩) n c]).run Tryz.prog w = .ok (.tuple #[]) w')∧NRow w' b n (fun _=>0)∧(∀ i,i≠b→w'.heap[i]? = w.heap[i]?)∧∀ a,a.heap.size≤b→Ext a w→Ext a w':=by
 have hz:∀ w,(zeroValue 2).run Tryz.prog w = .ok (.int .i64 0) w:=fun w=>by kernel_rfl
 rcases Nat.eq_zero_or_pos n with rfl|hn
 ·exact ⟨w,fun ty=>by simp [Builtin.clear_,run_underlying Tryz.underlying31,hz,Result.andThen],⟨fun j hj=>by omega,r.free,r.typ⟩,fun _ _=>rfl,fun _ _ h=>h⟩
 ·obtain ⟨h1,h2,h3,h4⟩:=yAD b (List.replicate n (Value.int .i64 0)) 0 w
  refine ⟨_,fun ty=>Lib.run_clear_slice w _ 2 ty (.int .i64 0) Tryz.underlying31 hz rfl rfl b 0 n c hn (fun j hj=>by rw [Nat.zero_add,r.cell j hj];rfl) (fun j hj=>r.free _),⟨fun j hj=>?_,fun j=>?_,h2 _ _ r.typ⟩,h3,h4⟩
  ·have:=World.cell?_setCells_in b (List.replicate n (Value.int .i64 0)) 0 w (fun j hj=>by rw [Nat.zero_add,r.cell j (by simpa using hj)];rfl) j (by simpa using hj)
   rw [Nat.zero_add] at this
   rw [this,List.getElem_replicate]
  ·rw [World.frozen?_setCells];exact r.free j
set_option exponentiation.threshold 5000
def mulP (kb:Nat) (fa fb:Nat→Int) (k i:Nat):Int:=sm i fun t=>if k - t < kb then fa t*fb (k - t) else 0
def mulT (ka kb:Nat) (fa fb:Nat→Int) (k:Nat):Int:=mulP kb fa fb k (min (k+1) ka)
theorem mulP_skip {kb:Nat} {fa fb:Nat→Int} {k i:Nat} (h:¬ k - i < kb):mulP kb fa fb k (i+1)=mulP kb fa fb k i:=by
 unfold mulP;simp only [sm];rw [if_neg h,Int.add_zero]
theorem mulP_step {kb:Nat} {fa fb:Nat→Int} {k i:Nat} (h:k - i < kb):mulP kb fa fb k (i+1)=mulP kb fa fb k i+fa i*fb (k - i):=by
 unfold mulP;simp only [sm];rw [if_pos h]
def Mild (k:Nat) (f:Nat→Int):Prop:=∀ i,i < k→(f i).natAbs≤2 ^ 2000
theorem mul_mild {ka kb:Nat} {fa fb:Nat→Int} (ha:Mild ka fa) (hb:Mild kb fb) {i j:Nat} (hi:i < ka) (hj:j < kb):(fa i*fb j).natAbs≤2 ^ 4000:=by
 rw [Int.natAbs_mul]
 calc (fa i).natAbs*(fb j).natAbs≤2 ^ 2000*2 ^ 2000:=Nat.mul_le_mul (ha i hi) (hb j hj)
  _=2 ^ 4000:=by rw [← Nat.pow_add]
theorem mulP_mild {ka kb:Nat} {fa fb:Nat→Int} (ha:Mild ka fa) (hb:Mild kb fb) (k:Nat):∀ i,i≤ka→(mulP kb fa fb k i).natAbs≤i*2 ^ 4000
 | 0,_=>by simp [mulP,sm]
 | i+1,hi=>by
  have ih:=mulP_mild ha hb k i om
  have h1:=fun h=>mul_mild ha hb (show i < ka by omega) (j:=k - i) h
  generalize hT:(2:Nat) ^ 4000=T at ih h1 ⊢
  by_cases h:k - i < kb
  ·rw [mulP_step h]
   have h1:=h1 h
   have h2:=Int.natAbs_add_le (mulP kb fa fb k i) (fa i*fb (k - i))
   rw [Nat.succ_mul];omega
  ·rw [mulP_skip h,Nat.succ_mul];omega
theorem yAL {z:Int} (h:z.natAbs < 2 ^ 4096):codeZ z=0:=by unfold codeZ;rw [if_pos ((zAW _ _).2 h)]
theorem two_4096:(5000:Nat)*2 ^ 4000 < 2 ^ 4096:=by decide +kernel
theorem fit_mul {ka kb:Nat} {fa fb:Nat→Int} (ha:Mild ka fa) (hb:Mild kb fb) {i j:Nat} (hi:i < ka) (hj:j < kb):fitZ (fa i*fb j)=fa i*fb j∧codeZ (fa i*fb j)=0:=by
 have h1:=mul_mild ha hb hi hj
 have h2:=two_4096
 have h0:(fa i*fb j).natAbs < 2 ^ 4096:=by
  generalize hT:(2:Nat) ^ 4000=T at h1 h2
  generalize hS:(2:Nat) ^ 4096=S at h2 ⊢
  omega
 exact ⟨zA2 h0,yAL h0⟩
theorem fit_sum {ka kb:Nat} {fa fb:Nat→Int} (ha:Mild ka fa) (hb:Mild kb fb) (k:Nat) {i:Nat} (hi:i≤ka) (hk:i≤4999):fitZ (mulP kb fa fb k i)=mulP kb fa fb k i∧codeZ (mulP kb fa fb k i)=0:=by
 have h1:=mulP_mild ha hb k i hi
 have h2:=two_4096
 have h3:i*2 ^ 4000≤4999*2 ^ 4000:=Nat.mul_le_mul_right _ hk
 have h0:(mulP kb fa fb k i).natAbs < 2 ^ 4096:=by
  generalize hT:(2:Nat) ^ 4000=T at h1 h2 h3
  generalize hS:(2:Nat) ^ 4096=S at h2 ⊢
  omega
 exact ⟨zA2 h0,yAL h0⟩
def SerA (w:World) (A:Option Addr) (k:Nat) (f:Nat→Int):Prop:=0 < k→∃ h,A=some ⟨h,0,none⟩∧MRow w h k f
theorem SerA.ext {w w':World} {A:Option Addr} {k:Nat} {f:Nat→Int} (s:SerA w A k f) (hx:Ext w w'):SerA w' A k f:=fun h=>by
 obtain ⟨g,h1,h2⟩:=s h;exact ⟨g,h1,h2.ext hx⟩
theorem MRow.serA {w:World} {h k:Nat} {f:Nat→Int} (r:MRow w h k f):SerA w (some ⟨h,0,none⟩) k f:=fun _=>⟨h,rfl,r⟩
end Go.Proofs.YtdkgilioejdmeaaGreat
namespace Go.Proofs.YtdkgilioejdmeaaGreat
open Go.RowKit
theorem thMul_no (A B:Option Addr) (ka ca kb cb:Nat) (N:Int) (w:World) (h:¬ (0≤N∧N≤4096)) :
  Calls Tryz.prog 30 #[.slice A ka ca,.slice B kb cb,.int .i64 N] w fun e w'=>e = .returned (.tuple #[.slice none 0 0,.int .i64 2])∧Ext w w':=by
 have HTe:=zH (terms_no N h)
 clear h
 go_enter Tryz.func30,Tryz.ntmps30
 go_wp2_with (fail)
 refine (HTe.out _).mono ?_
 rintro e w2 ⟨rfl,rfl⟩
 go_wp2
 exact bodyPost_ret (v:=.tuple #[.slice none 0 0,.int .i64 2]) (by simp [results,Tryz.results30,go_sem]) rfl ⟨rfl,Ext.refl _⟩
set_option maxHeartbeats 8000000 in
set_option maxRecDepth 100000 in
theorem thMul_any (A B:Option Addr) (ka ca kb cb K:Nat) (fa fb:Nat→Int) (w:World) (hK:K≤4096) (hka:ka≤4096) (hkb:kb≤4096) (hA:SerA w A ka fa) (hB:SerA w B kb fb) (ha:Mild ka fa) (hb:Mild kb fb) :
  Calls Tryz.prog 30 #[.slice A ka ca,.slice B kb cb,.int .i64 K] w fun e w'=>∃ h,e = .returned (.tuple #[.slice (some ⟨h,0,none⟩) K K,.int .i64 0])∧MRow w' h K (mulT ka kb fa fb)∧w.heap.size≤h∧Ext w w':=by
 obtain ⟨R,hR⟩:∃ R:Ending→World→Prop,(fun e w'=>∃ h,e = .returned (.tuple #[.slice (some ⟨h,0,none⟩) K K,.int .i64 0])∧MRow w' h K (mulT ka kb fa fb)∧w.heap.size≤h∧Ext w w')=R:=⟨_,rfl⟩
 have HR:Hid (∀ h w',MRow w' h K (mulT ka kb fa fb)→w.heap.size≤h→Ext w w'→R (.returned (.tuple #[.slice (some ⟨h,0,none⟩) K K,.int .i64 0])) w'):=fun h w' h1 h2 h3=>by rw [← hR];exact ⟨h,rfl,h1,h2,h3⟩
 rw [hR]
 clear hR
 have HTe:=zH (yAC (K:Int) ⟨by omega,by omega⟩)
 have HA:=zH hA
 have HB:=zH hB
 have HFm:=zH (fun i j (hi:i < ka) (hj:j < kb)=>fit_mul ha hb hi hj)
 have HFs:=zH (fun k i (hi:i≤ka) (hk:i≤4999)=>fit_sum ha hb k hi hk)
 clear hA hB ha hb
 go_enter Tryz.func30,Tryz.ntmps30
 go_wp2_with (fail)
 refine (HTe.out _).mono ?_
 rintro e w2 ⟨rfl,rfl⟩
 obtain ⟨cs,hmk,hrow⟩:=zAs (K:Int) K rfl om w2
 obtain ⟨W0,hW0⟩:∃ W0,w2.alloc (.cells cs 49)=W0:=⟨_,rfl⟩
 obtain ⟨h,hh⟩:∃ h,w2.heap.size=h:=⟨_,rfl⟩
 have hlo:w2.heap.size≤h:=by omega
 have HX0:Hid (Ext w2 W0):=by rw [← hW0];exact (Ext.refl _).alloc _
 rw [hW0,hh] at hmk hrow
 have HM0:=zH hrow
 clear hrow hW0 hh HTe
 go_wp2
 clear hmk
 go_loopg [19] K (fun kk kv wk=>∃ k:Nat,kk+k=K∧kv = .int .i64 k∧Hid (MRow wk h K (fun m=>if m < k then mulT ka kb fa fb m else 0))∧Hid (Ext w2 wk))
 case atStart=>exact ⟨0,by omega,rfl,HM0.out.congr fun j _=>by simp,HX0⟩
 clear HM0 HX0
 obtain ⟨k,hkk,rfl,HM,HX⟩:=hrel
 by_cases hkK:k < K
 ·have HKK:=zH hkk
  clear hkk
  obtain ⟨lim,hlim⟩:∃ l,min (k+1) ka=l:=⟨_,rfl⟩
  have hl1:lim≤ka:=by omega
  have hl2:lim≤k+1:=by omega
  have hmin:min ((k:Int)+1) (ka:Int)=(lim:Int):=by omega
  have HLim:=zH hlim
  have HM1:Hid (MRow wr h K (fun m=>if m < k then mulT ka kb fa fb m else if m=k then mulP kb fa fb k 0 else 0)):=HM.out.congr fun m _=>by
   by_cases e:m < k
   ·rw [if_pos e,if_pos e]
   ·rw [if_neg e,if_neg e];simp [mulP,sm]
  clear hlim HM
  go_wp2
  go_loopg [27] lim (fun kk iv wi=>∃ i:Nat,kk+i=lim∧iv = .int .i64 i∧Hid (MRow wi h K (fun m=>if m < k then mulT ka kb fa fb m else if m=k then mulP kb fa fb k i else 0))∧Hid (Ext w2 wi))
  case atStart=>exact ⟨0,by omega,rfl,HM1,HX⟩
  clear HM1 HX
  obtain ⟨i,hki,rfl,HM,HX⟩:=hrel
  by_cases hil:i < lim
  ·skip
   have HKI:=zH hki
   clear hki
   have hika:i < ka:=by omega
   by_cases hkb':k - i < kb
   case neg =>
    have hgt:¬ (k:Int) - (i:Int) < (kb:Int):=by omega
    have hge:(k:Int) - (i:Int)≥(kb:Int):=by omega
    go_wp2
    go_roundg (lim - (i+1))
    case measure=>have:=HKI.out;omega
    case rel=>exact ⟨i+1,by have:=HKI.out;omega,by go_num,HM.out.congr fun m _=>by rw [mulP_skip hkb'],HX⟩
   have hlt:(k:Int) - (i:Int) < (kb:Int):=by omega
   have hnge:¬ (k:Int) - (i:Int)≥(kb:Int):=by omega
   obtain ⟨h1,rfl,hra⟩:=HA.out om
   obtain ⟨h2,rfl,hrb⟩:=HB.out om
   obtain ⟨j,hj⟩:∃ j,k - i=j:=⟨_,rfl⟩
   have hji:(k:Int) - (i:Int)=(j:Int):=by omega
   rw [hj] at hkb'
   have hwj:IntKind.i64.wrap (j:Int)=(j:Int):=wrapN om
   obtain ⟨na,Aa,ea,ca1,ca2,ia⟩:=hra.cells i hika
   obtain ⟨nb,Ab,eb,cb1,cb2,ib⟩:=hrb.cells j hkb'
   replace ca1:=HX.out.cell ca1
   replace ca2:=HX.out.cell ca2
   replace cb1:=HX.out.cell cb1
   replace cb2:=HX.out.cell cb2
   have HIa:=zH (ia.ext HX.out)
   have HIb:=zH (ib.ext HX.out)
   have hfm:=HFm.out i j hika hkb'
   obtain ⟨za,hza⟩:∃ z,fa i=z:=⟨_,rfl⟩
   obtain ⟨zb,hzb⟩:∃ z,fb j=z:=⟨_,rfl⟩
   have HPs:Hid (mulP kb fa fb k (i+1)=mulP kb fa fb k i+za*zb):=by rw [mulP_step om,hj,hza,hzb];exact zH rfl
   rw [hza] at HIa
   rw [hzb] at HIb
   rw [hza,hzb] at hfm
   have HCZ:=zH hfm.2
   have HFz:=zH hfm.1
   have l1:=zAA ca1
   have l2:=zAA cb1
   simp only at l1 l2
   have HJ:=zH hj
   have HHm:=zH (fun V (hx:Ext wr V)=>zCW na nb Aa Ab ea eb za zb V (HIa.out.ext hx) (HIb.out.ext hx))
   clear hra hrb ia ib hza hzb hfm hj
   go_upto_region 11 with (fail)
   rw [show decide (kb≤j)=false from decide_eq_false om]
   go_cut [11,12] (fun s11 s12 wx=>∃ b11,s11 = .pointer (some ⟨b11,0,none⟩)∧s12 = .int .i64 (codeZ (za*zb))∧wr.heap.size≤b11∧Hid (IntB wx b11 (fitZ (za*zb)))∧Hid (Ext wr wx))
   case first =>
    have HKeepT:=zH (fun (w':World) (hx:Ext wr w')=>(show w'.cell? ⟨h1,i*2,none⟩=some (.bool na)∧w'.cell? ⟨h1,i*2+1,none⟩=some (.slice Aa ea ea)∧w'.cell? ⟨h2,j*2,none⟩=some (.bool nb)∧w'.cell? ⟨h2,j*2+1,none⟩=some (.slice Ab eb eb) from ⟨hx.cell ca1,hx.cell ca2,hx.cell cb1,hx.cell cb2⟩))
    have hxA:Ext wr wr:=Ext.refl _
    refine rU HKeepT [15,16] [13] 17 (fun hH hC=>?_)
    revert hC
    refine tk 0 17 hH ?_
    refine tk 1 17 hH ?_
    refine tk 2 17 hH ?_
    refine tk 3 17 hH ?_
    refine tk 4 17 hH ?_
    refine tk 5 17 hH ?_
    refine tk 6 17 hH ?_
    refine tk 7 17 hH ?_
    refine tk 8 17 hH ?_
    refine tk 9 17 hH ?_
    intro hC
    refine zAj (al:=14) (d:=11) (c:=10) (T:=49) (zs:=#[.bool false,.slice none 0 0]) (fuel:=5) (L:=fun l11=>#[true,true,true,true,true,true,true,true,true,true,false,false,false,false,l11,false,false]) wr wr.heap.size hxA.size Sg Sg (by intro l11;cases l11 <;> kernel_rfl) (by intro l11;cases l11 <;> kernel_rfl) (by rfl) (by intro l11;cases l11 <;> kernel_rfl) ?_ (fun w' hx=>HKeepT.out _ (hxA.trans hx)) ?_ false wr.drew (Ext.refl _).drew AlOK.no
    ·intro v1 w' K' hK'
     try simp only [Act.put,sA,sB,sC]
     try simp only [Act.put,sA,sB,sC] at hK'
     go_simp
     exact hK'
    intro l11 v11 y hxy hal11 hct K hK
    (try clear hH)
    (try clear hC)
    try simp only [Act.put,sA,sB,sC]
    replace hxA:=hxA.trans hxy
    go_simp
    (go_at_call 66;with_reducible refine Calls.mono (HHm.out _ ?_) ?_;exact (by repeat (first|with_reducible exact Ext.refl _|with_reducible exact hxA|refine Ext.drew ?_|refine Ext.drewN ?_ _|refine Ext.alloc ?_ _));rintro e w1 ⟨n1,A1,e1,rfl,hn1,hx⟩;have hxN:Ext wr w1:=Ext.trans (by repeat (first|with_reducible exact Ext.refl _|with_reducible exact hxA|refine Ext.drew ?_|refine Ext.drewN ?_ _|refine Ext.alloc ?_ _)) hx;clear hxA;have hxA:=hxN;clear hxN;have HN1:=zH hn1;clear hn1;replace hal11:=AlOK.ext hal11 (Ext.trans (by repeat (first|with_reducible exact Ext.refl _|refine Ext.drew ?_)) hx);clear hx)
    try go_wp2_with fail
    have hHeldN:=HKeepT.out w1 hxA
    refine hK.out _ _ (fun _ _=>hHeldN) (fun hCn=>?_)
    clear hK K
    (try clear hct)
    (try clear hH)
    (try clear hC)
    have hH:=hHeldN
    have hC:=hCn
    clear hHeldN hCn
    try simp only [Act.put,sA,sB,sC]
    refine zAN hC hH (i:=11) (f:=17) (v:=?_) Sg kr (by cases l11 <;> kernel_rfl) (by cases l11 <;> kernel_rfl) kr Iq (by rfl) ?_ (fun hCn=>?_)
    rotate_left
    ·intro w' hSw;(try dsimp only at hSw);go_simp;(try with_reducible rfl)
    clear hC
    have hC:=hCn
    clear hCn
    try simp only [Act.put,sA,sB,sC]
    refine zAN hC hH (i:=12) (f:=17) (v:=?_) Sg kr (by cases l11 <;> kernel_rfl) (by cases l11 <;> kernel_rfl) kr Iq (by rfl) ?_ (fun hCn=>?_)
    rotate_left
    ·intro w' hSw;(try dsimp only at hSw);go_simp;(try with_reducible rfl)
    clear hC
    have hC:=hCn
    clear hCn
    try simp only [Act.put,sA,sB,sC]
    refine zAF hC (i:=13) (v:=?_) Sg kr (by cases l11 <;> kernel_rfl) (by cases l11 <;> kernel_rfl) kr Iq (by rfl) ?_ (fun hCn=>?_)
    rotate_left
    ·intro w';go_simp;(try with_reducible rfl)
    clear hC
    have hC:=hCn
    clear hCn
    try simp only [Act.put,sA,sB,sC]
    refine zAj (al:=14) (d:=11) (c:=15) (T:=49) (zs:=#[.bool false,.slice none 0 0]) (fuel:=1) (L:=fun l11=>#[true,true,true,true,true,true,true,true,true,true,true,true,true,true,l11,false,false]) w1 wr.heap.size hxA.size Sg Sg (by intro l11;cases l11 <;> kernel_rfl) (by intro l11;cases l11 <;> kernel_rfl) (by rfl) (by intro l11;cases l11 <;> kernel_rfl) ?_ (fun w' hx=>HKeepT.out _ (hxA.trans hx)) ?_ l11 w1 (Ext.refl _) hal11
    ·intro v1 w' K' hK'
     try simp only [Act.put,sA,sB,sC]
     try simp only [Act.put,sA,sB,sC] at hK'
     go_simp
     exact hK'
    intro l11 v11 y hxy hal11 hct K hK
    (try clear hH)
    (try clear hC)
    try simp only [Act.put,sA,sB,sC]
    replace hxA:=hxA.trans hxy
    (try replace HN1:=zH (HN1.out.ext hxy))
    obtain rfl:l11=true:=by
     cases l11 with
     | false=>exact absurd (Eq.trans (Eq.symm hct) kr) (show ¬ (true=false) by decide)
     | true=>rfl
    obtain ⟨b11,rfl,hb11,k11⟩:=hal11 rfl
    clear hal11
    have zl11:=k11.lt
    obtain ⟨zc11a,zf11a,zc11b,zf11b⟩:=k11.two
    clear hct
    go_simp
    refine hK.out _ _ (fun h=>by cases h) (fun hCn=>?_)
    clear hK K
    have hC:=hCn
    clear hCn
    try simp only [Act.put,sA,sB,sC]
    refine zAB hC (i:=16) Sg kr (fun K hK=>?_)
    go_simp
    refine hK.out _ _ (fun h=>by cases h) (fun hCn=>?_)
    clear hK K hC
    have hC:=hCn
    clear hCn
    try simp only [Act.put,sA,sB,sC]
    refine zAD kr ?_ _
    clear hC HKeepT
    try clear hH
    go_wp2
    refine Met.intro ?_
    go_step
    (repeat apply Exists.intro)
    refine And.symm ⟨?_,?_⟩
    ·first|with_reducible rfl|rfl
    first
    | exact ⟨_,rfl,rfl,(by first|exact Nat.le_refl _|assumption|(simp only [World.size_setCell,World.size_alloc,World.size_drew];omega)|omega),zH (IntB.mk2 (by (with_reducible repeat (first|exact k11  | (refine Blk.at ?_;· (first|rfl|(simp only [World.size_setCell,World.size_alloc,World.size_drew];done)|(simp only [World.size_setCell,World.size_alloc,World.size_drew];omega)))|(refine Blk.put3 ?_;· (repeat (first|exact BlkN.of k11 rfl  | (refine BlkN.at ?_ ?_;· (first|rfl|(simp only [World.size_setCell,World.size_alloc,World.size_drew];done)|(simp only [World.size_setCell,World.size_alloc,World.size_drew];omega));· rfl)|(refine BlkN.far2 ?_ ?_;· (first|assumption|exact Ne.symm (by assumption)|omega))|refine BlkN.al ?_|refine BlkN.dr ?_)))|(refine Blk.put2 ?_;· (repeat (first|exact BlkN.of k11 rfl  | (refine BlkN.at ?_ ?_;· (first|rfl|(simp only [World.size_setCell,World.size_alloc,World.size_drew];done)|(simp only [World.size_setCell,World.size_alloc,World.size_drew];omega));· rfl)|(refine BlkN.far2 ?_ ?_;· (first|assumption|exact Ne.symm (by assumption)|omega))|refine BlkN.al ?_|refine BlkN.dr ?_)))|(refine Blk.put1 ?_;· (repeat (first|exact BlkN.of k11 rfl  | (refine BlkN.at ?_ ?_;· (first|rfl|(simp only [World.size_setCell,World.size_alloc,World.size_drew];done)|(simp only [World.size_setCell,World.size_alloc,World.size_drew];omega));· rfl)|(refine BlkN.far2 ?_ ?_;· (first|assumption|exact Ne.symm (by assumption)|omega))|refine BlkN.al ?_|refine BlkN.dr ?_)))|(refine Blk.far2 ?_ ?_;· (first|assumption|exact Ne.symm (by assumption)|omega))|refine Blk.al ?_|refine Blk.drew ?_))) (by (with_reducible repeat (first|exact HN1.out|refine IsInt.al ?_|refine IsInt.dr ?_|(refine IsInt.setN ?_ ?_;· (repeat (first|exact NB.of k11 (by decide)  | (refine NB.at ?_ ?_;· (first|rfl|(simp only [World.size_setCell,World.size_alloc,World.size_drew];done)|(simp only [World.size_setCell,World.size_alloc,World.size_drew];omega));· decide)|refine NB.set ?_|refine NB.al ?_|refine NB.dr ?_))))))),zH Ext.ua⟩
   obtain ⟨b11,rfl,rfl,hb11,HB11,HX1⟩:=hcut
   obtain ⟨W1,hWn⟩:∃ W1,wc=W1:=⟨_,rfl⟩
   rw [hWn] at HB11 HX1 ⊢
   clear hWn wc
   replace ca1:=HX1.out.cell ca1
   replace ca2:=HX1.out.cell ca2
   replace cb1:=HX1.out.cell cb1
   replace cb2:=HX1.out.cell cb2
   replace HM:=zH (HM.out.ext HX1.out)
   replace HX:=zH (HX.out.trans HX1.out)
   have hszW1:=HX1.out.size
   obtain ⟨n11,A11,k11,q11,hn11⟩:=HB11.out.box
   obtain ⟨c11a,f11a,c11b,f11b⟩:=q11.two
   have hl11:=q11.lt
   have HN11:=zH hn11
   clear hn11 q11 HB11
   have hcz:=HCZ.out
   obtain ⟨n0,A0,k0,d1,d2,i0⟩:=HM.out.cells k hkK
   have f1:=HM.out.free (k*2)
   have f2:=HM.out.free (k*2+1)
   have lh:=HM.out.lt
   rw [if_neg om,if_pos rfl] at i0
   have HI0:=zH i0
   have hfs:=HFs.out k i om om
   have hfs1:=HFs.out k (i+1) om om
   rw [HPs.out] at hfs1
   obtain ⟨s0,hs0⟩:∃ z,mulP kb fa fb k i=z:=⟨_,rfl⟩
   rw [hs0] at hfs1 HI0 HPs
   rw [HFz.out] at HN11
   have hca:=hfs1.2
   have HFa:=zH hfs1.1
   have HAd:=zH (fun V (hx:Ext W1 V)=>zBR n0 n11 A0 A11 k0 k11 s0 (za*zb) V (HI0.out.ext hx) (HN11.out.ext hx))
   clear hfs hfs1 i0 HHm ca1 ca2 cb1 cb2
   go_upto_region 14 with (fail)
   have HKeepT:=zH (fun (w':World) (hx:Ext W1 w')=>(show w'.cell? ⟨b11,0,none⟩=some (.bool n11)∧w'.cell? ⟨b11,1,none⟩=some (.slice A11 k11 k11)∧w'.cell? ⟨h,k*2,none⟩=some (.bool n0)∧w'.cell? ⟨h,k*2+1,none⟩=some (.slice A0 k0 k0) from ⟨hx.cell c11a,hx.cell c11b,hx.cell d1,hx.cell d2⟩))
   refine rU HKeepT [12,13] [10] 14 (fun hH hC=>?_)
   revert hC
   refine tk 0 14 hH ?_
   refine tk 1 14 hH ?_
   refine tk 2 14 hH ?_
   refine tk 3 14 hH ?_
   refine tk 4 14 hH ?_
   refine tk 5 14 hH ?_
   refine tk 6 14 hH ?_
   intro hC
   refine zAB hC (i:=7) Sg kr (fun K hK=>?_)
   go_simp
   (go_at_call 67;with_reducible refine Calls.mono (HAd.out _ ?_) ?_;exact Ext.ua;rintro e w1 ⟨n1,A1,e1,rfl,hn1,hx⟩;have hxN:Ext W1 w1:=Ext.trans Ext.ua hx;(try clear hxA);have hxA:=hxN;clear hxN;have HN1:=zH hn1;clear hn1;have td1:=hxA.cell d1;have ud1:=hxA.free f1 (zAA d1);have td2:=hxA.cell d2;have ud2:=hxA.free f2 (zAA d2);clear hx)
   try go_wp2_with fail
   have hHeldN:=HKeepT.out w1 Ext.ua
   refine hK.out _ _ (fun _ _=>hHeldN) (fun hCn=>?_)
   clear hK K hH hC
   have hH:=hHeldN
   have hC:=hCn
   clear hHeldN hCn
   try simp only [Act.put,sA,sB,sC]
   revert hC
   refine tk 8 14 hH ?_
   refine tk 9 14 hH ?_
   refine tk 11 14 hH ?_
   intro hC
   refine zAF hC (i:=10) (v:=?_) Sg kr kr kr kr Iq (by rfl) ?_ (fun hCn=>?_)
   rotate_left
   ·intro w';go_simp;(try with_reducible rfl)
   clear hC
   have hC:=hCn
   clear hCn
   try simp only [Act.put,sA,sB,sC]
   refine zAB hC (i:=12) Sg kr (fun K hK=>?_)
   go_simp
   refine hK.out _ _ (fun h=>by cases h) (fun hCn=>?_)
   clear hK K hC
   have hC:=hCn
   clear hCn
   try simp only [Act.put,sA,sB,sC]
   refine zAB hC (i:=13) Sg kr (fun K hK=>?_)
   go_simp
   refine hK.out _ _ (fun h=>by cases h) (fun hCn=>?_)
   clear hK K hC
   have hC:=hCn
   clear hCn
   try simp only [Act.put,sA,sB,sC]
   refine zAD kr ?_ _
   clear hC HKeepT
   try clear hH
   obtain ⟨V,hV⟩:∃ V,setInt w1 h (k*2) n1 A1 e1=V:=⟨_,rfl⟩
   have HXv:Hid (Ext w2 V):=by rw [← hV];exact zAO (HX.out.trans hxA) hlo
   have hn':IsInt w1 n1 A1 e1 (s0+za*zb):=by have:=HN1.out;rwa [HFa.out] at this
   have HMv:Hid (MRow V h K (fun m=>if m < k then mulT ka kb fa fb m else if m=k then mulP kb fa fb k (i+1) else 0)):=by
    rw [← hV,HPs.out]
    refine ((HM.out.ext hxA).set_ hkK hn').congr fun m _=>?_
    by_cases e:m=k
    ·subst e;rw [if_pos rfl,if_neg om,if_pos rfl]
    ·simp only [if_neg e]
   have eV:(w1.setCell ⟨h,k*2,none⟩ (.bool n1)).setCell ⟨h,k*2+1,none⟩ (.slice A1 e1 e1)=V:=hV
   (try rw [eV])
   clear eV hV hn' HX HM HN1 HAd hxA
   go_wp2
   go_roundg (lim - (i+1))
   case measure=>have:=HKI.out;omega
   case rel=>exact ⟨i+1,by have:=HKI.out;omega,by go_num,HMv,HXv⟩
  ·skip
   obtain rfl:i=lim:=by omega
   have HM2:Hid (MRow wr h K (fun m=>if m < k+1 then mulT ka kb fa fb m else 0)):=HM.out.congr fun m _=>by
    by_cases e:m=k
    ·subst e;rw [if_neg om,if_pos rfl,if_pos om];unfold mulT;rw [HLim.out]
    ·rw [if_neg e]
     by_cases e2:m < k
     ·rw [if_pos e2,if_pos om]
     ·rw [if_neg e2,if_neg om]
   clear HM
   go_wp2
   go_roundg (K - (k+1))
   case measure=>have:=HKK.out;omega
   case rel=>exact ⟨k+1,by have:=HKK.out;omega,by go_num,HM2,HX⟩
 ·skip
  obtain rfl:k=K:=by omega
  have HF:=zH (HR.out h _ (HM.out.congr fun j hj=>if_pos hj) hlo HX.out)
  go_wp2
  first
  | exact HF.out
  | exact bodyPost_ret (v:=.tuple #[.slice (some ⟨h,0,none⟩) k k,.int .i64 0]) (by simp [results,Tryz.results30,go_sem]) rfl HF.out
def powT (ka K:Nat) (fa:Nat→Int):Nat→Nat→Int
 | 0,m=>if m=0 then 1 else 0
 | j+1,m=>mulT K ka (powT ka K fa j) fa m
set_option maxHeartbeats 4000000 in
set_option maxRecDepth 100000 in
theorem thPow_any (A:Option Addr) (ka ca p K:Nat) (fa:Nat→Int) (w:World) (hp:p≤4096) (hK:K≤4096) (hka:ka≤4096) (hA:SerA w A ka fa) (ha:Mild ka fa) (hm:∀ j,j < p→Mild K (powT ka K fa j)) :
  Calls Tryz.prog 28 #[.slice A ka ca,.int .i64 p,.int .i64 K] w fun e w'=>∃ h,e = .returned (.tuple #[.slice (some ⟨h,0,none⟩) K K,.int .i64 0])∧MRow w' h K (powT ka K fa p)∧w.heap.size≤h∧Ext w w':=by
 obtain ⟨R,hR⟩:∃ R:Ending→World→Prop,(fun e w'=>∃ h,e = .returned (.tuple #[.slice (some ⟨h,0,none⟩) K K,.int .i64 0])∧MRow w' h K (powT ka K fa p)∧w.heap.size≤h∧Ext w w')=R:=⟨_,rfl⟩
 have HR:Hid (∀ h w',MRow w' h K (powT ka K fa p)→w.heap.size≤h→Ext w w'→R (.returned (.tuple #[.slice (some ⟨h,0,none⟩) K K,.int .i64 0])) w'):=fun h w' h1 h2 h3=>by rw [← hR];exact ⟨h,rfl,h1,h2,h3⟩
 rw [hR]
 clear hR
 have HT1:=zH (yAC (p:Int) ⟨by omega,by omega⟩)
 have HT2:=zH (yAC (K:Int) ⟨by omega,by omega⟩)
 have HMul:=zH (fun j (hj:j < p) W h (hx:Ext w W) (hM:MRow W h K (powT ka K fa j))=>thMul_any (some ⟨h,0,none⟩) A K K ka ca K (powT ka K fa j) fa W hK hK hka hM.serA (hA.ext hx) (hm j hj) ha)
 have HO:=zH (fun V=>zBi 1 V om om)
 clear hA ha hm
 go_enter Tryz.func28,Tryz.ntmps28
 go_wp2_with (fail)
 refine (HT1.out _).mono ?_
 rintro e w1 ⟨rfl,rfl⟩
 go_wp2_with (fail)
 refine (HT2.out _).mono ?_
 rintro e w2 ⟨rfl,rfl⟩
 obtain ⟨cs,hmk,hrow⟩:=zAs (K:Int) K rfl om w2
 obtain ⟨W0,hW0⟩:∃ W0,w2.alloc (.cells cs 49)=W0:=⟨_,rfl⟩
 obtain ⟨h0,hh⟩:∃ h,w2.heap.size=h:=⟨_,rfl⟩
 have hlo:w2.heap.size≤h0:=by omega
 have HX0:Hid (Ext w2 W0):=by rw [← hW0];exact (Ext.refl _).alloc _
 rw [hW0,hh] at hmk hrow
 have HM0:=zH hrow
 clear hrow hW0 hh HT1 HT2
 by_cases hK0:(K:Int) > 0
 case' pos =>
  go_wp2_with (fail)
  refine (HO.out _).mono ?_
  rintro e V ⟨Ag,kg,rfl,hi1,hx⟩
  have HM1:=zH (HM0.out.ext hx)
  have HX1:=zH (HX0.out.trans hx)
  have HI1:=zH hi1
  obtain ⟨n0,A0,k0,d1,d2,_⟩:=HM1.out.cells 0 om
  have f1:=HM1.out.free (0*2)
  have f2:=HM1.out.free (0*2+1)
  rw [Nat.zero_mul] at d1 d2 f1 f2
  have lh:=HM1.out.lt
  clear hx hi1 HM0 HX0 hmk
  go_wp2
  obtain ⟨V2,hV2⟩:∃ V2,setInt V h0 0 false Ag kg=V2:=⟨_,rfl⟩
  have HM2:Hid (MRow V2 h0 K (powT ka K fa 0)):=by
   rw [← hV2]
   exact (HM1.out.set_ (j:=0) om HI1.out).congr fun j _=>rfl
  have HX2:Hid (Ext w2 V2):=by rw [← hV2];exact zAO HX1.out hlo
  have eV:(V.setCell ⟨h0,0,none⟩ (.bool false)).setCell ⟨h0,0+1,none⟩ (.slice Ag kg kg)=V2:=hV2
  try rw [Nat.zero_add] at eV
  rw [eV]
  (try rw [show decide (0 < K)=true from decide_eq_true om])
  clear eV hV2 HM1 HX1 HI1 d1 d2 f1 f2 lh
 case' neg =>
  obtain ⟨V2,hV2⟩:∃ V2,V2=W0:=⟨_,rfl⟩
  subst hV2
  have HM2:Hid (MRow V2 h0 K (powT ka K fa 0)):=HM0.out.congr fun j hj=>by omega
  have HX2:=HX0
  go_wp2
  (try rw [show decide (0 < K)=false from decide_eq_false om])
  clear HM0 HX0 hmk
 all_goals
  go_loopg [8,27] p (fun kk va jv wk=>∃ j h:Nat,kk+j=p∧va = .slice (some ⟨h,0,none⟩) K K∧jv = .int .i64 j∧w2.heap.size≤h∧Hid (MRow wk h K (powT ka K fa j))∧Hid (Ext w2 wk))
  case atStart=>exact ⟨0,h0,by omega,rfl,rfl,hlo,HM2,HX2⟩
  clear HM2 HX2 hlo hK0
  obtain ⟨j,h,hkj,rfl,rfl,hlo,HM,HX⟩:=hrel
  by_cases hjp:j < p
  ·have HC:=zH (HMul.out j hjp _ h HX.out HM.out)
   clear HM
   go_wp2_with (fail)
   refine HC.out.mono ?_
   rintro e w3 ⟨h',rfl,hm,hl,hx⟩
   have HM3:Hid (MRow w3 h' K (powT ka K fa (j+1))):=hm
   have HX3:=zH (HX.out.trans hx)
   have hlo':w2.heap.size≤h':=Nat.le_trans HX.out.size hl
   clear hm hl hx HC HX
   go_wp2
   go_roundg (p - (j+1))
   case measure=>omega
   case rel=>exact ⟨j+1,h',by omega,rfl,by go_num,hlo',HM3,HX3⟩
  ·obtain rfl:p=j:=by omega
   have HF:=zH (HR.out h _ HM.out hlo HX.out)
   go_wp2
   first
   | exact HF.out
   | exact bodyPost_ret (v:=.tuple #[.slice (some ⟨h,0,none⟩) K K,.int .i64 0]) (by simp [results,Tryz.results28,go_sem]) rfl HF.out
theorem cmpZ_self (z:Int):cmpZ z z=0:=by unfold cmpZ;simp
set_option maxHeartbeats 4000000 in
set_option maxRecDepth 100000 in
theorem equal_yes (A B:Option Addr) (n c d:Nat) (f g:Nat→Int) (w:World) (hn:n≤4096) (hA:SerA w A n f) (hB:SerA w B n g) (he:∀ i,i < n→f i=g i) :
  Calls Tryz.prog 29 #[.slice A n c,.slice B n d] w fun e w'=>e = .returned (.bool true)∧Ext w w':=by
 have HA:=zH hA
 have HB:=zH hB
 have HE:=zH he
 clear hA hB he
 go_enter Tryz.func29,Tryz.ntmps29
 go_wp2
 go_loopg [13] n (fun kk iv wk=>∃ i:Nat,kk+i=n∧iv = .int .i64 i∧Hid (Ext w wk))
 case atStart=>exact ⟨0,by omega,rfl,Ext.refl _⟩
 obtain ⟨i,hki,rfl,HX⟩:=hrel
 by_cases hin:i < n
 ·obtain ⟨h1,rfl,hra⟩:=HA.out om
  obtain ⟨h2,rfl,hrb⟩:=HB.out om
  obtain ⟨na,Aa,ea,ca1,ca2,ia⟩:=hra.cells i hin
  obtain ⟨nb,Ab,eb,cb1,cb2,ib⟩:=hrb.cells i hin
  replace ca1:=HX.out.cell ca1
  replace ca2:=HX.out.cell ca2
  replace cb1:=HX.out.cell cb1
  replace cb2:=HX.out.cell cb2
  rw [HE.out i hin] at ia
  have HIa:=zH (ia.ext HX.out)
  have HIb:=zH (ib.ext HX.out)
  obtain ⟨z,hz⟩:∃ z,g i=z:=⟨_,rfl⟩
  rw [hz] at HIa HIb
  have l1:=zAA ca1
  have l2:=zAA cb1
  simp only at l1 l2
  have HC:Hid (∀ V,Ext wr V→Calls Tryz.prog 23 #[.agg #[.bool na,.slice Aa ea ea],.agg #[.bool nb,.slice Ab eb eb]] V fun e w'=>e = .returned (.int .i64 0)∧Ext V w'):=fun V hx=>by
   have:=zCmp_any na nb Aa Ab ea eb z z V (HIa.out.ext hx) (HIb.out.ext hx)
   rwa [cmpZ_self] at this
  have HKI:=zH hki
  clear hra hrb ia ib hz hki
  go_upto_region 6 with (fail)
  have HKeepT:=zH (fun (w':World) (hx:Ext wr w')=>(show w'.cell? ⟨h1,i*2,none⟩=some (.bool na)∧w'.cell? ⟨h1,i*2+1,none⟩=some (.slice Aa ea ea)∧w'.cell? ⟨h2,i*2,none⟩=some (.bool nb)∧w'.cell? ⟨h2,i*2+1,none⟩=some (.slice Ab eb eb) from ⟨hx.cell ca1,hx.cell ca2,hx.cell cb1,hx.cell cb2⟩))
  refine rU HKeepT [] [] 10 (fun hH hC=>?_)
  revert hC
  refine tk 0 10 hH ?_
  refine tk 1 10 hH ?_
  refine tk 2 10 hH ?_
  refine tk 3 10 hH ?_
  refine tk 4 10 hH ?_
  refine tk 5 10 hH ?_
  refine tk 6 10 hH ?_
  refine tk 7 10 hH ?_
  intro hC
  refine zAB hC (i:=8) Sg kr (fun K hK=>?_)
  go_simp
  (go_at_call 23;with_reducible refine Calls.mono (HC.out _ ?_) ?_;exact Ext.ua;rintro e w1 ⟨rfl,hx⟩;have hxN:Ext wr w1:=Ext.trans Ext.ua hx;(try clear hxA);have hxA:=hxN;clear hxN;clear hx)
  try go_wp2_with fail
  have hHeldN:=HKeepT.out w1 Ext.ua
  refine hK.out _ _ (fun _ _=>hHeldN) (fun hCn=>?_)
  clear hK K hH hC
  have hH:=hHeldN
  have hC:=hCn
  clear hHeldN hCn
  try simp only [Act.put,sA,sB,sC]
  revert hC
  refine tk 9 10 hH ?_
  intro hC
  refine zAD kr ?_ _
  clear hC HKeepT
  try clear hH
  go_wp2
  go_roundg (n - (i+1))
  case measure=>have:=HKI.out;omega
  case rel=>exact ⟨i+1,by have:=HKI.out;omega,by go_num,by first|exact zH (HX.out.trans hxA)|exact zH ((HX.out.trans hxA).drew)⟩
 ·skip
  obtain rfl:n=i:=by omega
  go_wp2
  exact bodyPost_ret (v:=.bool true) (by simp [results,Tryz.results29,go_sem]) rfl ⟨rfl,HX.out⟩
set_option maxHeartbeats 4000000 in
set_option maxRecDepth 100000 in
theorem yAM (A:Option Addr) (b n c:Nat) (f g:Nat→Int) (w:World) (hn:n≤4096) (hA:SerA w A n f) (hB:NRow w b n g) (he:∀ i,i < n→f i=g i) (hg:∀ i,i < n → -9223372036854775808≤g i∧g i≤9223372036854775807) :
  Calls Tryz.prog 31 #[.slice A n c,.int .i64 0,.slice (some ⟨b,0,none⟩) n n] w fun e w'=>e = .returned (.bool true)∧Ext w w':=by
 have HA:=zH hA
 have HB:=zH hB
 have HE:=zH he
 have HG:=zH hg
 have HO:=zH zOf_any
 clear hA hB he hg
 go_enter Tryz.func31,Tryz.ntmps31
 go_wp2
 go_loopg [19] n (fun kk iv wk=>∃ i:Nat,kk+i=n∧iv = .int .i64 i∧Hid (Ext w wk))
 case atStart=>exact ⟨0,by omega,rfl,Ext.refl _⟩
 obtain ⟨i,hki,rfl,HX⟩:=hrel
 by_cases hin:i < n
 ·obtain ⟨h1,rfl,hra⟩:=HA.out om
  obtain ⟨na,Aa,ea,ca1,ca2,ia⟩:=hra.cells i hin
  replace ca1:=HX.out.cell ca1
  replace ca2:=HX.out.cell ca2
  have cb:=HX.out.cell (HB.out.cell i hin)
  rw [HE.out i hin] at ia
  have HIa:=zH (ia.ext HX.out)
  obtain ⟨g0,g1⟩:=HG.out i hin
  obtain ⟨z,hz⟩:∃ z,g i=z:=⟨_,rfl⟩
  rw [hz] at HIa cb g0 g1
  have l1:=zAA ca1
  have l2:=zAA cb
  simp only at l1 l2
  have HC:Hid (∀ V nb Ab eb,Ext wr V→IsInt V nb Ab eb z→Calls Tryz.prog 23 #[.agg #[.bool na,.slice Aa ea ea],.agg #[.bool nb,.slice Ab eb eb]] V fun e w'=>e = .returned (.int .i64 0)∧Ext V w'):=fun V nb Ab eb hx h=>by
   have:=zCmp_any na nb Aa Ab ea eb z z V (HIa.out.ext hx) h
   rwa [cmpZ_self] at this
  have HOz:=zH (fun V=>HO.out z V g0 g1)
  have HKI:=zH hki
  clear hra ia hz hki
  go_upto_region 6 with (fail)
  have HKeepT:=zH (fun (w':World) (hx:Ext wr w')=>(show w'.cell? ⟨h1,i*2,none⟩=some (.bool na)∧w'.cell? ⟨h1,i*2+1,none⟩=some (.slice Aa ea ea)∧w'.cell? ⟨b,i,none⟩=some (.int .i64 z) from ⟨hx.cell ca1,hx.cell ca2,hx.cell cb⟩))
  refine rU HKeepT [] [] 11 (fun hH hC=>?_)
  revert hC
  refine tk 0 11 hH ?_
  refine tk 1 11 hH ?_
  refine tk 2 11 hH ?_
  refine tk 3 11 hH ?_
  refine tk 4 11 hH ?_
  refine tk 5 11 hH ?_
  refine tk 6 11 hH ?_
  refine tk 7 11 hH ?_
  intro hC
  refine zAB hC (i:=8) Sg kr (fun K hK=>?_)
  go_simp
  (go_at_call 24;refine (HOz.out _).mono ?_;rintro e w1 ⟨nz,Az,kz,rfl,hi1,hx⟩;have hxN:Ext wr w1:=Ext.trans Ext.ua hx;(try clear hxA);have hxA:=hxN;clear hxN;have HI1:=zH hi1;clear hi1;clear hx)
  try go_wp2_with fail
  have hHeldN:=HKeepT.out w1 Ext.ua
  refine hK.out _ _ (fun _ _=>hHeldN) (fun hCn=>?_)
  clear hK K hH hC
  have hH:=hHeldN
  have hC:=hCn
  clear hHeldN hCn
  try simp only [Act.put,sA,sB,sC]
  refine zAB hC (i:=9) Sg kr (fun K hK=>?_)
  go_simp
  (go_at_call 23;with_reducible refine Calls.mono ((fun hh=>HC.out _ nz Az kz hh (HI1.out.ext (Ext.refl _))) ?_) ?_;exact Ext.ua;rintro e w2 ⟨rfl,hx⟩;have hxN:Ext wr w2:=Ext.trans Ext.ua hx;(try clear hxA);have hxA:=hxN;clear hxN;clear hx)
  try go_wp2_with fail
  have hHeldN:=HKeepT.out w2 Ext.ua
  refine hK.out _ _ (fun _ _=>hHeldN) (fun hCn=>?_)
  clear hK K hH hC
  have hH:=hHeldN
  have hC:=hCn
  clear hHeldN hCn
  try simp only [Act.put,sA,sB,sC]
  revert hC
  refine tk 10 11 hH ?_
  intro hC
  refine zAD kr ?_ _
  clear hC HKeepT
  try clear hH
  go_wp2
  go_roundg (n - (i+1))
  case measure=>have:=HKI.out;omega
  case rel=>exact ⟨i+1,by have:=HKI.out;omega,by go_num,by first|exact zH (HX.out.trans hxA)|exact zH ((HX.out.trans hxA).drew)⟩
 ·skip
  obtain rfl:n=i:=by omega
  go_wp2
  exact bodyPost_ret (v:=.bool true) (by simp [results,Tryz.results31,go_sem]) rfl ⟨rfl,HX.out⟩
theorem thSq_no (k N:Int) (w:World) (h:¬ (0≤k∧k≤8∧0≤N∧N≤4096)) :
  Calls Tryz.prog 22 #[.int .i64 k,.int .i64 N] w fun e w'=>e = .returned (.tuple #[.slice none 0 0,.int .i64 2])∧Ext w w':=by
 by_cases h0:k < 0
 ·go_enter Tryz.func22,Tryz.ntmps22
  go_wp2
  exact bodyPost_ret (v:=.tuple #[.slice none 0 0,.int .i64 2]) (by simp [results,Tryz.results22,go_sem]) rfl ⟨rfl,Ext.refl _⟩
 ·by_cases h1:k > 8
  ·go_enter Tryz.func22,Tryz.ntmps22
   go_wp2
   exact bodyPost_ret (v:=.tuple #[.slice none 0 0,.int .i64 2]) (by simp [results,Tryz.results22,go_sem]) rfl ⟨rfl,Ext.refl _⟩
  ·have HTe:=zH (terms_no N (fun h2=>h ⟨by omega,by omega,h2.1,h2.2⟩))
   clear h
   go_enter Tryz.func22,Tryz.ntmps22
   go_wp2_with (fail)
   refine (HTe.out _).mono ?_
   rintro e w2 ⟨rfl,rfl⟩
   go_wp2
   exact bodyPost_ret (v:=.tuple #[.slice none 0 0,.int .i64 2]) (by simp [results,Tryz.results22,go_sem]) rfl ⟨rfl,Ext.refl _⟩
set_option maxHeartbeats 8000000 in
set_option maxRecDepth 100000 in
theorem thSq_any (k N:Nat) (w:World) (hk:k≤8) (hK:N≤4096) :
  Calls Tryz.prog 22 #[.int .i64 k,.int .i64 N] w fun e w'=>∃ h,e = .returned (.tuple #[.slice (some ⟨h,0,none⟩) N N,.int .i64 0])∧MRow w' h N (sqW k)∧w.heap.size≤h∧Ext w w':=by
 obtain ⟨R,hR⟩:∃ R:Ending→World→Prop,(fun e w'=>∃ h,e = .returned (.tuple #[.slice (some ⟨h,0,none⟩) N N,.int .i64 0])∧MRow w' h N (sqW k)∧w.heap.size≤h∧Ext w w')=R:=⟨_,rfl⟩
 have HR:Hid (∀ h w',MRow w' h N (sqW k)→w.heap.size≤h→Ext w w'→R (.returned (.tuple #[.slice (some ⟨h,0,none⟩) N N,.int .i64 0])) w'):=fun h w' h1 h2 h3=>by rw [← hR];exact ⟨h,rfl,h1,h2,h3⟩
 rw [hR]
 clear hR
 have HTe:=zH (yAC (N:Int) ⟨by omega,by omega⟩)
 have hk0:¬ (k:Int) < 0:=by omega
 have hk1:¬ (k:Int) > 8:=by omega
 go_enter Tryz.func22,Tryz.ntmps22
 go_wp2_with (fail)
 refine (HTe.out _).mono ?_
 rintro e wq ⟨rfl,rfl⟩
 clear hk0 hk1 HTe
 go_upto_region 3 with (fail)
 go_cut [6,7] (fun s6 s7 wx=>∃ b6 b7,s6 = .slice (some ⟨b6,0,none⟩) N N∧s7 = .slice (some ⟨b7,0,none⟩) N N∧wq.heap.size≤b6∧wq.heap.size≤b7∧b6≠b7∧Hid (NRow wx b6 N (fun _=>0))∧Hid (NRow wx b7 N (fun _=>0))∧Hid (Ext wq wx))
 case first =>
  have HKeepT:=zH (fun (w':World) (hx:Ext wq w')=>(show True from trivial))
  refine wp_region_U (fun w'=>True) [4,5] [2] 6 _ kr kr rp ?_ (fun hH hC=>?_)
  ·trivial
  revert hC
  refine tk 0 6 hH ?_
  intro hC
  refine zAF hC (i:=2) (v:=?_) Sg kr kr kr kr Iq (by rfl) ?_ (fun hCn=>?_)
  rotate_left
  ·intro w';go_simp;(try with_reducible rfl)
  clear hC
  have hC:=hCn
  clear hCn
  try simp only [Act.put,sA,sB,sC]
  refine zBZ hC (i:=1) (j:=3) Sg Sg kr (fun K hK=>?_) (fun K hK=>?_)
  ·skip
   obtain ⟨cs6,hmk6,hrow6⟩:=yAA (N:Int) N rfl om (wq.drew)
   go_simp
   go_wp2_with fail
   have hHeldN:(fun w'=>True) ((wq.alloc (.cells cs6 2)).drew):=trivial
   refine hK.out _ _ (fun _ _=>hHeldN) (fun hCn=>?_)
   clear hK K hC
   (try clear hH)
   have hH:=hHeldN
   have hC:=hCn
   clear hHeldN hCn
   try simp only [Act.put,sA,sB,sC]
   refine zBZ hC (i:=3) (j:=4) Sg Sg kr (fun K hK=>?_) (fun K hK=>?_)
   ·skip
    obtain ⟨cs7,hmk7,hrow7⟩:=yAA (N:Int) N rfl om ((wq.alloc (.cells cs6 2)).drew)
    go_simp
    go_wp2_with fail
    have hHeldN:(fun w'=>True) (((wq.alloc (.cells cs6 2)).alloc (.cells cs7 2)).drew):=trivial
    refine hK.out _ _ (fun _ _=>hHeldN) (fun hCn=>?_)
    clear hK K hC
    (try clear hH)
    have hH:=hHeldN
    have hC:=hCn
    clear hHeldN hCn
    try simp only [Act.put,sA,sB,sC]
    refine zAB hC (i:=4) Sg kr (fun K hK=>?_)
    go_simp
    refine hK.out _ _ (fun h=>by cases h) (fun hCn=>?_)
    clear hK K hC
    have hC:=hCn
    clear hCn
    try simp only [Act.put,sA,sB,sC]
    refine zAB hC (i:=5) Sg kr (fun K hK=>?_)
    go_simp
    refine hK.out _ _ (fun h=>by cases h) (fun hCn=>?_)
    clear hK K hC
    have hC:=hCn
    clear hCn
    try simp only [Act.put,sA,sB,sC]
    refine zAD kr ?_ _
    clear hC HKeepT
    try clear hH
    go_wp2
    refine Met.intro ?_
    go_step
    (repeat apply Exists.intro)
    refine And.symm ⟨?_,?_⟩
    ·first|with_reducible rfl|rfl
    first
    | exact ⟨_,_,rfl,rfl,(by first|exact Nat.le_refl _|(simp only [World.size_alloc,World.size_drew];omega)|omega),(by first|exact Nat.le_refl _|(simp only [World.size_alloc,World.size_drew];omega)|omega),by first|omega|(simp only [World.size_alloc,World.size_drew];omega),zH (by first|exact hrow6|exact hrow6.ext ((Ext.refl _).alloc _)|(have h9:=hrow6;simp only [World.size_alloc,World.size_drew] at h9;exact h9)),zH (by first|exact hrow7|exact hrow7.ext ((Ext.refl _).alloc _)|(have h9:=hrow7;simp only [World.size_alloc,World.size_drew] at h9;exact h9)),zH Ext.ua⟩
   ·skip
    go_simp
    refine hK.out _ _ (fun h=>by cases h) (fun hCn=>?_)
    clear hK K hC
    have hC:=hCn
    clear hCn
    try simp only [Act.put,sA,sB,sC]
    refine zAB hC (i:=3) Sg kr (fun K hK=>?_)
    obtain ⟨cs7,hmk7,hrow7⟩:=yAA (N:Int) N rfl om ((wq.alloc (.cells cs6 2)).drew)
    go_simp
    go_wp2_with fail
    have hHeldN:(fun w'=>True) (((wq.alloc (.cells cs6 2)).alloc (.cells cs7 2)).drew):=trivial
    refine hK.out _ _ (fun _ _=>hHeldN) (fun hCn=>?_)
    clear hK K hC
    (try clear hH)
    have hH:=hHeldN
    have hC:=hCn
    clear hHeldN hCn
    try simp only [Act.put,sA,sB,sC]
    refine zAB hC (i:=5) Sg kr (fun K hK=>?_)
    go_simp
    refine hK.out _ _ (fun h=>by cases h) (fun hCn=>?_)
    clear hK K hC
    have hC:=hCn
    clear hCn
    try simp only [Act.put,sA,sB,sC]
    refine zAD kr ?_ _
    clear hC HKeepT
    try clear hH
    go_wp2
    refine Met.intro ?_
    go_step
    (repeat apply Exists.intro)
    refine And.symm ⟨?_,?_⟩
    ·first|with_reducible rfl|rfl
    first
    | exact ⟨_,_,rfl,rfl,(by first|exact Nat.le_refl _|(simp only [World.size_alloc,World.size_drew];omega)|omega),(by first|exact Nat.le_refl _|(simp only [World.size_alloc,World.size_drew];omega)|omega),by first|omega|(simp only [World.size_alloc,World.size_drew];omega),zH (by first|exact hrow6|exact hrow6.ext ((Ext.refl _).alloc _)|(have h9:=hrow6;simp only [World.size_alloc,World.size_drew] at h9;exact h9)),zH (by first|exact hrow7|exact hrow7.ext ((Ext.refl _).alloc _)|(have h9:=hrow7;simp only [World.size_alloc,World.size_drew] at h9;exact h9)),zH Ext.ua⟩
  ·skip
   obtain ⟨cs7,hmk7,hrow7⟩:=yAA (N:Int) N rfl om (wq.drew)
   go_simp
   go_wp2_with fail
   have hHeldN:(fun w'=>True) ((wq.alloc (.cells cs7 2)).drew):=trivial
   refine hK.out _ _ (fun _ _=>hHeldN) (fun hCn=>?_)
   clear hK K hC
   (try clear hH)
   have hH:=hHeldN
   have hC:=hCn
   clear hHeldN hCn
   try simp only [Act.put,sA,sB,sC]
   refine zAB hC (i:=1) Sg kr (fun K hK=>?_)
   obtain ⟨cs6,hmk6,hrow6⟩:=yAA (N:Int) N rfl om ((wq.alloc (.cells cs7 2)).drew)
   go_simp
   go_wp2_with fail
   have hHeldN:(fun w'=>True) (((wq.alloc (.cells cs7 2)).alloc (.cells cs6 2)).drew):=trivial
   refine hK.out _ _ (fun _ _=>hHeldN) (fun hCn=>?_)
   clear hK K hC
   (try clear hH)
   have hH:=hHeldN
   have hC:=hCn
   clear hHeldN hCn
   try simp only [Act.put,sA,sB,sC]
   refine zAB hC (i:=4) Sg kr (fun K hK=>?_)
   go_simp
   refine hK.out _ _ (fun h=>by cases h) (fun hCn=>?_)
   clear hK K hC
   have hC:=hCn
   clear hCn
   try simp only [Act.put,sA,sB,sC]
   refine zAB hC (i:=5) Sg kr (fun K hK=>?_)
   go_simp
   refine hK.out _ _ (fun h=>by cases h) (fun hCn=>?_)
   clear hK K hC
   have hC:=hCn
   clear hCn
   try simp only [Act.put,sA,sB,sC]
   refine zAD kr ?_ _
   clear hC HKeepT
   try clear hH
   go_wp2
   refine Met.intro ?_
   go_step
   (repeat apply Exists.intro)
   refine And.symm ⟨?_,?_⟩
   ·first|with_reducible rfl|rfl
   first
   | exact ⟨_,_,rfl,rfl,(by first|exact Nat.le_refl _|(simp only [World.size_alloc,World.size_drew];omega)|omega),(by first|exact Nat.le_refl _|(simp only [World.size_alloc,World.size_drew];omega)|omega),by first|omega|(simp only [World.size_alloc,World.size_drew];omega),zH (by first|exact hrow6|exact hrow6.ext ((Ext.refl _).alloc _)|(have h9:=hrow6;simp only [World.size_alloc,World.size_drew] at h9;exact h9)),zH (by first|exact hrow7|exact hrow7.ext ((Ext.refl _).alloc _)|(have h9:=hrow7;simp only [World.size_alloc,World.size_drew] at h9;exact h9)),zH Ext.ua⟩
 obtain ⟨b6,b7,rfl,rfl,hl6,hl7,h67,HA0,HB0,HX0⟩:=hcut
 obtain ⟨W5,hWn⟩:∃ W5,wc=W5:=⟨_,rfl⟩
 rw [hWn] at HA0 HB0 HX0 ⊢
 clear hWn wc
 have hgo:Hid (∃ W6,Hid (NRow W6 b6 N (sqW 0))∧Hid (NRow W6 b7 N (fun _=>0))∧Hid (Ext wq W6)∧(0 < N→W5.setCell ⟨b6,0,none⟩ (.int .i64 1)=W6)∧(N=0→W5=W6)):=by
  by_cases hK0:0 < N
  ·exact ⟨_,(HA0.out.set_ (j:=0) hK0 1).congr fun j _=>by simp [sqW],HB0.out.far (Ne.symm h67) _,HX0.out.setCell hl6 _,fun _=>rfl,fun h=>by omega⟩
  ·exact ⟨W5,⟨fun j hj=>by omega,HA0.out.free,HA0.out.typ⟩,HB0,HX0,fun h=>by omega,fun _=>rfl⟩
 obtain ⟨W6,HA,HB,HX,hw6,hw6'⟩:=hgo.out
 clear hgo
 by_cases hK0:(0:Int) < N
 case' pos =>
  have d0:=HA0.out.cell 0 om
  have f0:=HA0.out.free 0
  have lb:=HA0.out.typ.lt
  have hW6:=hw6 om
  have hgt:(N:Int) > 0:=hK0
  go_wp2
  (try rw [hW6])
  (try rw [show decide (0 < N)=true from decide_eq_true om])
  clear d0 f0 lb hW6 hgt
 case' neg =>
  have hW6:=hw6' om
  have hgt:¬ (N:Int) > 0:=hK0
  subst hW6
  go_wp2
  rename_i hz9 K9 a9
  (try rw [show decide (0 < N)=false from decide_eq_false om])
  clear hz9 hgt
 all_goals
  clear hw6 hw6' HA0 HB0 HX0
  go_loopg [6,7,31] k (fun kk va vb rv wk=>∃ (r a b:Nat) (g:Nat→Int),kk+r=k∧va = .slice (some ⟨a,0,none⟩) N N∧vb = .slice (some ⟨b,0,none⟩) N N∧rv = .int .i64 r∧wq.heap.size≤a∧wq.heap.size≤b∧a≠b∧Hid (NRow wk a N (sqW r))∧Hid (NRow wk b N g)∧Hid (Ext wq wk))
  case atStart=>exact ⟨0,b6,b7,fun _=>0,by omega,rfl,rfl,rfl,hl6,hl7,h67,HA,HB,HX⟩
  case round =>
  clear HA HB HX hl6 hl7 h67 hK0
  obtain ⟨r,a,b,g,hkr,rfl,rfl,rfl,hla,hlb,hab,HA,HB,HX⟩:=hrel
  by_cases hrk:r < k
  ·skip
   have HKR:=zH hkr
   have hr8:r < 8:=by omega
   clear hkr
   obtain ⟨w1,hcl,hb1,hoth,hex⟩:=clear_row (c:=N) HB.out
   have HB1:=zH hb1
   have HA1:=zH (HA.out.other (hoth a hab))
   have HX1:=zH (hex wq hlb HX.out)
   clear hb1 hoth hex HA HB HX
   go_wp2
   clear hcl
   go_loopg [35] N (fun kk mv wm=>∃ m:Nat,kk+m=N∧mv = .int .i64 m∧Hid (NRow wm a N (sqW r))∧Hid (NRow wm b N (fun j=>if j < m then sqW (r+1) j else 0))∧Hid (Ext wq wm))
   case atStart=>exact ⟨0,by omega,rfl,HA1,HB1.out.congr fun j _=>by simp,HX1⟩
   clear HA1 HB1 HX1
   obtain ⟨m,hkm,rfl,HA,HB,HX⟩:=hrel
   by_cases hmK:m < N
   ·skip
    have HKM:=zH hkm
    clear hkm
    have HB2:Hid (NRow wr b N (fun j=>if j < m then sqW (r+1) j else if j=m then sqS r m 0 else 0)):=HB.out.congr fun j _=>by
     by_cases e:j < m
     ·rw [if_pos e,if_pos e]
     ·rw [if_neg e,if_neg e];simp [sqS,sm]
    clear HB
    have hm4:m < 4096:=by omega
    go_wp2
    go_loopg [9] (m+2) (fun kk xv wx=>∃ x:Nat,kk+x=m+2∧x≤m+1∧xv = .int .i64 x∧Hid (NRow wx a N (sqW r))∧Hid (NRow wx b N (fun j=>if j < m then sqW (r+1) j else if j=m then sqS r m x else 0))∧Hid (Ext wq wx))
    case atStart=>exact ⟨0,by omega,by omega,rfl,HA,HB2,HX⟩
    clear HA HB2 HX
    obtain ⟨x,hkx,hx1,rfl,HA,HB,HX⟩:=hrel
    obtain ⟨xx,hxx⟩:∃ y:Nat,x*x=y:=⟨_,rfl⟩
    have hxxI:(x:Int)*(x:Int)=(xx:Int):=by rw [← hxx,Int.natCast_mul]
    have hxs:x*x≤4096*4096:=Nat.mul_le_mul om om
    have hxb:xx≤16777216:=by omega
    have HXX:=zH hxx
    clear hxs hxx
    by_cases hle:xx≤m
    ·skip
     have hleI:(xx:Int)≤(m:Int):=by omega
     obtain ⟨p,hp⟩:∃ p,m - xx=p:=⟨_,rfl⟩
     have hpI:(m:Int) - (xx:Int)=(p:Int):=by omega
     have hpK:p < N:=by omega
     have ca:=HA.out.cell p hpK
     have cb:=HB.out.cell m hmK
     rw [if_neg om,if_pos rfl] at cb
     have fb:=HB.out.free m
     have lb:=HB.out.typ.lt
     have la:=HA.out.typ.lt
     have hsw:=yAF (k:=r) (m:=p) om om
     have hss:=sqS_small (r:=r) (m:=m) (x:=x) hr8 hm4 hx1
     obtain ⟨tv,htv⟩:∃ t:Int,(if x=0 then 1 else 2)=t:=⟨_,rfl⟩
     have ht2:tv=1∨tv=2:=by
      by_cases h:x=0
      ·exact Or.inl (by rw [← htv,if_pos h])
      ·exact Or.inr (by rw [← htv,if_neg h])
     have HSt:Hid (sqS r m (x+1)=sqS r m x+tv*sqW r p):=by
      have h1:=HXX.out
      show sm x (sqT r m)+sqT r m x=_
      unfold sqS sqT
      rw [h1,if_pos hle,hp,htv]
     obtain ⟨s,hs⟩:∃ z,sqS r m x=z:=⟨_,rfl⟩
     obtain ⟨z,hz⟩:∃ z,sqW r p=z:=⟨_,rfl⟩
     rw [hs] at cb hss HSt
     rw [hz] at ca hsw HSt
     obtain ⟨s0,s1⟩:=hss
     obtain ⟨z0,z1⟩:=hsw
     obtain ⟨tz,htz⟩:∃ y,tv*z=y:=⟨_,rfl⟩
     have htz0:0≤tz∧tz≤144115188075855872:=by rcases ht2 with rfl|rfl <;> omega
     obtain ⟨tz0,tz1⟩:=htz0
     rw [htz] at HSt
     have HTV:=zH htv
     have HKX:=zH hkx
     clear hs hz htv hkx hp
     by_cases hx0:x=0
     case pos =>
      subst hx0
      have htv1:tv=1:=by rw [← HTV.out];exact if_pos rfl
      subst htv1
      have hxx0:xx=0:=by have:=HXX.out;omega
      subst hxx0
      have hpm:p=m:=by omega
      subst hpm
      have htz1:tz=z:=by omega
      subst htz1
      have hw0:IntKind.i64.wrap 0=0:=wrapZ om
      have hsub:(p:Int) - 0=(p:Int):=by omega
      clear hxxI hpI hleI htz
      clear ht2 HTV
      have hwp:IntKind.i64.wrap (p:Int)=(p:Int):=wrapN om
      have hws:IntKind.i64.wrap (s+tz)=s+tz:=wrapZ om
      have hwz:IntKind.i64.wrap tz=tz:=wrapZ om
      go_upto_region 18 with (fail)
      have HKeepT:=zH (fun (w':World) (hx:Ext wr w')=>(show w'.cell? ⟨a,p,none⟩=some (.int .i64 tz)∧w'.cell? ⟨b,p,none⟩=some (.int .i64 s) from ⟨hx.cell ca,hx.cell cb⟩))
      refine rU HKeepT [16] [] 17 (fun hH hC=>?_)
      revert hC
      refine tk 0 17 hH ?_
      refine tk 1 17 hH ?_
      refine tk 2 17 hH ?_
      refine tk 3 17 hH ?_
      refine tk 4 17 hH ?_
      refine tk 5 17 hH ?_
      refine tk 6 17 hH ?_
      refine tk 7 17 hH ?_
      refine tk 8 17 hH ?_
      refine tk 9 17 hH ?_
      refine tk 10 17 hH ?_
      refine tk 11 17 hH ?_
      refine tk 12 17 hH ?_
      refine tk 13 17 hH ?_
      refine tk 14 17 hH ?_
      refine tk 15 17 hH ?_
      intro hC
      refine zAB hC (i:=16) Sg kr (fun K hK=>?_)
      go_simp
      refine hK.out _ _ (fun h=>by cases h) (fun hCn=>?_)
      clear hK K hC
      have hC:=hCn
      clear hCn
      try simp only [Act.put,sA,sB,sC]
      refine zAD kr ?_ _
      clear hC HKeepT
      try clear hH
      obtain ⟨V,hV⟩:∃ V,wr.setCell ⟨b,p,none⟩ (.int .i64 (s+tz))=V:=⟨_,rfl⟩
      have HAv:Hid (NRow V a N (sqW r)):=by rw [← hV];exact HA.out.far hab _
      have HBv:Hid (NRow V b N (fun j=>if j < p then sqW (r+1) j else if j=p then sqS r p (0+1) else 0)):=by
       rw [← hV]
       refine (HB.out.set_ hmK (s+tz)).congr fun j _=>?_
       by_cases e:j=p
       ·subst e;rw [if_pos rfl,if_neg om,if_pos rfl,HSt.out]
       ·simp only [if_neg e]
      have HXv:Hid (Ext wq V):=by rw [← hV];exact HX.out.setCell hlb _
      have hxm:0≤p:=by
       have h1:=HXX.out
       have h2:=le_sq 0
       omega
      (try rw [hV])
      clear hV HA HB HX ca cb fb lb la
      go_wp2
      go_roundg (p+2 - (0+1))
      case measure=>have:=HKX.out;omega
      case rel=>exact ⟨0+1,by have:=HKX.out;omega,by omega,by go_num,by first|exact HAv|exact zH (HAv.out.ext (Ext.refl _).drew),by first|exact HBv|exact zH (HBv.out.ext (Ext.refl _).drew),by first|exact HXv|exact zH HXv.out.drew⟩
     case neg =>
      have htv2:tv=2:=by rw [← HTV.out];exact if_neg hx0
      subst htv2
      have hwx:IntKind.i64.wrap (xx:Int)=(xx:Int):=wrapN om
      clear ht2 HTV
      have hwp:IntKind.i64.wrap (p:Int)=(p:Int):=wrapN om
      have hws:IntKind.i64.wrap (s+tz)=s+tz:=wrapZ om
      have hwz:IntKind.i64.wrap tz=tz:=wrapZ om
      go_upto_region 18 with (fail)
      have HKeepT:=zH (fun (w':World) (hx:Ext wr w')=>(show w'.cell? ⟨a,p,none⟩=some (.int .i64 z)∧w'.cell? ⟨b,m,none⟩=some (.int .i64 s) from ⟨hx.cell ca,hx.cell cb⟩))
      refine rU HKeepT [16] [] 17 (fun hH hC=>?_)
      revert hC
      refine tk 0 17 hH ?_
      refine tk 1 17 hH ?_
      refine tk 2 17 hH ?_
      refine tk 3 17 hH ?_
      refine tk 4 17 hH ?_
      refine tk 5 17 hH ?_
      refine tk 6 17 hH ?_
      refine tk 7 17 hH ?_
      refine tk 8 17 hH ?_
      refine tk 9 17 hH ?_
      refine tk 10 17 hH ?_
      refine tk 11 17 hH ?_
      refine tk 12 17 hH ?_
      refine tk 13 17 hH ?_
      refine tk 14 17 hH ?_
      refine tk 15 17 hH ?_
      intro hC
      refine zAB hC (i:=16) Sg kr (fun K hK=>?_)
      go_simp
      refine hK.out _ _ (fun h=>by cases h) (fun hCn=>?_)
      clear hK K hC
      have hC:=hCn
      clear hCn
      try simp only [Act.put,sA,sB,sC]
      refine zAD kr ?_ _
      clear hC HKeepT
      try clear hH
      obtain ⟨V,hV⟩:∃ V,wr.setCell ⟨b,m,none⟩ (.int .i64 (s+tz))=V:=⟨_,rfl⟩
      have HAv:Hid (NRow V a N (sqW r)):=by rw [← hV];exact HA.out.far hab _
      have HBv:Hid (NRow V b N (fun j=>if j < m then sqW (r+1) j else if j=m then sqS r m (x+1) else 0)):=by
       rw [← hV]
       refine (HB.out.set_ hmK (s+tz)).congr fun j _=>?_
       by_cases e:j=m
       ·subst e;rw [if_pos rfl,if_neg om,if_pos rfl,HSt.out]
       ·simp only [if_neg e]
      have HXv:Hid (Ext wq V):=by rw [← hV];exact HX.out.setCell hlb _
      have hxm:x≤m:=by
       have h1:=HXX.out
       have h2:=le_sq x
       omega
      (try rw [hV])
      clear hV HA HB HX ca cb fb lb la
      go_wp2
      go_roundg (m+2 - (x+1))
      case measure=>have:=HKX.out;omega
      case rel=>exact ⟨x+1,by have:=HKX.out;omega,by omega,by go_num,by first|exact HAv|exact zH (HAv.out.ext (Ext.refl _).drew),by first|exact HBv|exact zH (HBv.out.ext (Ext.refl _).drew),by first|exact HXv|exact zH HXv.out.drew⟩
    ·skip
     have hleI:¬ (xx:Int)≤(m:Int):=by omega
     have HB3:Hid (NRow wr b N (fun j=>if j < m+1 then sqW (r+1) j else 0)):=HB.out.congr fun j _=>by
      by_cases e:j=m
      ·subst e;rw [if_neg om,if_pos rfl,if_pos om,sqS_all hx1 (by have:=HXX.out;omega)]
      ·rw [if_neg e]
       by_cases e2:j < m
       ·rw [if_pos e2,if_pos om]
       ·rw [if_neg e2,if_neg om]
     clear HB
     go_wp2
     go_roundg (N - (m+1))
     case measure=>have:=HKM.out;omega
     case rel=>exact ⟨m+1,by have:=HKM.out;omega,by go_num,HA,HB3,HX⟩
   ·skip
    obtain rfl:N=m:=by omega
    have HB3:Hid (NRow wr b N (sqW (r+1))):=HB.out.congr fun j hj=>if_pos hj
    go_wp2
    go_roundg (k - (r+1))
    case measure=>have:=HKR.out;omega
    case rel=>exact ⟨r+1,b,a,sqW r,by have:=HKR.out;omega,rfl,rfl,by go_num,hlb,hla,Ne.symm hab,HB3,HA,HX⟩
  ·skip
   obtain rfl:k=r:=by omega
   have HI:=zH (ints_any a N (sqW k) wr HA.out om (fun j hj=>by have:=yAF (k:=k) (m:=j) hk om;omega))
   clear HA HB hkr
   go_wp2_with (fail)
   refine HI.out.mono ?_
   rintro e w4 ⟨h,rfl,hm,hl,hx⟩
   have HF:=zH (HR.out h w4 hm (Nat.le_trans HX.out.size hl) (HX.out.trans hx))
   clear hm hl hx
   go_wp2
   first
   | exact HF.out
   | exact bodyPost_ret (v:=.tuple #[.slice (some ⟨h,0,none⟩) N N,.int .i64 0]) (by simp [results,Tryz.results22,go_sem]) rfl HF.out
theorem isRows_two {W:World} {b0 b1 b2:Nat} {x y z u:Int} (h0:Blk W b0 2 #[.int .i64 x,.int .i64 y]) (h1:Blk W b1 2 #[.int .i64 z,.int .i64 u]) (h2:Blk W b2 31 #[.slice (some ⟨b0,0,none⟩) 2 2,.slice (some ⟨b1,0,none⟩) 2 2]):IsRows W (some ⟨b2,0,none⟩) [[x,y],[z,u]]:=by
 intro _
 refine ⟨b2,0,rfl,h2.lt,fun i l hl=>?_⟩
 match i,hl with
 | 0,hl =>
  cases hl
  refine ⟨some ⟨b0,0,none⟩,2,h2.cell 0 rfl,Nat.le_refl _,fun _=>⟨b0,0,rfl,h0.lt,fun j z hj=>?_⟩⟩
  match j,hj with
  | 0,hj=>cases hj;exact h0.cell 0 rfl
  | 1,hj=>cases hj;exact h0.cell 1 rfl
 | 1,hl =>
  cases hl
  refine ⟨some ⟨b1,0,none⟩,2,h2.cell 1 rfl,Nat.le_refl _,fun _=>⟨b1,0,rfl,h1.lt,fun j z hj=>?_⟩⟩
  match j,hj with
  | 0,hj=>cases hj;exact h1.cell 0 rfl
  | 1,hj=>cases hj;exact h1.cell 1 rfl
theorem fit_two (x y z u:Int) (hx:x.natAbs≤1000) (hy:y.natAbs≤1000) (hz:z.natAbs≤1000) (hu:u.natAbs≤1000):Fit64 [[x,y],[z,u]]:=by
 refine ⟨by simp,fun l hl=>?_⟩
 simp only [List.mem_cons,List.not_mem_nil,or_false] at hl
 rcases hl with rfl|rfl
 ·refine ⟨by simp,fun a ha=>?_⟩
  simp only [List.mem_cons,List.not_mem_nil,or_false] at ha
  rcases ha with rfl|rfl <;> omega
 ·refine ⟨by simp,fun a ha=>?_⟩
  simp only [List.mem_cons,List.not_mem_nil,or_false] at ha
  rcases ha with rfl|rfl <;> omega
set_option exponentiation.threshold 5000
theorem nrow_of {w:World} {b:Nat} {l:List Int} (h:Blk w b 2 (l.map fun z=>Value.int .i64 z).toArray):NRow w b l.length (vat l) :=
 ⟨fun j hj=>h.cell j (by simp [vat,List.getElem?_eq_getElem hj]),fun j=>h.free j,h.typ⟩
theorem mrow_two {w:World} {b:Nat} {n1 n2:Bool} {A1 A2:Option Addr} {k1 k2:Nat} {z1 z2:Int} (h:Blk w b 49 #[.bool n1,.slice A1 k1 k1,.bool n2,.slice A2 k2 k2]) (h1:IsInt w n1 A1 k1 z1) (h2:IsInt w n2 A2 k2 z2):MRow w b 2 (vat [z1,z2]):=by
 refine ⟨fun j hj=>?_,fun o=>h.free o,h.typ⟩
 rcases (show j=0∨j=1 by omega) with rfl|rfl
 ·exact ⟨n1,A1,k1,h.cell 0 rfl,h.cell 1 rfl,h1⟩
 ·exact ⟨n2,A2,k2,h.cell 2 rfl,h.cell 3 rfl,h2⟩
theorem hexa_8 {L:List (List Int × Int)} (hL:Shorts 2 (entry hexa) 8 L):L.length=9∧∀ i,i < 9→thC L i=vat [1,0,6,0,0,0,6,0,6] i:=by
 have h:Shorts 2 (entry hexa) 8 (boxS 2 (entry hexa) 8 4):=shorts_box (n:=2) (zC2 hexa_chk).pd (E:=2) (two_small (by decide) (by decide) (by decide) (by decide)) 8 4 (by decide)
 rw [hL.unique h]
 refine ⟨by kernel_rfl,fun i hi=>?_⟩
 have e:((List.range 9).all fun i=>decide (thC (boxS 2 (entry hexa) 8 4) i=vat [1,0,6,0,0,0,6,0,6] i))=true:=by kernel_rfl
 simpa using List.all_eq_true.1 e i (List.mem_range.2 hi)
theorem sq_2_6:∀ i,i < 6→sqW 2 i=vat [1,4,4,0,4,8] i:=fun i hi=>by
 have e:((List.range 6).all fun i=>decide (sqW 2 i=vat [1,4,4,0,4,8] i))=true:=by kernel_rfl
 simpa using List.all_eq_true.1 e i (List.mem_range.2 hi)
theorem mul_2_2:∀ i,i < 4→mulT 2 2 (vat [1,2]) (vat [1,2]) i=vat [1,4,4,0] i:=fun i hi=>by
 have e:((List.range 4).all fun i=>decide (mulT 2 2 (vat [1,2]) (vat [1,2]) i=vat [1,4,4,0] i))=true:=by kernel_rfl
 simpa using List.all_eq_true.1 e i (List.mem_range.2 hi)
theorem yAG {l:List Int} (h:(l.all fun z=>decide (z.natAbs≤1000000))=true) (i:Nat):-9223372036854775808≤vat l i∧vat l i≤9223372036854775807:=by
 have:(vat l i).natAbs≤1000000:=by
  unfold vat
  cases e:l[i]? with
  | none=>exact Nat.zero_le _
  | some z=>simpa using List.all_eq_true.1 h z (List.mem_of_getElem? e)
 omega
theorem le_2000 {n:Nat} (h:n≤2 ^ 64):n≤2 ^ 2000:=Nat.le_trans h (Nat.pow_le_pow_right om om)
theorem mild_12:Mild 2 (vat [1,2]):=fun i hi=>le_2000 (by
 rcases (show i=0∨i=1 by omega) with rfl|rfl <;> decide)
set_option maxHeartbeats 4000000 in
set_option maxRecDepth 100000 in
theorem works25_any (w:World):Calls Tryz.prog 21 #[] w fun e w'=>e = .returned (.bool true)∧Ext w w':=by
 obtain ⟨b0,hb0⟩:∃ b,w.heap.size=b:=⟨_,rfl⟩
 obtain ⟨b1,hb1⟩:∃ b,b0+1=b:=⟨_,rfl⟩
 obtain ⟨b2,hb2⟩:∃ b,b0+1+1=b:=⟨_,rfl⟩
 obtain ⟨W3,hW3⟩:∃ W3,((w.alloc (.cells #[.int .i64 2,.int .i64 1] 2)).alloc (.cells #[.int .i64 1,.int .i64 2] 2)).alloc (.cells #[.slice (some ⟨b0,0,none⟩) 2 2,.slice (some ⟨b1,0,none⟩) 2 2] 31)=W3:=⟨_,rfl⟩
 have HX3:Hid (Ext w W3):=by rw [← hW3];exact (((Ext.refl _).alloc _).alloc _).alloc _
 have HR3:Hid (IsRows W3 (some ⟨b2,0,none⟩) hexa):=by
  refine isRows_two (b0:=b0) (b1:=b1) ?_ ?_ ?_
  ·rw [← hW3,← hb0];exact Blk.al (Blk.al (Blk.new _ _ _))
  ·rw [← hW3,← hb1,← hb0];exact Blk.al (Blk.at (by simp))
  ·rw [← hW3,← hb2,← hb0];exact Blk.at (by simp)
 have HA:=zH (thOf_any (some ⟨b2,0,none⟩) 2 2 hexa 9 W3 rfl HR3.out (fit_two _ _ _ _ (by decide) (by decide) (by decide) (by decide)) (by decide) (by decide))
 have hb2':b1+1=b2:=by omega
 go_enter Tryz.func21,Tryz.ntmps21
 go_wp2_with (fail)
 refine HA.out.mono ?_
 rintro e w1 ⟨hx1,A',k,c',z,rfl,h2⟩
 rcases h2 with ⟨h,_⟩|⟨_,h,_⟩|⟨_,h,_⟩|⟨_,_,_,L,hL,⟨_,rfl,hk,rfl,h1,rfl,_,hM⟩|⟨h,_⟩⟩
 ·exact absurd hexa_chk h
 ·exact absurd ⟨by decide,by decide⟩ h
 ·exact absurd h (by decide)
 case inr=>have:=(hexa_8 hL).1;omega
 obtain rfl:c'=9:=by omega
 have HM1:=zH hM
 have HL:=zH (hexa_8 hL).2
 have HX1:=zH (HX3.out.trans hx1)
 clear hx1 hM hL hk HA HR3 hW3 hb0 hb1 hb2 hb2'
 have HSq:=zH (fun V=>thSq_any 2 6 V om om)
 go_wp2_with (fail)
 refine (HSq.out _).mono ?_
 rintro e w2 ⟨h2,rfl,hM,_,hx⟩
 have HM2:=zH hM
 have HX2:=zH (HX1.out.trans hx)
 have HM12:=zH (HM1.out.ext hx)
 clear hM hx HX1 HM1 HSq HX3
 have HO1:=zH (fun V=>zBi 1 V om om)
 have HO2:=zH (fun V=>zBi 2 V om om)
 go_wp2_with (fail)
 refine (HO1.out _).mono ?_
 rintro e w3 ⟨A1,k1,rfl,hi1,hx⟩
 have HX3:=zH hx
 have HI1:=zH hi1
 clear hx hi1
 go_wp2_with (fail)
 refine (HO2.out _).mono ?_
 rintro e w4 ⟨A2,k2,rfl,hi2,hx⟩
 obtain ⟨W5,hW5⟩:∃ W5,w4.alloc (.cells #[.bool false,.slice A1 k1 k1,.bool false,.slice A2 k2 k2] 49)=W5:=⟨_,rfl⟩
 obtain ⟨g1,hg1⟩:∃ g,w4.heap.size=g:=⟨_,rfl⟩
 have hx45:Ext w4 W5:=by rw [← hW5];exact (Ext.refl _).alloc _
 have HB1:Hid (MRow W5 g1 2 (vat [1,2])):=mrow_two (by rw [← hW5,← hg1];exact Blk.new _ _ _) (HI1.out.ext (hx.trans hx45)) (hi2.ext hx45)
 have HX5:=zH ((HX3.out.trans hx).trans hx45)
 clear hx hi2 HI1 HX3 hx45
 go_wp2_with (fail)
 (try rw [hW5])
 (try rw [hg1])
 clear hW5 hg1
 refine (HO1.out _).mono ?_
 rintro e w6 ⟨A1,k1,rfl,hi1,hx⟩
 have HX6:=zH hx
 have HI1:=zH hi1
 clear hx hi1
 go_wp2_with (fail)
 refine (HO2.out _).mono ?_
 rintro e w7 ⟨A2,k2,rfl,hi2,hx⟩
 obtain ⟨W8,hW8⟩:∃ W8,w7.alloc (.cells #[.bool false,.slice A1 k1 k1,.bool false,.slice A2 k2 k2] 49)=W8:=⟨_,rfl⟩
 obtain ⟨g2,hg2⟩:∃ g,w7.heap.size=g:=⟨_,rfl⟩
 have hx78:Ext w7 W8:=by rw [← hW8];exact (Ext.refl _).alloc _
 have HB2:Hid (MRow W8 g2 2 (vat [1,2])):=mrow_two (by rw [← hW8,← hg2];exact Blk.new _ _ _) (HI1.out.ext (hx.trans hx78)) (hi2.ext hx78)
 have HX58:=zH ((HX6.out.trans hx).trans hx78)
 have HB1':=zH (HB1.out.ext HX58.out)
 have HX8:=zH (HX5.out.trans HX58.out)
 have HMul:=zH (thMul_any (some ⟨g1,0,none⟩) (some ⟨g2,0,none⟩) 2 2 2 2 4 (vat [1,2]) (vat [1,2]) W8 om om om HB1'.out.serA HB2.out.serA mild_12 mild_12)
 clear hx hi2 HI1 HX6 hx78 HB1 HB2 HB1' HX58 HO1 HO2
 go_wp2_with (fail)
 (try rw [hW8])
 (try rw [hg2])
 clear hW8 hg2
 refine HMul.out.mono ?_
 rintro e w9 ⟨h3,rfl,hM,_,hx⟩
 have HX9:=zH (HX8.out.trans hx)
 have HXw:=zH (HX2.out.trans HX9.out)
 have HT3:=zH (fun V b (hv:Ext w9 V) (hr:NRow V b 4 (vat [1,4,4,0]))=>yAM (some ⟨h3,0,none⟩) b 4 4 _ _ V om (hM.ext hv).serA hr mul_2_2 (fun i _=>yAG (by decide) i))
 have HT2:=zH (fun V b (hv:Ext w9 V) (hr:NRow V b 6 (vat [1,4,4,0,4,8]))=>yAM (some ⟨h2,0,none⟩) b 6 6 _ _ V om (HM2.out.ext (HX9.out.trans hv)).serA hr sq_2_6 (fun i _=>yAG (by decide) i))
 have HT1:=zH (fun V b (hv:Ext w9 V) (hr:NRow V b 9 (vat [1,0,6,0,0,0,6,0,6]))=>yAM (some ⟨h1,0,none⟩) b 9 9 _ _ V om (HM12.out.ext (HX9.out.trans hv)).serA hr HL.out (fun i _=>yAG (by decide) i))
 clear hM hx HMul HM2 HM12 HL HX8 HX5 HX2 HX9
 go_wp2_with (fail)
 refine (HT1.out _ _ ((Ext.refl _).alloc _) (nrow_of (l:=[1,0,6,0,0,0,6,0,6]) (Blk.new _ _ _))).mono ?_
 rintro e w10 ⟨rfl,hx⟩
 have HX10:=zH (((Ext.refl w9).alloc _).trans hx)
 clear hx HT1
 go_wp2_with (fail)
 refine (HT2.out _ _ (HX10.out.alloc _) (nrow_of (l:=[1,4,4,0,4,8]) (Blk.new _ _ _))).mono ?_
 rintro e w11 ⟨rfl,hx⟩
 have HX11:=zH ((HX10.out.alloc _).trans hx)
 clear hx HT2 HX10
 go_wp2_with (fail)
 refine (HT3.out _ _ (HX11.out.alloc _) (nrow_of (l:=[1,4,4,0]) (Blk.new _ _ _))).mono ?_
 rintro e w12 ⟨rfl,hx⟩
 have HX12:=zH (HXw.out.trans ((HX11.out.alloc _).trans hx))
 clear hx HT3 HX11
 go_wp2
 exact bodyPost_ret (v:=.bool true) (by simp [results,Tryz.results21,go_sem]) rfl ⟨rfl,HX12.out⟩
end Go.Proofs.YtdkgilioejdmeaaGreat
namespace Go.Proofs.YtdkgilioejdmeaaGreat
open Go.RowKit
structure MatI (w:World) (lo g n:Nat) (h:Nat→Nat) (m:Nat→Nat→Int):Prop where
 rows:∀ i,i < n→w.cell? ⟨g,i,none⟩=some (.slice (some ⟨h i,0,none⟩) n n)
 row:∀ i,i < n→NRow w (h i) n (m i)
 inj:∀ i j,i < n→j < n→h i=h j→i=j
 low:∀ i,i < n→lo≤h i
 glow:lo≤g
 typ:TB w 31 g
theorem MatI.is {w:World} {lo g n:Nat} {r:Nat→Nat} {f:Nat→Nat→Int} (h:MatI w lo g n r f):IsRows w (some ⟨g,0,none⟩) (rowsOf n f):=by
 intro _
 refine ⟨g,0,rfl,h.typ.lt,fun i l hl=>?_⟩
 obtain ⟨hi,rfl⟩:=rowsOf_at hl
 refine ⟨_,n,by rw [Nat.zero_add,List.length_map,List.length_range];exact h.rows i hi,by simp,fun hp=>?_⟩
 refine ⟨r i,0,rfl,(h.row i hi).typ.lt,fun j z hz=>?_⟩
 rw [List.getElem?_map] at hz
 by_cases hj:j < n
 ·rw [List.getElem?_range hj] at hz
  obtain rfl:=Option.some.inj hz
  rw [Nat.zero_add];exact (h.row i hi).cell j hj
 ·rw [List.getElem?_eq_none (by simpa using hj)] at hz;cases hz
structure SqInvI (w0 wr:World) (n i:Nat) (v:Value) (h:Nat→Nat) (m:Nat→Nat→Int):Prop where
 own:wr.ownsRow w0.heap.size 31 1 v i ((List.range i).map fun j=>Value.slice (some ⟨h j,0,none⟩) n n)
 row:∀ j,j < i→NRow wr (h j) n (m j)
 inj:∀ j k,j < i→k < i→h j=h k→j=k
 low:∀ j,j < i→w0.heap.size≤h j
 ext:Ext w0 wr
set_option exponentiation.threshold 5000
theorem mulT_all {N:Nat} {fa fb:Nat→Int} {i:Nat} (hi:i < N):mulT N N fa fb i=sm (i+1) fun t=>fa t*fb (i - t):=by
 unfold mulT mulP
 rw [show min (i+1) N=i+1 by omega]
 exact zAC fun t _=>if_pos om
theorem pow_sq {N:Nat}:∀ (j m:Nat),m < N→powT N N (sqW 1) j m=sqW j m
 | 0,m,_=>rfl
 | j+1,m,hm=>by
  show mulT N N (powT N N (sqW 1) j) (sqW 1) m=_
  rw [mulT_all hm,sqW_conv]
  exact zAC fun t ht=>by rw [pow_sq j t om]
theorem sq_mild {k N:Nat} (hk:k≤8) (hN:N≤4096):Mild N (sqW k):=fun i hi=>by
 have:=yAF (k:=k) (m:=i) hk om
 exact le_2000 om
theorem pow_mild {k N:Nat} (hk:k≤8) (hN:N≤4096) (j:Nat) (hj:j < k):Mild N (powT N N (sqW 1) j):=fun i hi=>by
 rw [pow_sq j i hi];exact sq_mild om hN i hi
theorem idM_chk {k:Nat} (h1:1≤k) (h8:k≤8):chk (rowsOf k idM)=0:=by
 rcases (show k=1∨k=2∨k=3∨k=4∨k=5∨k=6∨k=7∨k=8 by omega) with rfl|rfl|rfl|rfl|rfl|rfl|rfl|rfl <;> kernel_rfl
theorem idM_fit (k:Nat) (h8:k≤8):Fit64 (rowsOf k idM):=by
 refine ⟨by rw [rowsOf_len];omega,fun l hl=>⟨by rw [rowsOf_sq l hl];omega,fun z hz=>?_⟩⟩
 unfold rowsOf at hl
 obtain ⟨i,hi,rfl⟩:=List.mem_map.1 hl
 obtain ⟨j,hj,rfl⟩:=List.mem_map.1 hz
 unfold idM;split <;> decide
theorem id_series {k N:Nat} (h1:1≤k) (h8:k≤8) (hN:N≤4096) {L:List (List Int × Int)} (hL:Shorts k (entry (rowsOf k idM)) ((N:Int) - 1) L) {i:Nat} (hi:i < N):thC L i=sqW k i:=by
 have hs:Start k (entry (rowsOf k idM)):=by have:=zC2 (idM_chk h1 h8);rwa [rowsOf_len] at this
 rw [thC_cN hs hL (hs.wide om om) (m:=i) om,cN_congr (g:=idM) fun i j hi hj=>rowsOf_entry hi hj]
 exact cN_id k i om
theorem SqInvI.push {w wr W w5:World} {n i:Nat} {v v':Value} {h:Nat→Nat} {m:Nat→Nat→Int} {hr:Nat} (HI:SqInvI w wr n i v h m) (hx:Ext wr W) (hnew:NRow W hr n (m i)) (hlo:wr.heap.size≤hr)
  (hown':w5.ownsRow w.heap.size 31 1 v' (i+1) (((List.range i).map fun j=>Value.slice (some ⟨h j,0,none⟩) n n) ++ [Value.slice (some ⟨hr,0,none⟩) n n])) (hgrow:(W.alloc (.cells #[.slice (some ⟨hr,0,none⟩) n n] 31)).grownBy w5 v.ownBlock)
  (hOwn:W.ownsRow w.heap.size 31 1 v i ((List.range i).map fun j=>Value.slice (some ⟨h j,0,none⟩) n n)):SqInvI w w5 n (i+1) v' (fun j=>if j=i then hr else h j) m:=by
 have hOwnA:=hOwn.alloc (.cells #[.slice (some ⟨hr,0,none⟩) n n] 31)
 have hk104:∀ b,TB (W.alloc (.cells #[.slice (some ⟨hr,0,none⟩) n n] 31)) 2 b→w5.heap[b]? = (W.alloc (.cells #[.slice (some ⟨hr,0,none⟩) n n] 31)).heap[b]?:=fun b hb=>zAR hOwnA hgrow hb (by decide)
 have hXA:Ext W (W.alloc (.cells #[.slice (some ⟨hr,0,none⟩) n n] 31)):=(Ext.refl W).alloc _
 have hw:=HI.ext.size
 refine ⟨?_,fun j hj=>?_,fun j k hj hk e=>?_,fun j hj=>?_,?_⟩
 ·rw [← zBF i (fun j=>Value.slice (some ⟨h j,0,none⟩) n n) _ (.slice (some ⟨hr,0,none⟩) n n) (fun j hj=>by simp only [if_neg (show ¬ j=i by omega)]) (by simp)]
  exact hown'
 ·by_cases e:j=i
  ·subst e
   simp only [if_true]
   exact (hnew.ext hXA).keep (hk104 _ (hnew.ext hXA).typ)
  ·simp only [if_neg e]
   have h2:=((HI.row j om).ext hx).ext hXA
   exact h2.keep (hk104 _ h2.typ)
 ·by_cases e1:j=i <;> by_cases e2:k=i
  ·omega
  ·rw [if_pos e1,if_neg e2] at e
   have h1:=(HI.row k om).typ.lt
   omega
  ·rw [if_neg e1,if_pos e2] at e
   have h1:=(HI.row j om).typ.lt
   omega
  ·rw [if_neg e1,if_neg e2] at e
   exact HI.inj j k om om e
 ·by_cases e1:j=i
  ·simp only [if_pos e1];omega
  ·simp only [if_neg e1];exact HI.low j om
 ·exact ((HI.ext.trans hx).alloc _).grown hgrow (fun k hk=>(hOwnA.lt k hk).1)
end Go.Proofs.YtdkgilioejdmeaaGreat
namespace Go.Proofs.YtdkgilioejdmeaaGreat
open Go.RowKit
set_option maxHeartbeats 8000000 in
set_option maxRecDepth 100000 in
theorem yAI (k N:Int) (w:World) (hk0:-9223372036854775808≤k) (hk1:k≤9223372036854775807) (hN0:-9223372036854775808≤N) (hN1:N≤9223372036854775807) :
  Calls Tryz.prog 7 #[.int .i64 k,.int .i64 N] w fun e w'=>e = .returned (.bool true)∧Ext w w':=by
 have HW:=zH works25_any
 have HSn:=zH thSq_no
 have HSy:=zH thSq_any
 obtain ⟨R,hR⟩:∃ R:Ending→World→Prop,(fun e w'=>e = .returned (.bool true)∧Ext w w')=R:=⟨_,rfl⟩
 have HR:Hid (∀ w',Ext w w'→R (.returned (.bool true)) w'):=fun w' h=>by rw [← hR];exact ⟨rfl,h⟩
 rw [hR]
 clear hR
 go_enter Tryz.func7,Tryz.ntmps7
 go_wp2_with (fail)
 refine (HW.out _).mono ?_
 rintro e w1 ⟨rfl,hx⟩
 have HX1:=zH hx
 clear hx
 by_cases hN:N > 60
 case pos =>
  go_wp2_with (fail)
  refine (HW.out _).mono ?_
  rintro e w2 ⟨rfl,hx⟩
  have HF:=zH (HR.out _ (HX1.out.trans hx))
  clear hx
  go_wp2
  first
  | exact HF.out
  | exact bodyPost_ret (v:=.bool true) (by simp [results,Tryz.results7,go_sem]) rfl HF.out
 clear HW
 by_cases hok:0≤k∧k≤8∧0≤N∧N≤4096
 case neg =>
  have HNo:=zH (fun V=>HSn.out k N V hok)
  have hguard:k < 0∨(¬ k < 0∧k > 8)∨(¬ k < 0∧¬ k > 8∧N < 0):=by omega
  clear hok HSn HSy
  go_wp2_with (fail)
  refine (HNo.out _).mono ?_
  rintro e w2 ⟨rfl,hx⟩
  have HF:=zH (HR.out _ (HX1.out.trans hx))
  clear hx HNo
  rcases hguard with h|⟨h,h2⟩|⟨h,h2,h3⟩
  ·go_wp2
   first
   | exact HF.out
   | exact bodyPost_ret (v:=.bool true) (by simp [results,Tryz.results7,go_sem]) rfl HF.out
  ·go_wp2
   first
   | exact HF.out
   | exact bodyPost_ret (v:=.bool true) (by simp [results,Tryz.results7,go_sem]) rfl HF.out
  ·go_wp2
   first
   | exact HF.out
   | exact bodyPost_ret (v:=.bool true) (by simp [results,Tryz.results7,go_sem]) rfl HF.out
 obtain ⟨K,rfl⟩:∃ K:Nat,k=K:=⟨k.toNat,by omega⟩
 obtain ⟨M,rfl⟩:∃ M:Nat,N=M:=⟨N.toNat,by omega⟩
 have hK8:K≤8:=by omega
 have hM60:M≤60:=by omega
 have hg1:¬ (K:Int) < 0:=by omega
 have hg2:¬ (K:Int) > 8:=by omega
 have hg3:¬ (M:Int) < 0:=by omega
 have HSk:=zH (fun V=>HSy.out K M V hK8 om)
 have HS1:=zH (fun V=>HSy.out 1 M V om om)
 clear hok HSn HSy hk0 hk1 hN0 hN1
 go_wp2_with (fail)
 refine (HSk.out _).mono ?_
 rintro e w2 ⟨hs,rfl,hm,_,hx⟩
 have HS:=zH hm
 have HX2:=zH (HX1.out.trans hx)
 clear hm hx HSk HX1
 go_wp2_with (fail)
 refine (HS1.out _).mono ?_
 rintro e w3 ⟨h1,rfl,hm,_,hx⟩
 replace HS:=zH (HS.out.ext hx)
 have HX3:=zH (HX2.out.trans hx)
 have HPw:=zH (thPow_any (some ⟨h1,0,none⟩) M M K M (sqW 1) w3 om om om hm.serA (sq_mild om om) (pow_mild hK8 om))
 clear hm hx HS1 HX2
 go_wp2_with (fail)
 refine HPw.out.mono ?_
 rintro e w4 ⟨hp,rfl,hm,_,hx⟩
 replace HS:=zH (HS.out.ext hx)
 have HX4:=zH (HX3.out.trans hx)
 have HEq:=zH (equal_yes (some ⟨hs,0,none⟩) (some ⟨hp,0,none⟩) M M M (sqW K) (powT M M (sqW 1) K) w4 om HS.out.serA hm.serA (fun i hi=>(pow_sq K i hi).symm))
 clear hm hx HPw HX3
 go_wp2_with (fail)
 refine HEq.out.mono ?_
 rintro e w5 ⟨rfl,hx⟩
 replace HS:=zH (HS.out.ext hx)
 have HX5:=zH (HX4.out.trans hx)
 clear hx HEq HX4
 obtain ⟨i0,hi,hz0,hz1,hz2⟩:=info_parts Tryz.infoIs
 have HI0:=zH (show Tryz.prog.info? 31=some i0∧i0.zero=some (.slice none 0 0)∧i0.size=1∧i0.bytes=24 from ⟨hi,hz0,hz1,hz2⟩)
 clear hi hz0 hz1 hz2 hg1 hg2 hg3 hN
 go_wp2
 go_loopg [11,75] K (fun kk v iv wr=>∃ (i:Nat) (h:Nat→Nat),kk+i=K∧iv = .int .i64 i∧Hid (SqInvI w5 wr K i v h idM))
 case atStart=>exact ⟨0,fun _=>0,by omega,rfl,⟨World.ownsRow_nil _ _ _ _,fun j hj=>by omega,fun j k hj=>by omega,fun j hj=>by omega,Ext.refl _⟩⟩
 obtain ⟨i,h,hki,rfl,HI⟩:=hrel
 by_cases hin:i < K
 ·obtain ⟨cs,hmk,hrow⟩:=yAA (K:Int) K rfl om wr
  obtain ⟨W1,hW1⟩:∃ W1,wr.alloc (.cells cs 2)=W1:=⟨_,rfl⟩
  obtain ⟨hr,hhr⟩:∃ hr,wr.heap.size=hr:=⟨_,rfl⟩
  have hx1:Ext wr W1:=by rw [← hW1];exact (Ext.refl wr).alloc _
  have hlo:wr.heap.size≤hr:=by omega
  rw [hW1,hhr] at hmk hrow
  have d0:=hrow.cell i hin
  have f0:=hrow.free i
  have lr:=hrow.typ.lt
  have HRow:=zH hrow
  have HKI:=zH hki
  have HX1:=zH hx1
  clear hrow hW1 hki hx1
  go_upto_region 16 with (fail)
  obtain ⟨W2,hW2⟩:∃ W2,W1.setCell ⟨hr,i,none⟩ (.int .i64 1)=W2:=⟨_,rfl⟩
  have HNew:Hid (NRow W2 hr K (idM i)):=by
   rw [← hW2]
   refine (HRow.out.set_ hin 1).congr fun j _=>?_
   unfold idM
   by_cases e:j=i
   ·rw [if_pos e,if_pos e.symm]
   ·rw [if_neg e,if_neg (Ne.symm e)]
  have HX2':Hid (Ext wr W2):=by rw [← hW2];exact HX1.out.setCell (p:=⟨hr,i,none⟩) hlo _
  rw [hW2]
  have lr2:=HNew.out.typ.lt
  obtain ⟨ii,hii,hz0,hz1,hz2⟩:∃ ii,Tryz.prog.info? 31=some ii∧ii.zero=some (.slice none 0 0)∧ii.size=1∧ii.bytes=24:=⟨i0,HI0.out⟩
  have HOwn:Hid (W2.ownsRow w5.heap.size 31 1 u11 i ((List.range i).map fun j=>Value.slice (some ⟨h j,0,none⟩) K K)):=zAh HI.out.own HX2'.out
  have hws:w5.heap.size≤W2.heap.size:=(HI.out.ext.trans HX2'.out).size
  clear hW2 d0 f0 lr HRow HX1 hmk hhr
  go_wp2_with (at_builtin;refine wpList_append_own _ rfl _ _ 22 rfl w5.heap.size 31 ii (.slice none 0 0) 1 24 Tryz.underlying22 hii hz0 hz1 hz2 rfl (by decide) _ _ _ rfl (HOwn.out.alloc _) ⟨W2.heap.size,0,none⟩ 1 1 [.slice (some ⟨hr,0,none⟩) K K] rfl rfl ?c1 ?c2 ?c3 ?c4 ?c5 ?_)
  case c1=>exact cell_one_new _ _ _
  case c2=>intro u hu;rw [List.mem_singleton.1 hu];rfl
  case c3=>unfold maxLen;omega
  case c4=>omega
  case c5=>simp only [World.size_alloc];omega
  intro v' w6 hown' hgrow _
  have HS6:Hid (SqInvI w5 w6 K (i+1) v' (fun j=>if j=i then hr else h j) idM):=HI.out.push HX2'.out HNew.out hlo hown' hgrow HOwn.out
  clear hown' hgrow HI HOwn HNew HX2'
  go_wp2
  go_roundg (K - (i+1))
  case measure=>have:=HKI.out;omega
  case rel=>exact ⟨i+1,_,by have:=HKI.out;omega,by go_num,HS6⟩
 ·obtain rfl:K=i:=by omega
  have HXr:=zH (HX5.out.trans HI.out.ext)
  have HSr:=zH (HS.out.ext HI.out.ext)
  have hAll:Hid (∃ (A:Option Addr) (n c:Nat),u11 = .slice A n c∧n=K∧(rowsOf K idM).length=n∧IsRows wr A (rowsOf K idM)):=by
   rcases HI.out.own.2 with ⟨h1,h0⟩|⟨g,cap,cur,h1,hg,hh,hnc,hcm,hcs,hct⟩
   ·subst h0
    exact ⟨none,0,0,h1,rfl,rfl,fun h=>absurd h (by simp [rowsOf])⟩
   ·refine ⟨_,K,cap,h1,rfl,rowsOf_len _ _,?_⟩
    have hM:MatI wr w5.heap.size g K h idM:=by
     refine ⟨fun i hi=>?_,HI.out.row,HI.out.inj,HI.out.low,hg,⟨_,_,hh⟩⟩
     have h2:=HI.out.own.cells (g:=g) (by rw [h1];rfl) i (.slice (some ⟨h i,0,none⟩) K K) (by simp [hi])
     rw [← h2]
     unfold Addr.add
     split
     ·subst_vars;rfl
     ·simp
    exact hM.is
  obtain ⟨A,n,c,rfl,rfl,hl,hrows⟩:=hAll.out
  have HOf:=zH (thOf_any A n c (rowsOf n idM) M wr hl.symm hrows (idM_fit n hK8) om om)
  clear hAll HI hl hrows HS
  go_wp2_with (fail)
  refine HOf.out.mono ?_
  rintro e w7 ⟨hx,Ao,ko,co,zo,rfl,h7⟩
  have HX7:=zH (HXr.out.trans hx)
  have HS7:=zH (HSr.out.ext hx)
  have HF7:=zH (HR.out _ HX7.out)
  clear hx HOf HXr HSr
  by_cases hn0:n=0
  case pos =>
   subst hn0
   have hz5:zo=5:=by
    have hc5:chk (rowsOf 0 idM)=5:=by kernel_rfl
    rcases h7 with ⟨_,h,_⟩|⟨h,_⟩|⟨h,_⟩|⟨h,_⟩
    ·rw [h,hc5]
    ·rw [hc5] at h;cases h
    ·rw [hc5] at h;cases h
    ·rw [hc5] at h;cases h
   subst hz5
   clear h7
   go_wp2
   first
   | exact HF7.out
   | exact bodyPost_ret (v:=.bool true) (by simp [results,Tryz.results7,go_sem]) rfl HF7.out
  have hck:=idM_chk (k:=n) om hK8
  have hn0':¬ (n:Int)=0:=by omega
  have hcase:Hid (zo=9∨(zo=0∧ko=M∧∃ f,SerA w7 Ao M f∧∀ i,i < M→f i=sqW n i)):=by
   rcases h7 with ⟨h,_⟩|⟨_,h,_⟩|⟨_,h,h2,h3⟩|⟨_,_,_,L,hL,⟨_,h2,h3,_,g,h4,_,h5⟩|⟨_,h2,_⟩⟩
   ·exact absurd hck h
   ·exact absurd ⟨by omega,by omega⟩ h
   ·exact Or.inr ⟨h2,by omega,fun _=>0,fun hh=>by omega,fun i hi=>by omega⟩
   ·obtain rfl:ko=M:=by omega
    exact Or.inr ⟨h2,rfl,thC L,by rw [h4];exact h5.serA,fun i hi=>id_series om hK8 om hL hi⟩
   ·exact Or.inl h2
  clear h7 hck
  rcases hcase.out with rfl|⟨rfl,rfl,f,hser,hf⟩
  ·clear hcase
   go_wp2
   first
   | exact HF7.out
   | exact bodyPost_ret (v:=.bool true) (by simp [results,Tryz.results7,go_sem]) rfl HF7.out
  ·have HE7:=zH (equal_yes Ao (some ⟨hs,0,none⟩) ko co ko f (sqW n) w7 om hser HS7.out.serA hf)
   clear hcase hser hf HF7
   go_wp2_with (fail)
   refine HE7.out.mono ?_
   rintro e w8 ⟨rfl,hx⟩
   have HF:=zH (HR.out _ (HX7.out.trans hx))
   clear hx
   go_wp2
   first
   | exact HF.out
   | exact bodyPost_ret (v:=.bool true) (by simp [results,Tryz.results7,go_sem]) rfl HF.out
end Go.Proofs.YtdkgilioejdmeaaGreat
namespace Go.Proofs.YtdkgilioejdmeaaGreat
open Go.ChangeShapes Go.WideShapes Go.ChangeAt Go.RowKit
theorem Tryz.own:ownKnob Tryz.prog.godebug=none:=by kernel_rfl
theorem post_of_ext {H:Type} {enc:TypeId × Value→H} {P:Program} {f:Func} {s:ChangeSpec} {apart fresh handsOn again:Bool} {W W':World} {args:Array Value} {v:Value} {ds gs:List (DataW H)} {before pa pv:List MemPlace}
  (hW:DataW.Whole enc P f.params.toList s.vars apart W args.toList ds gs before)
  (hres:∀ (b:Nat) (sp:Nat→Bool) (hd:Bool),DataW.TrodAll enc P W' b sp hd f.resultTypes.toList (v.resultList f.resultTypes.size) (s.fn H (ds ++ gs)).results [])
  (hargs:∀ sp:Nat→Bool,(∀ p∈before,sp p.block=true)→DataW.TrodAll enc P W' 0 sp true f.params.toList args.toList (s.fn H (ds ++ gs)).args pa)
  (hvars:∀ sp:Nat→Bool,(∀ p∈before,sp p.block=true)→DataW.TrodVars enc P W' sp s.vars (s.fn H (ds ++ gs)).vars pv)
  (hps:before=pa ++ pv) (hb:Below W.heap.size W W')
  (hok:∀ (j:Nat) (t:TypeId) (r:Value),f.resultTypes[j]? = some t→(v.resultList f.resultTypes.size)[j]? = some r→Value.okWide P W' .any 0 t r) :
  s.post enc P f apart fresh handsOn again W args v W':=by
 have hlt:∀ p∈before,p.block < W.heap.size:=fun p hp=>hW.lt p hp
 have hold:∀ p∈before,(fun b=>decide (b < W.heap.size)) p.block=true:=fun p hp=>by simpa using hlt p hp
 refine ⟨ds,gs,before,[],pa,pv,hW,hres _ _ _,hargs _ hold,hvars _ hold,World.keptBut_mono (fun p hp=>⟨hp,?_⟩) (hb.frame (· ∈ before)),fun _=>?_⟩
 ·rw [hps,List.mem_append] at hp
  exact Or.inr hp
 ·obtain ⟨_,_,_,_,_,hz,hn⟩:=hW
  refine ⟨hok,_,_,([] ++ pa) ++ pv,⟨[] ++ pa,pv,trodAll_append (hargs _ (fun _ _=>rfl)) (hres _ _ _),hvars _ (fun _ _=>rfl),rfl,?_,?_⟩,?_⟩
  ·intro b off hp
   have hin:MemPlace.cell b off∈before:=by rw [hps];simpa using hp
   rw [hb.frozen (hlt _ hin)]
   exact hz b off hin
  ·intro ha
   have:=hn ha
   rw [hps] at this
   simpa using this
  ·intro p hp _
   rw [hps]
   simpa using hp
noncomputable def laidWorld (os:Os):World:=World.holding Tryz.prog os ⟨#[],#[],[]⟩
end Go.Proofs.YtdkgilioejdmeaaGreat
