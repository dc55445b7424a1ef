/- YtdkgilioejdmeaaGreatWH1: what is proved here stands in the theorems' own rows. -/
import Derived.Test.YtdkgilioejdmeaaGreatProg
import Derived.WalkKit
import Derived.Deep.Draws
import Derived.Deep.QuietTactic
import Derived.BigQuiet
import Derived.KernelRfl
import Derived.Lib.Hide
import Derived.Shelf.Small.Bits
import Derived.Shelf.Strconv.Itoa0
import Derived.Lib.ItoaNum
import Derived.Laws.BitsLemmas
import Derived.Deep.LoopGhost
import Derived.Laws.CopyOwn
import Derived.Laws.MakeOwn
import Derived.Maps.AppendAt
import Derived.Deep.AppendLies
import Derived.Laws.Rows
import Derived.Deep.RegionHeld3
import Derived.Deep.DeepCutAuto
import Derived.Deep.CutBlock
import Derived.Outline
import Derived.RegionTactic
import Derived.Deep.RegionWith
import Derived.Laws.OwnMore
import Derived.Deep.RegionHeld
import Derived.StillTail
import Derived.StillTailTactics
import Derived.IntWalk
import Derived.RangeFuncCalls
import Derived.RangeFuncBound
import Derived.RangeFuncKeeps
import Derived.TacticsIn
import Derived.RegionIn
import Derived.Laws.EntriesVeiled
import Derived.Sort.Grow
import Derived.Shelf.SlGeneric
import Derived.Shelf.SlSortCmp.WholeK
import Derived.Shelf.SlSortCmp.NoneTotal
import Derived.Ground.SlsfProg
import Derived.OwnWalkIn
import Derived.Maps.OwnSet
import Derived.WideKeyPair
import Derived.Test.YtdkgilioejdmeaaGreatRows
import Derived.ProofKit
import Derived.OpenShut
import Derived.Deep.Matrix
import Derived.SizedLaws
import Derived.Deep.DeepHandedRow
import Derived.Deep.DeepWitnessRowRef
import Derived.LaidHandle
import Derived.LaidLaws
import Derived.Below
import Derived.ChangeSame
import Derived.ChangeMaps5
import Derived.Test.YtdkgilioejdmeaaGreatBA1
import Derived.Test.YtdkgilioejdmeaaGreatBA2
import Derived.Test.YtdkgilioejdmeaaGreatBA3
import Derived.Test.YtdkgilioejdmeaaGreatBA4
import Derived.Test.YtdkgilioejdmeaaGreatBA5
import Derived.Test.YtdkgilioejdmeaaGreatBA6
import Derived.Test.YtdkgilioejdmeaaGreatBA7
import Derived.Test.YtdkgilioejdmeaaGreatBA8
import Derived.Test.YtdkgilioejdmeaaGreatBA9
import Derived.Test.YtdkgilioejdmeaaGreatBA10
import Derived.Test.YtdkgilioejdmeaaGreatBA11
import Derived.Test.YtdkgilioejdmeaaGreatBA12
import Derived.Test.YtdkgilioejdmeaaGreatBA13
set_option linter.unusedVariables false
set_option linter.unusedSimpArgs false
namespace Go.Proofs.YtdkgilioejdmeaaGreat
open Go.RowKit
theorem eq_of_sorted {α : Type} {lt : α → α → Prop} (irr:∀ a,¬ lt a a) (tr:∀ a b c,lt a b→lt b c→lt a c):∀ (L M:List α),L.Pairwise lt→M.Pairwise lt→(∀ x,x∈L↔x∈M)→L=M:=by
 intro L
 induction L with
 | nil =>
  intro M _ _ h
  cases M with
  | nil=>rfl
  | cons b M=>exact absurd ((h b).2 (List.mem_cons_self ..)) (by simp)
 | cons a L ih =>
  intro M hL hM h
  cases M with
  | nil=>exact absurd ((h a).1 (List.mem_cons_self ..)) (by simp)
  | cons b M =>
   have hL1:=List.pairwise_cons.1 hL
   have hM1:=List.pairwise_cons.1 hM
   have hab:a=b:=by
    rcases List.mem_cons.1 ((h a).1 (List.mem_cons_self ..)) with e|e
    ·exact e
    ·rcases List.mem_cons.1 ((h b).2 (List.mem_cons_self ..)) with e2|e2
     ·exact e2.symm
     ·exact absurd (tr _ _ _ (hM1.1 a e) (hL1.1 b e2)) (irr b)
   subst hab
   rw [ih M hL1.2 hM1.2 fun x=>?_]
   constructor
   ·intro hx
    rcases List.mem_cons.1 ((h x).1 (List.mem_cons_of_mem _ hx)) with e|e
    ·subst e;exact absurd (hL1.1 x hx) (irr x)
    ·exact e
   ·intro hx
    rcases List.mem_cons.1 ((h x).2 (List.mem_cons_of_mem _ hx)) with e|e
    ·subst e;exact absurd (hM1.1 x hx) (irr x)
    ·exact e
theorem Shorts.unique {n:Nat} {f:Nat→Nat→Int} {nb:Int} {L M:List (List Int × Int)} (h:Shorts n f nb L) (k:Shorts n f nb M):L=M :=
 eq_of_sorted (lt:=fun a b:List Int × Int=>lexL a.1 b.1) (fun a=>lexL_irr a.1) (fun _ _ _=>zCa) L M h.sorted k.sorted fun x=>by
  obtain ⟨y,z⟩:=x
  rw [h.mem,k.mem]
theorem SList.slice {w:World} {base n:Nat} {A:Option Addr} {k c:Nat} {bs:List SV} (h:SList w base n (.slice A k c) bs) (hk:k=bs.length) (h0:0 < k):∃ g,A=some ⟨g,0,none⟩∧k≤c∧∀ i p,bs[i]? = some p→w.cell? ⟨g,i*2,none⟩=some (.slice (some ⟨p.1,0,none⟩) n n)∧w.cell? ⟨g,i*2+1,none⟩=some (.int .i64 p.2.2):=by
 rcases h.val with ⟨h1,h2⟩|⟨g,cap,h1,h2,_,_,h5,_⟩
 ·subst h1;cases h2;simp at hk;omega
 ·cases h1;exact ⟨g,rfl,h2,h5⟩
set_option maxHeartbeats 8000000 in
set_option maxRecDepth 100000 in
theorem dotStep_any (X Y:Option Addr) (cx cy n bx bi bs i j:Nat) (xs ys:List Int) (px py c s:Int) (wB W:World) (hx0:Ext wB W) (cX:wB.cell? ⟨bx,0,none⟩=some (.slice X n cx)) (cY:wB.cell? ⟨bi,0,none⟩=some (.slice Y n cy))
  (rX:IsRow wB X xs) (rY:IsRow wB Y ys) (hxi:xs[i]? = some px) (hyj:ys[j]? = some py) (x0:-9223372036854775808≤px) (x1:px≤9223372036854775807) (y0:-9223372036854775808≤py) (y1:py≤9223372036854775807) (z0:-9223372036854775808≤c) (z1:c≤9223372036854775807)
  (hS:IntB W bs s) (hlo:wB.heap.size≤bs) (hi:i < n) (hj:j < n) (hn:n≤100) :
  Calls Tryz.prog 162 #[.int .i64 i,.int .i64 j,.int .i64 c,.pointer (some ⟨bx,0,none⟩),.pointer (some ⟨bi,0,none⟩),.pointer (some ⟨bs,0,none⟩)] W fun e w'=>e = .returned (.bool true)∧Ext wB w'∧IntB w' bs (fitZ (s+fitZ (fitZ (px*py)*c))):=by
 obtain ⟨hX,oX,rfl,lX,cxi⟩:=rX.at_ hxi
 obtain ⟨hY,oY,rfl,lY,cyj⟩:=rY.at_ hyj
 have c1:=hx0.cell cX
 have c2:=hx0.cell cY
 have c3:=hx0.cell cxi
 have c4:=hx0.cell cyj
 have HX0:=zH hx0
 have HS:=zH hS
 have HO1:=zH (fun V=>zOf_any px V x0 x1)
 have HO2:=zH (fun V=>zOf_any py V y0 y1)
 have HO3:=zH (fun V=>zOf_any c V z0 z1)
 have hlb:wB.heap.size≤W.heap.size:=hx0.size
 have lbs:bs < W.heap.size:=by obtain ⟨_,_,_,q,_⟩:=hS.box;exact q.lt
 have hmf:∀ (fn:Fn) (first cap:Array Value) (w:World),(Instr.makeFunc fn first cap).run Tryz.prog w = .ok (.func fn first cap) w:=fun _ _ _ _=>rfl
 have l1:=zAA c1
 have l2:=zAA c2
 have l3:=zAA c3
 have l4:=zAA c4
 simp only at l1 l2 l3 l4
 have HX:=zH (Ext.refl W)
 clear hx0 cX cY cxi cyj lX lY rX rY hxi hyj hS x0 x1 y0 y1 z0 z1
 go_enter Tryz.func162,Tryz.ntmps162
 go_upto_region 1 with (fail)
 go_cut [10] (fun s10 wx=>∃ b10,s10 = .pointer (some ⟨b10,0,none⟩)∧W.heap.size≤b10∧Hid (IntB wx b10 (fitZ (px*py)))∧Hid (Ext W wx))
 case first =>
  have HKeepT:=zH (fun (w':World) (hx:Ext W w')=>(show w'.cell? ⟨bx,0,none⟩=some (.slice (some ⟨hX,oX,none⟩) n cx)∧w'.cell? ⟨bi,0,none⟩=some (.slice (some ⟨hY,oY,none⟩) n cy)∧w'.cell? ⟨hX,oX+i,none⟩=some (.int .i64 px)∧w'.cell? ⟨hY,oY+j,none⟩=some (.int .i64 py) from ⟨hx.cell c1,hx.cell c2,hx.cell c3,hx.cell c4⟩))
  have hxA:Ext W W:=Ext.refl _
  refine rU HKeepT [15,16] [13] 17 (fun hH hC=>?_)
  revert hC
  refine tk 0 17 hH ?_
  refine tk 1 17 hH ?_
  refine tk 2 17 hH ?_
  refine tk 3 17 hH ?_
  refine tk 5 17 hH ?_
  refine tk 6 17 hH ?_
  refine tk 7 17 hH ?_
  refine tk 8 17 hH ?_
  intro hC
  refine zAj (al:=14) (d:=10) (c:=4) (T:=49) (zs:=#[.bool false,.slice none 0 0]) (fuel:=7) (L:=fun l10=>#[true,true,true,true,false,true,true,true,true,false,false,false,false,false,l10,false,false]) W W.heap.size hxA.size Sg Sg (by intro l10;cases l10 <;> kernel_rfl) (by intro l10;cases l10 <;> kernel_rfl) (by rfl) (by intro l10;cases l10 <;> kernel_rfl) ?_ (fun w' hx=>HKeepT.out _ (hxA.trans hx)) ?_ false W.drew (Ext.refl _).drew AlOK.no
  ·intro v1 w' K' hK'
   try simp only [Act.put,sA,sB,sC]
   try simp only [Act.put,sA,sB,sC] at hK'
   go_simp
   exact hK'
  intro l10 v10 y hxy hal10 hct K hK
  (try clear hH)
  (try clear hC)
  try simp only [Act.put,sA,sB,sC]
  replace hxA:=hxA.trans hxy
  go_simp
  (go_at_call 24;refine (HO1.out _).mono ?_;rintro e w1 ⟨n1,A1,e1,rfl,hn1,hx⟩;have hxN:Ext W w1:=Ext.trans (by repeat (first|with_reducible exact Ext.refl _|with_reducible exact hxA|refine Ext.drew ?_|refine Ext.drewN ?_ _|refine Ext.alloc ?_ _)) hx;clear hxA;have hxA:=hxN;clear hxN;have HN1:=zH hn1;clear hn1;replace hal10:=AlOK.ext hal10 (Ext.trans (by repeat (first|with_reducible exact Ext.refl _|refine Ext.drew ?_)) hx);clear hx)
  try go_wp2_with fail
  have hHeldN:=HKeepT.out w1 hxA
  refine hK.out _ _ (fun _ _=>hHeldN) (fun hCn=>?_)
  clear hK K
  (try clear hct)
  (try clear hH)
  (try clear hC)
  have hH:=hHeldN
  have hC:=hCn
  clear hHeldN hCn
  try simp only [Act.put,sA,sB,sC]
  refine zAj (al:=14) (d:=10) (c:=9) (T:=49) (zs:=#[.bool false,.slice none 0 0]) (fuel:=6) (L:=fun l10=>#[true,true,true,true,true,true,true,true,true,false,false,false,false,false,l10,false,false]) w1 W.heap.size hxA.size Sg Sg (by intro l10;cases l10 <;> kernel_rfl) (by intro l10;cases l10 <;> kernel_rfl) (by rfl) (by intro l10;cases l10 <;> kernel_rfl) ?_ (fun w' hx=>HKeepT.out _ (hxA.trans hx)) ?_ l10 w1 (Ext.refl _) hal10
  ·intro v1 w' K' hK'
   try simp only [Act.put,sA,sB,sC]
   try simp only [Act.put,sA,sB,sC] at hK'
   go_simp
   exact hK'
  intro l10 v10 y hxy hal10 hct K hK
  (try clear hH)
  (try clear hC)
  try simp only [Act.put,sA,sB,sC]
  replace hxA:=hxA.trans hxy
  (try replace HN1:=zH (HN1.out.ext hxy))
  go_simp
  (go_at_call 24;refine (HO2.out _).mono ?_;rintro e w2 ⟨n2,A2,e2,rfl,hn2,hx⟩;have hxN:Ext W w2:=Ext.trans (by repeat (first|with_reducible exact Ext.refl _|with_reducible exact hxA|refine Ext.drew ?_|refine Ext.drewN ?_ _|refine Ext.alloc ?_ _)) hx;clear hxA;have hxA:=hxN;clear hxN;have HN2:=zH hn2;clear hn2;(first|(have hh:=zH (HN1.out.ext (Ext.trans Ext.ub hx));clear HN1;have HN1:=hh;clear hh)|skip);replace hal10:=AlOK.ext hal10 (Ext.trans (by repeat (first|with_reducible exact Ext.refl _|refine Ext.drew ?_)) hx);clear hx)
  try go_wp2_with fail
  have hHeldN:=HKeepT.out w2 hxA
  refine hK.out _ _ (fun _ _=>hHeldN) (fun hCn=>?_)
  clear hK K
  (try clear hct)
  (try clear hH)
  (try clear hC)
  have hH:=hHeldN
  have hC:=hCn
  clear hHeldN hCn
  try simp only [Act.put,sA,sB,sC]
  refine zAj (al:=14) (d:=10) (c:=10) (T:=49) (zs:=#[.bool false,.slice none 0 0]) (fuel:=5) (L:=fun l10=>#[true,true,true,true,true,true,true,true,true,true,false,false,false,false,l10,false,false]) w2 W.heap.size hxA.size Sg Sg (by intro l10;cases l10 <;> kernel_rfl) (by intro l10;cases l10 <;> kernel_rfl) (by rfl) (by intro l10;cases l10 <;> kernel_rfl) ?_ (fun w' hx=>HKeepT.out _ (hxA.trans hx)) ?_ l10 w2 (Ext.refl _) hal10
  ·intro v1 w' K' hK'
   try simp only [Act.put,sA,sB,sC]
   try simp only [Act.put,sA,sB,sC] at hK'
   go_simp
   exact hK'
  intro l10 v10 y hxy hal10 hct K hK
  (try clear hH)
  (try clear hC)
  try simp only [Act.put,sA,sB,sC]
  replace hxA:=hxA.trans hxy
  (try replace HN1:=zH (HN1.out.ext hxy))
  (try replace HN2:=zH (HN2.out.ext hxy))
  go_simp
  (go_at_call 66;refine (zCW n1 n2 A1 A2 e1 e2 _ _ _ (HN1.out.ext Ext.ub) (HN2.out.ext Ext.ub)).mono ?_;rintro e w3 ⟨n3,A3,e3,rfl,hn3,hx⟩;have hxN:Ext W w3:=Ext.trans (by repeat (first|with_reducible exact Ext.refl _|with_reducible exact hxA|refine Ext.drew ?_|refine Ext.drewN ?_ _|refine Ext.alloc ?_ _)) hx;clear hxA;have hxA:=hxN;clear hxN;have HN3:=zH hn3;clear hn3;(first|(have hh:=zH (HN1.out.ext (Ext.trans Ext.ub hx));clear HN1;have HN1:=hh;clear hh)|skip);(first|(have hh:=zH (HN2.out.ext (Ext.trans Ext.ub hx));clear HN2;have HN2:=hh;clear hh)|skip);replace hal10:=AlOK.ext hal10 (Ext.trans (by repeat (first|with_reducible exact Ext.refl _|refine Ext.drew ?_)) hx);clear hx)
  try go_wp2_with fail
  have hHeldN:=HKeepT.out w3 hxA
  refine hK.out _ _ (fun _ _=>hHeldN) (fun hCn=>?_)
  clear hK K
  (try clear hct)
  (try clear hH)
  (try clear hC)
  have hH:=hHeldN
  have hC:=hCn
  clear hHeldN hCn
  try simp only [Act.put,sA,sB,sC]
  refine zAN hC hH (i:=11) (f:=17) (v:=?_) Sg kr (by cases l10 <;> kernel_rfl) (by cases l10 <;> kernel_rfl) kr Iq (by rfl) ?_ (fun hCn=>?_)
  rotate_left
  ·intro w' hSw;(try dsimp only at hSw);go_simp;(try with_reducible rfl)
  clear hC
  have hC:=hCn
  clear hCn
  try simp only [Act.put,sA,sB,sC]
  refine zAN hC hH (i:=12) (f:=17) (v:=?_) Sg kr (by cases l10 <;> kernel_rfl) (by cases l10 <;> kernel_rfl) kr Iq (by rfl) ?_ (fun hCn=>?_)
  rotate_left
  ·intro w' hSw;(try dsimp only at hSw);go_simp;(try with_reducible rfl)
  clear hC
  have hC:=hCn
  clear hCn
  try simp only [Act.put,sA,sB,sC]
  refine zAF hC (i:=13) (v:=?_) Sg kr (by cases l10 <;> kernel_rfl) (by cases l10 <;> kernel_rfl) kr Iq (by rfl) ?_ (fun hCn=>?_)
  rotate_left
  ·intro w';go_simp;(try with_reducible rfl)
  clear hC
  have hC:=hCn
  clear hCn
  try simp only [Act.put,sA,sB,sC]
  refine zAj (al:=14) (d:=10) (c:=15) (T:=49) (zs:=#[.bool false,.slice none 0 0]) (fuel:=1) (L:=fun l10=>#[true,true,true,true,true,true,true,true,true,true,true,true,true,true,l10,false,false]) w3 W.heap.size hxA.size Sg Sg (by intro l10;cases l10 <;> kernel_rfl) (by intro l10;cases l10 <;> kernel_rfl) (by rfl) (by intro l10;cases l10 <;> kernel_rfl) ?_ (fun w' hx=>HKeepT.out _ (hxA.trans hx)) ?_ l10 w3 (Ext.refl _) hal10
  ·intro v1 w' K' hK'
   try simp only [Act.put,sA,sB,sC]
   try simp only [Act.put,sA,sB,sC] at hK'
   go_simp
   exact hK'
  intro l10 v10 y hxy hal10 hct K hK
  (try clear hH)
  (try clear hC)
  try simp only [Act.put,sA,sB,sC]
  replace hxA:=hxA.trans hxy
  (try replace HN1:=zH (HN1.out.ext hxy))
  (try replace HN2:=zH (HN2.out.ext hxy))
  (try replace HN3:=zH (HN3.out.ext hxy))
  obtain rfl:l10=true:=by
   cases l10 with
   | false=>exact absurd (Eq.trans (Eq.symm hct) kr) (show ¬ (true=false) by decide)
   | true=>rfl
  obtain ⟨b10,rfl,hb10,k10⟩:=hal10 rfl
  clear hal10
  have zl10:=k10.lt
  obtain ⟨zc10a,zf10a,zc10b,zf10b⟩:=k10.two
  clear hct
  go_simp
  refine hK.out _ _ (fun h=>by cases h) (fun hCn=>?_)
  clear hK K
  have hC:=hCn
  clear hCn
  try simp only [Act.put,sA,sB,sC]
  refine zAB hC (i:=16) Sg kr (fun K hK=>?_)
  go_simp
  refine hK.out _ _ (fun h=>by cases h) (fun hCn=>?_)
  clear hK K hC
  have hC:=hCn
  clear hCn
  try simp only [Act.put,sA,sB,sC]
  refine zAD kr ?_ _
  clear hC HKeepT
  try clear hH
  go_wp2
  refine Met.intro ?_
  go_step
  (repeat apply Exists.intro)
  refine And.symm ⟨?_,?_⟩
  ·first|with_reducible rfl|rfl
  first
  | exact ⟨_,rfl,(by first|exact Nat.le_refl _|assumption|(simp only [World.size_setCell,World.size_alloc,World.size_drew];omega)|omega),zH (IntB.mk2 (by (with_reducible repeat (first|exact k10  | (refine Blk.at ?_;· (first|rfl|(simp only [World.size_setCell,World.size_alloc,World.size_drew];done)|(simp only [World.size_setCell,World.size_alloc,World.size_drew];omega)))|(refine Blk.put3 ?_;· (repeat (first|exact BlkN.of k10 rfl  | (refine BlkN.at ?_ ?_;· (first|rfl|(simp only [World.size_setCell,World.size_alloc,World.size_drew];done)|(simp only [World.size_setCell,World.size_alloc,World.size_drew];omega));· rfl)|(refine BlkN.far2 ?_ ?_;· (first|assumption|exact Ne.symm (by assumption)|omega))|refine BlkN.al ?_|refine BlkN.dr ?_)))|(refine Blk.put2 ?_;· (repeat (first|exact BlkN.of k10 rfl  | (refine BlkN.at ?_ ?_;· (first|rfl|(simp only [World.size_setCell,World.size_alloc,World.size_drew];done)|(simp only [World.size_setCell,World.size_alloc,World.size_drew];omega));· rfl)|(refine BlkN.far2 ?_ ?_;· (first|assumption|exact Ne.symm (by assumption)|omega))|refine BlkN.al ?_|refine BlkN.dr ?_)))|(refine Blk.put1 ?_;· (repeat (first|exact BlkN.of k10 rfl  | (refine BlkN.at ?_ ?_;· (first|rfl|(simp only [World.size_setCell,World.size_alloc,World.size_drew];done)|(simp only [World.size_setCell,World.size_alloc,World.size_drew];omega));· rfl)|(refine BlkN.far2 ?_ ?_;· (first|assumption|exact Ne.symm (by assumption)|omega))|refine BlkN.al ?_|refine BlkN.dr ?_)))|(refine Blk.far2 ?_ ?_;· (first|assumption|exact Ne.symm (by assumption)|omega))|refine Blk.al ?_|refine Blk.drew ?_))) (by (with_reducible repeat (first|exact HN3.out|refine IsInt.al ?_|refine IsInt.dr ?_|(refine IsInt.setN ?_ ?_;· (repeat (first|exact NB.of k10 (by decide)  | (refine NB.at ?_ ?_;· (first|rfl|(simp only [World.size_setCell,World.size_alloc,World.size_drew];done)|(simp only [World.size_setCell,World.size_alloc,World.size_drew];omega));· decide)|refine NB.set ?_|refine NB.al ?_|refine NB.dr ?_))))))),zH Ext.ua⟩
 obtain ⟨b10,rfl,hb10,HB10,HX1⟩:=hcut
 obtain ⟨W1,hWn⟩:∃ W1,wc=W1:=⟨_,rfl⟩
 rw [hWn] at HB10 HX1 ⊢
 clear hWn wc
 replace c1:=HX1.out.cell c1
 replace c2:=HX1.out.cell c2
 replace c3:=HX1.out.cell c3
 replace c4:=HX1.out.cell c4
 replace HS:=zH (HS.out.ext HX1.out)
 replace HX:=zH (HX.out.trans HX1.out)
 have hszW1:=HX1.out.size
 obtain ⟨n10,A10,k10,q10,hn10⟩:=HB10.out.box
 obtain ⟨c10a,f10a,c10b,f10b⟩:=q10.two
 have HQ10:=HB10
 have hl10:=q10.lt
 have HN10:=zH hn10
 clear hn10 q10 HB10
 clear HO1 HO2
 have hnb:bs≠b10:=by omega
 have HM2:=zH (fun V nn A k (h:IsInt V nn A k c) (hx:Ext W1 V)=>zCW n10 nn A10 A k10 k (fitZ (px*py)) c V (HN10.out.ext hx) h)
 go_upto_region 2 with (fail)
 have HKeepT:=zH (fun (w':World) (hx:Ext W1 w')=>(show w'.cell? ⟨b10,0,none⟩=some (.bool n10)∧w'.cell? ⟨b10,1,none⟩=some (.slice A10 k10 k10) from ⟨hx.cell c10a,hx.cell c10b⟩))
 refine rU HKeepT [7] [6] 8 (fun hH hC=>?_)
 revert hC
 refine tk 0 8 hH ?_
 refine tk 1 8 hH ?_
 intro hC
 refine zAB hC (i:=2) Sg kr (fun K hK=>?_)
 go_simp
 (go_at_call 24;refine (HO3.out _).mono ?_;rintro e w1 ⟨n1,A1,e1,rfl,hn1,hx⟩;have hxN:Ext W1 w1:=Ext.trans Ext.ua hx;(try clear hxA);have hxA:=hxN;clear hxN;have HN1:=zH hn1;clear hn1;clear hx)
 try go_wp2_with fail
 have hHeldN:=HKeepT.out w1 Ext.ua
 refine hK.out _ _ (fun _ _=>hHeldN) (fun hCn=>?_)
 clear hK K hH hC
 have hH:=hHeldN
 have hC:=hCn
 clear hHeldN hCn
 try simp only [Act.put,sA,sB,sC]
 refine zAB hC (i:=3) Sg kr (fun K hK=>?_)
 go_simp
 (go_at_call 66;with_reducible refine Calls.mono (HM2.out _ _ _ _ (HN1.out.ext Ext.ub) ?_) ?_;exact Ext.ua;rintro e w2 ⟨n2,A2,e2,rfl,hn2,hx⟩;have hxN:Ext W1 w2:=Ext.trans Ext.ua hx;(try clear hxA);have hxA:=hxN;clear hxN;have HN2:=zH hn2;clear hn2;(first|(have hh:=zH (HN1.out.ext (Ext.trans Ext.ub hx));clear HN1;have HN1:=hh;clear hh)|skip);have tc10a:=hxA.cell c10a;have uc10a:=hxA.free f10a (zAA c10a);have tc10b:=hxA.cell c10b;have uc10b:=hxA.free f10b (zAA c10b);clear hx)
 try go_wp2_with fail
 have hHeldN:=HKeepT.out w2 Ext.ua
 refine hK.out _ _ (fun _ _=>hHeldN) (fun hCn=>?_)
 clear hK K hH hC
 have hH:=hHeldN
 have hC:=hCn
 clear hHeldN hCn
 try simp only [Act.put,sA,sB,sC]
 revert hC
 refine tk 4 8 hH ?_
 refine tk 5 8 hH ?_
 intro hC
 refine zAF hC (i:=6) (v:=?_) Sg kr kr kr kr Iq (by rfl) ?_ (fun hCn=>?_)
 rotate_left
 ·intro w';go_simp;(try with_reducible rfl)
 clear hC
 have hC:=hCn
 clear hCn
 try simp only [Act.put,sA,sB,sC]
 refine zAB hC (i:=7) Sg kr (fun K hK=>?_)
 go_simp
 refine hK.out _ _ (fun h=>by cases h) (fun hCn=>?_)
 clear hK K hC
 have hC:=hCn
 clear hCn
 try simp only [Act.put,sA,sB,sC]
 refine zAD kr ?_ _
 clear hC HKeepT
 try clear hH
 obtain ⟨V2,hV2⟩:∃ V2,setInt w2 b10 0 n2 A2 e2=V2:=⟨_,rfl⟩
 have hT2:TB w2 49 b10:=by obtain ⟨_,_,_,q,_⟩:=HQ10.out.box;exact q.typ.of_eq (hxA.block _ q.typ.lt)
 have HX2:Hid (Ext W V2):=by rw [← hV2];exact zAO (HX.out.trans hxA) hb10
 have HS2:Hid (IntB V2 bs s):=by rw [← hV2];exact (HS.out.ext hxA).farI hT2 hnb
 have HP2:Hid (IntB V2 b10 (fitZ (fitZ (px*py)*c))):=by rw [← hV2];exact (HQ10.out.ext hxA).setI HN2.out
 have eV:(w2.setCell ⟨b10,0,none⟩ (.bool n2)).setCell ⟨b10,1,none⟩ (.slice A2 e2 e2)=V2:=hV2
 rw [eV]
 clear eV hV2 hT2 HX HS HQ10 HN10 HM2 HN1 HN2 hxA c1 c2 c3 c4 c10a c10b f10a f10b tc10a tc10b uc10a uc10b HX1
 obtain ⟨nS,AS,kS,qS,iS⟩:=HS2.out.box
 obtain ⟨cSa,fSa,cSb,fSb⟩:=qS.two
 obtain ⟨nP,AP,kP,qP,iP⟩:=HP2.out.box
 obtain ⟨cPa,fPa,cPb,fPb⟩:=qP.two
 have lS:=qS.lt
 have lP:=qP.lt
 have hTS:=zH qS.typ
 have HA3:=zH (fun V (hx:Ext V2 V)=>zBR nS nP AS AP kS kP s (fitZ (fitZ (px*py)*c)) V (iS.ext hx) (iP.ext hx))
 clear iS iP qS qP HP2
 go_upto_region 4 with (go_at_call 67;refine (HA3.out _ (by first|exact Ext.refl _|exact (Ext.refl _).drew)).mono ?_;rintro e w1 ⟨n1,A1,e1,rfl,hn1,hx⟩;have hxA:Ext V2 w1:=(by first|exact hx|exact (Ext.refl _).drew.trans hx);have HN1:=zH hn1;clear hx hn1;have d0a:=hxA.cell cSa;have d0b:=hxA.cell cSb;have g0a:=hxA.free fSa (zAA cSa);have g0b:=hxA.free fSb (zAA cSb))
 obtain ⟨V3,hV3⟩:∃ V3,setInt w1 bs 0 n1 A1 e1=V3:=⟨_,rfl⟩
 have HX3:Hid (Ext wB V3):=by rw [← hV3];exact zAO (HX0.out.trans (HX2.out.trans hxA)) hlo
 have HS3:Hid (IntB V3 bs (fitZ (s+fitZ (fitZ (px*py)*c)))):=by rw [← hV3];exact (HS2.out.ext hxA).setI HN1.out
 have eV:(w1.setCell ⟨bs,0,none⟩ (.bool n1)).setCell ⟨bs,1,none⟩ (.slice A1 e1 e1)=V3:=hV3
 rw [eV]
 clear eV hV3 HS2 HA3 HN1 hxA HX2 cSa cSb cPa cPb fSa fSb fPa fPb d0a d0b g0a g0b
 go_wp2
 exact bodyPost_ret (v:=.bool true) (by simp [results,Tryz.results162,go_sem]) rfl ⟨rfl,HX3.out,HS3.out⟩
end Go.Proofs.YtdkgilioejdmeaaGreat
namespace Go.Proofs.YtdkgilioejdmeaaGreat
set_option exponentiation.threshold 5000
def dS (n:Nat) (e:Nat→Nat→Int) (x y:Nat→Int) (i j:Nat):Int:=sm i (fun a=>sm n fun b=>x a*y b*e a b)+sm j (fun b=>x i*y b*e i b)
theorem dS_row (n:Nat) (e:Nat→Nat→Int) (x y:Nat→Int) (i:Nat):dS n e x y i n=dS n e x y (i+1) 0:=by simp [dS,sm]
theorem dS_step (n:Nat) (e:Nat→Nat→Int) (x y:Nat→Int) (i j:Nat):dS n e x y i (j+1)=dS n e x y i j+x i*y j*e i j:=by simp only [dS,sm];omega
theorem dS_end (n:Nat) (e:Nat→Nat→Int) (x y:Nat→Int):dS n e x y n 0=bf n e x y:=by
 unfold dS bf
 simp only [sm,Int.add_zero]
 refine zAC fun i hi=>?_
 rw [← zAY]
 exact zAC fun j hj=>by rw [Int.mul_assoc,Int.mul_comm (y j)]
theorem abs63 {z:Int} (h0:-9223372036854775808≤z) (h1:z≤9223372036854775807):z.natAbs≤2 ^ 63:=by omega
theorem sm_abs {n:Nat} {f:Nat→Int} {B:Nat} (h:∀ i,i < n→(f i).natAbs≤B):(sm n f).natAbs≤n*B:=by
 induction n with
 | zero=>simp [sm]
 | succ n ih =>
  simp only [sm]
  have h1:=ih fun i hi=>h i om
  have h2:=h n om
  have h3:=Int.natAbs_add_le (sm n f) (f n)
  rw [Nat.succ_mul]
  omega
theorem yAG {a b c:Int} (ha:a.natAbs≤2 ^ 63) (hb:b.natAbs≤2 ^ 63) (hc:c.natAbs≤2 ^ 63):(a*b*c).natAbs≤2 ^ 189:=by
 rw [Int.natAbs_mul,Int.natAbs_mul]
 calc a.natAbs*b.natAbs*c.natAbs≤2 ^ 63*2 ^ 63*2 ^ 63:=Nat.mul_le_mul (Nat.mul_le_mul ha hb) hc
  _=2 ^ 189:=by decide
theorem dS_abs {n:Nat} {e:Nat→Nat→Int} {x y:Nat→Int} {i j:Nat} (hn:n≤100) (hi:i≤n) (hj:j≤n) (hij:i < n∨j=0) (hx:∀ a,a < n→(x a).natAbs≤2 ^ 63) (hy:∀ b,b < n→(y b).natAbs≤2 ^ 63) (he:∀ a b,a < n→b < n→(e a b).natAbs≤2 ^ 63):(dS n e x y i j).natAbs≤20000*2 ^ 189:=by
 unfold dS
 have h1:=sm_abs (n:=i) (f:=fun a=>sm n fun b=>x a*y b*e a b) (B:=100*2 ^ 189) fun a ha=>by
  refine Nat.le_trans (sm_abs (B:=2 ^ 189) fun b hb=>yAG (hx a om) (hy b hb) (he a b om hb)) ?_
  exact Nat.mul_le_mul hn (Nat.le_refl _)
 have h2:(sm j (fun b=>x i*y b*e i b)).natAbs≤100*2 ^ 189:=by
  rcases hij with h|h
  ·refine Nat.le_trans (sm_abs (B:=2 ^ 189) fun b hb=>yAG (hx i h) (hy b om) (he i b h om)) ?_
   exact Nat.mul_le_mul om (Nat.le_refl _)
  ·subst h;simp [sm]
 have h3:i*(100*2 ^ 189)≤100*(100*2 ^ 189):=Nat.mul_le_mul om (Nat.le_refl _)
 have h4:=Int.natAbs_add_le (sm i (fun a=>sm n fun b=>x a*y b*e a b)) (sm j (fun b=>x i*y b*e i b))
 omega
theorem dS_fit {n:Nat} {e:Nat→Nat→Int} {x y:Nat→Int} {i j:Nat} (hn:n≤100) (hi:i < n) (hj:j < n) (hx:∀ a,a < n→(x a).natAbs≤2 ^ 63) (hy:∀ b,b < n→(y b).natAbs≤2 ^ 63) (he:∀ a b,a < n→b < n→(e a b).natAbs≤2 ^ 63) :
  fitZ (dS n e x y i j+fitZ (fitZ (x i*y j)*e i j))=dS n e x y i (j+1):=by
 have h0:(20000:Nat)*2 ^ 189 < 2 ^ 4096:=by decide +kernel
 have h1:(x i*y j).natAbs≤2 ^ 126:=by
  rw [Int.natAbs_mul]
  calc (x i).natAbs*(y j).natAbs≤2 ^ 63*2 ^ 63:=Nat.mul_le_mul (hx i hi) (hy j hj)
   _=2 ^ 126:=by decide
 have h2:=yAG (hx i hi) (hy j hj) (he i j hi hj)
 have h3:=dS_abs (i:=i) (j:=j+1) hn om om (Or.inl hi) hx hy he
 rw [zA2 (z:=x i*y j) (Nat.lt_of_le_of_lt h1 (Nat.lt_of_le_of_lt (by decide) h0)),zA2 (z:=x i*y j*e i j) (Nat.lt_of_le_of_lt h2 (Nat.lt_of_le_of_lt (by decide) h0)),← dS_step,zA2 (Nat.lt_of_le_of_lt h3 h0)]
end Go.Proofs.YtdkgilioejdmeaaGreat
namespace Go.Proofs.YtdkgilioejdmeaaGreat
open Go.RowKit
theorem fit_abs {xs:List Int} (h:∀ z,z∈xs → -9223372036854775808≤z∧z≤9223372036854775807) (a:Nat):(vat xs a).natAbs≤2 ^ 63:=by
 unfold vat
 cases e:xs[a]? with
 | none=>exact Nat.zero_le _
 | some z=>have:=h z (List.mem_of_getElem? e);exact abs63 this.1 this.2
theorem vat_at {xs:List Int} {i:Nat} {z:Int} (h:xs[i]? = some z):vat xs i=z:=by unfold vat;rw [h];rfl
theorem entry_fit {rows:List (List Int)} (h:Fit64 rows) (a b:Nat):(entry rows a b).natAbs≤2 ^ 63:=by
 unfold entry
 cases e:rows[a]? with
 | none=>exact Nat.zero_le _
 | some l=>exact fit_abs (xs:=l) (fun z hz=>(h.2 l (List.mem_of_getElem? e)).2 z hz) b
set_option maxHeartbeats 2000000 in
theorem eachD_any (A:Option Addr) (n c:Nat) (rows:List (List Int)) (X Y:Option Addr) (cx cy bx bi bs:Nat) (xs ys:List Int) (wB w:World) (hn:n=rows.length) (hr:IsRows wB A rows) (hf:Fit64 rows) (hn8:n≤100) (hsq:∀ l∈rows,l.length=n) (hx0:Ext wB w)
  (cX:wB.cell? ⟨bx,0,none⟩=some (.slice X n cx)) (cY:wB.cell? ⟨bi,0,none⟩=some (.slice Y n cy)) (rX:IsRow wB X xs) (rY:IsRow wB Y ys) (hxl:xs.length=n) (hyl:ys.length=n)
  (hxf:∀ z,z∈xs → -9223372036854775808≤z∧z≤9223372036854775807) (hyf:∀ z,z∈ys → -9223372036854775808≤z∧z≤9223372036854775807) (hS:IntB w bs 0) (hlo:wB.heap.size≤bs) :
  Calls Tryz.prog 62 #[.slice A n c,.func (.func 162) #[] #[.pointer (some ⟨bx,0,none⟩),.pointer (some ⟨bi,0,none⟩),.pointer (some ⟨bs,0,none⟩)]] w fun e w'=>e = .returned (.bool true)∧Ext wB w'∧IntB w' bs (bf n (entry rows) (vat xs) (vat ys)):=by
 have HN:=zH hn
 have HR:=zH hr
 have HF:=zH hf
 have HSq:=zH hsq
 have HX0:=zH hx0
 have HS0:Hid (IntB w bs (dS n (entry rows) (vat xs) (vat ys) 0 0)):=hS
 have HC:=zH (fun (i j:Nat) (px py z:Int) (W:World) (s:Int) (hx:Ext wB W) (hxi:xs[i]? = some px) (hyj:ys[j]? = some py) (z0:-9223372036854775808≤z) (z1:z≤9223372036854775807) (hI:IntB W bs s) (hi:i < n) (hj:j < n) =>
  dotStep_any X Y cx cy n bx bi bs i j xs ys px py z s wB W hx cX cY rX rY hxi hyj (hxf px (List.mem_of_getElem? hxi)).1 (hxf px (List.mem_of_getElem? hxi)).2 (hyf py (List.mem_of_getElem? hyj)).1 (hyf py (List.mem_of_getElem? hyj)).2 z0 z1 hI hlo hi hj hn8)
 have HFit:=zH (fun (i j:Nat) (hi:i < n) (hj:j < n)=>dS_fit (e:=entry rows) (x:=vat xs) (y:=vat ys) hn8 hi hj (fun a _=>fit_abs hxf a) (fun a _=>fit_abs hyf a) (fun a b _ _=>entry_fit hf a b))
 have HXL:=zH hxl
 have HYL:=zH hyl
 clear hn hr hf hsq hx0 cX cY rX rY hxl hyl hxf hyf hS
 go_enter Tryz.func62,Tryz.ntmps62
 go_wp2
 go_loopg [10] n (fun kk iv wr=>∃ i:Nat,kk+i=n∧iv = .int .i64 i∧Hid (Ext wB wr)∧Hid (IntB wr bs (dS n (entry rows) (vat xs) (vat ys) i 0)))
 case atStart=>exact ⟨0,by omega,rfl,HX0,HS0⟩
 clear HX0 HS0
 obtain ⟨i,hki,rfl,HX,HI⟩:=hrel
 by_cases hin:i < n
 ·obtain ⟨l,hl⟩:∃ l,rows[i]? = some l:=⟨_,List.getElem?_eq_getElem (by have:=HN.out;omega)⟩
  have hln:l.length=n:=HSq.out l (List.mem_of_getElem? hl)
  obtain ⟨b,off,R,c',rfl,hb,h1,h2,h3⟩:=HR.out.at_ hl
  replace h1:=HX.out.cell h1
  have HL:=zH hl
  have HRow:=zH h3
  have HLen:=zH hln
  rw [hln] at h1 h2
  have lb:=zAA h1
  simp only at lb
  clear hl h3 hln hb
  go_wp2
  go_loopg [18] n (fun kk jv wi=>∃ j:Nat,kk+j=n∧jv = .int .i64 j∧Hid (Ext wB wi)∧Hid (IntB wi bs (dS n (entry rows) (vat xs) (vat ys) i j)))
  case atStart=>exact ⟨0,by omega,rfl,HX,HI⟩
  clear HX HI h1 lb
  obtain ⟨j,hkj,rfl,HX,HI⟩:=hrel
  by_cases hjn:j < n
  ·obtain ⟨z,hz⟩:∃ z,l[j]? = some z:=⟨_,List.getElem?_eq_getElem (by have:=HLen.out;omega)⟩
   obtain ⟨b2,off2,rfl,hb2,h4⟩:=HRow.out.at_ hz
   replace h4:=HX.out.cell h4
   have lb2:=zAA h4
   simp only at lb2
   obtain ⟨z0,z1⟩:=HF.out.at_ HL.out hz
   obtain ⟨px,hpx⟩:∃ z,xs[i]? = some z:=⟨_,List.getElem?_eq_getElem (by have:=HXL.out;omega)⟩
   obtain ⟨py,hpy⟩:∃ z,ys[j]? = some z:=⟨_,List.getElem?_eq_getElem (by have:=HYL.out;omega)⟩
   have HCall:=zH (HC.out i j px py z _ _ HX.out hpx hpy z0 z1 HI.out hin hjn)
   have HEq:Hid (fitZ (dS n (entry rows) (vat xs) (vat ys) i j+fitZ (fitZ (px*py)*z))=dS n (entry rows) (vat xs) (vat ys) i (j+1)):=by
    rw [← HFit.out i j hin hjn,vat_at hpx,vat_at hpy,show entry rows i j=z by unfold entry;rw [HL.out];simp [hz]];exact rfl
   clear hz hpx hpy hb2
   go_wp2_with fail
   refine HCall.out.mono ?_
   rintro e w' ⟨rfl,hx,hI⟩
   have HX':=zH hx
   have HI':Hid (IntB w' bs (dS n (entry rows) (vat xs) (vat ys) i (j+1))):=by rw [← HEq.out];exact hI
   clear hx hI HCall HX HI h4 lb2
   go_wp2
   go_roundg (n - (j+1))
   case measure=>omega
   case rel=>exact ⟨j+1,by omega,by go_num,HX',HI'⟩
  ·obtain rfl:j=n:=by omega
   have HI':Hid (IntB wr bs (dS j (entry rows) (vat xs) (vat ys) (i+1) 0)):=by rw [← dS_row];exact HI
   go_wp2
   go_roundg (j - (i+1))
   case measure=>omega
   case rel=>exact ⟨i+1,by omega,by go_num,HX,HI'⟩
 ·obtain rfl:i=n:=by omega
  have HT:Hid (IntB wr bs (bf i (entry rows) (vat xs) (vat ys))):=by rw [← dS_end];exact HI
  go_wp2
  exact bodyPost_ret (v:=.bool true) (by simp [results,Tryz.results62,go_sem]) rfl ⟨rfl,HX.out,HT.out⟩
def dotR (n lx ly:Nat) (s:Int):Int × Int:=if lx=n∧ly=n then (if i64B s=true then (s,0) else (0,3)) else (0,5)
set_option maxHeartbeats 4000000 in
set_option maxRecDepth 100000 in
theorem gdot_any (A X Y:Option Addr) (n c lx cx ly cy:Nat) (rows:List (List Int)) (xs ys:List Int) (w:World) (hn:n=rows.length) (hr:IsRows w A rows) (hf:Fit64 rows) (hn8:n≤100) (hsq:∀ l∈rows,l.length=n)
  (rX:IsRow w X xs) (rY:IsRow w Y ys) (hxl:lx=xs.length) (hyl:ly=ys.length) (hl1:lx≤140737488351232) (hl2:ly≤140737488351232) (hxf:∀ z,z∈xs → -9223372036854775808≤z∧z≤9223372036854775807) (hyf:∀ z,z∈ys → -9223372036854775808≤z∧z≤9223372036854775807) :
  Calls Tryz.prog 112 #[.slice A n c,.slice X lx cx,.slice Y ly cy] w fun e w'=>e = .returned (.tuple #[.int .i64 (dotR n lx ly (bf n (entry rows) (vat xs) (vat ys))).1,.int .i64 (dotR n lx ly (bf n (entry rows) (vat xs) (vat ys))).2])∧Ext w w':=by
 obtain ⟨W0,HWW0,hXW0,hsW0,c0,f0,c1,f1⟩:=bx11 w 31 31 (.slice X lx cx) (.slice Y ly cy)
 have HX:=zH hXW0
 have l0:=zAA c0
 have l1:=zAA c1
 simp only at l0 l1
 have hmf:∀ (fn:Fn) (first cap:Array Value) (w:World),(Instr.makeFunc fn first cap).run Tryz.prog w = .ok (.func fn first cap) w:=fun _ _ _ _=>rfl
 have HN:=zH hn
 have HXL:=zH hxl
 have HYL:=zH hyl
 have HR:=zH hr
 have HF:=zH hf
 have HSq:=zH hsq
 have HRX:=zH rX
 have HRY:=zH rY
 have HXF:=zH hxf
 have HYF:=zH hyf
 clear hn hxl hyl hr hf hsq rX rY hxf hyf hXW0
 by_cases h1:lx=n
 case neg =>
  have e:Hid (dotR n lx ly (bf n (entry rows) (vat xs) (vat ys))=(0,5)):=if_neg fun h=>h1 h.1
  rw [e.out]
  go_enter Tryz.func112,Tryz.ntmps112
  go_wp2
  exact bodyPost_ret (v:=.tuple #[.int .i64 0,.int .i64 5]) (by simp [results,Tryz.results112,go_sem]) rfl ⟨rfl,by first|exact HX.out|exact ((Ext.refl _).alloc _).alloc _⟩
 by_cases h2:ly=n
 case neg =>
  have e:Hid (dotR n lx ly (bf n (entry rows) (vat xs) (vat ys))=(0,5)):=if_neg fun h=>h2 h.2
  rw [e.out]
  go_enter Tryz.func112,Tryz.ntmps112
  go_wp2
  exact bodyPost_ret (v:=.tuple #[.int .i64 0,.int .i64 5]) (by simp [results,Tryz.results112,go_sem]) rfl ⟨rfl,by first|exact HX.out|exact ((Ext.refl _).alloc _).alloc _⟩
 subst h1
 subst h2
 have e:Hid (dotR ly ly ly (bf ly (entry rows) (vat xs) (vat ys))=if i64B (bf ly (entry rows) (vat xs) (vat ys))=true then (bf ly (entry rows) (vat xs) (vat ys),0) else (0,3)):=if_pos ⟨rfl,rfl⟩
 rw [e.out]
 obtain ⟨s,hs⟩:∃ s,bf ly (entry rows) (vat xs) (vat ys)=s:=⟨_,rfl⟩
 have HEach:=zH (fun W bs (hx:Ext W0 W) (hI:IntB W bs 0) (hlo:W0.heap.size≤bs)=>eachD_any A ly c rows X Y cx cy w.heap.size (w.heap.size+1) bs xs ys W0 W HN.out (HR.out.ext HX.out) HF.out hn8 HSq.out hx c0 c1 (HRX.out.ext HX.out) (HRY.out.ext HX.out) HXL.out.symm HYL.out.symm HXF.out HYF.out hI hlo)
 rw [hs] at HEach ⊢
 obtain ⟨r,hr⟩:∃ r:Int × Int,(if i64B s=true then (s,0) else (0,3))=r:=⟨_,rfl⟩
 rw [hr]
 have HRr:=zH hr
 clear hs e hr
 go_enter Tryz.func112,Tryz.ntmps112
 go_upto_region 4 with (fail)
 obtain ⟨bs,hbs⟩:∃ b,W0.heap.size=b:=⟨_,rfl⟩
 have hsz:w.heap.size+2=bs:=by rw [← hbs,← HWW0.out];simp only [World.size_alloc]
 obtain ⟨W1,hW1⟩:∃ W1,W0.alloc (.cells #[.bool false,.slice none 0 0] 49)=W1:=⟨_,rfl⟩
 have hx1:Ext W0 W1:=by rw [← hW1];exact (Ext.refl _).alloc _
 have HB:IntB W1 bs 0:=by rw [← hW1,← hbs];exact IntB.new (zBX _)
 have HC:=zH (HEach.out W1 bs hx1 HB om)
 have hsz1:w.heap.size+1+1=bs:=by omega
 rw [HWW0.out,hW1,hsz1]
 clear HB hx1 hW1 HEach c0 c1 f0 f1 HWW0 hsW0 hsz hsz1
 go_wp2_with (fail)
 refine HC.out.mono ?_
 rintro e w2 ⟨rfl,hx,hI⟩
 obtain ⟨nb,Ab,kb,qb,ib⟩:=hI.box
 obtain ⟨d1,g1,d2,g2⟩:=qb.two
 have lb:=qb.lt
 have H64:=zH (zCJ nb Ab kb s w2 ib)
 have HX2:=zH (HX.out.trans hx)
 clear hx hI qb ib HC
 go_wp2_with (fail)
 refine H64.out.mono ?_
 rintro e w3 ⟨rfl,hx⟩
 have HX3:=zH (HX2.out.trans hx)
 clear hx H64 d1 d2 g1 g2 lb
 cases hb:i64B s with
 | true =>
  have hz:i64Z s=s:=by unfold i64Z;unfold i64B at hb;rw [if_pos (of_decide_eq_true hb)]
  have hr:r=(s,0):=by rw [← HRr.out];exact if_pos hb
  subst hr
  rw [hz]
  clear hz hb HRr
  go_wp2
  exact bodyPost_ret (v:=.tuple #[.int .i64 s,.int .i64 0]) (by simp [results,Tryz.results112,go_sem]) rfl ⟨rfl,HX3.out⟩
 | false =>
  have hr:r=(0,3):=by rw [← HRr.out];exact if_neg (by rw [hb];decide)
  subst hr
  clear hb HRr
  go_wp2
  exact bodyPost_ret (v:=.tuple #[.int .i64 0,.int .i64 3]) (by simp [results,Tryz.results112,go_sem]) rfl ⟨rfl,HX3.out⟩
def normR (rows:List (List Int)) (xs:List Int):Int × Int:=if chk rows≠0 then (0,chk rows) else dotR rows.length xs.length xs.length (qf rows.length (entry rows) (vat xs))
set_option maxHeartbeats 4000000 in
theorem gDot_any (A X:Option Addr) (n c lx cx:Nat) (rows:List (List Int)) (xs:List Int) (w:World) (hn:n=rows.length) (hr:IsRows w A rows) (hf:Fit64 rows) (rX:IsRow w X xs) (hxl:lx=xs.length) (hl1:lx≤140737488351232) (hxf:∀ z,z∈xs → -9223372036854775808≤z∧z≤9223372036854775807) :
  Calls Tryz.prog 57 #[.slice A n c,.slice X lx cx,.slice X lx cx] w fun e w'=>e = .returned (.tuple #[.int .i64 (normR rows xs).1,.int .i64 (normR rows xs).2])∧Ext w w':=by
 have HC:=zH (zC1 A n c rows w hn hr hf)
 by_cases hc:chk rows=0
 ·have e:Hid (normR rows xs=dotR n lx lx (bf n (entry rows) (vat xs) (vat xs))):=by unfold normR;rw [if_neg (by simp [hc]),← hn,← hxl];exact zH rfl
  obtain ⟨h1,h8,hsq,_⟩:=zCp hc
  have HD:=zH (fun W (hx:Ext w W)=>gdot_any A X X n c lx cx lx cx rows xs xs W hn (hr.ext hx) hf om (by rw [hn];exact hsq) (rX.ext hx) (rX.ext hx) hxl hxl hl1 hl1 hxf hxf)
  rw [e.out]
  rw [hc] at HC
  obtain ⟨v,hv⟩:∃ v,dotR n lx lx (bf n (entry rows) (vat xs) (vat xs))=v:=⟨_,rfl⟩
  rw [hv] at HD ⊢
  clear hn hr hf rX hxl hsq h1 h8 hc e hv
  go_enter Tryz.func57,Tryz.ntmps57
  go_wp2_with (fail)
  refine HC.out.mono ?_
  rintro e w1 ⟨rfl,hx⟩
  have HX1:=zH hx
  clear hx HC
  go_wp2_with (fail)
  refine (HD.out _ HX1.out).mono ?_
  rintro e w2 ⟨rfl,hx⟩
  have HX2:=zH (HX1.out.trans hx)
  clear hx HD
  go_wp2
  exact bodyPost_ret (v:=.tuple #[.int .i64 v.1,.int .i64 v.2]) (by simp [results,Tryz.results57,go_sem]) rfl ⟨rfl,HX2.out⟩
 ·have e:Hid (normR rows xs=(0,chk rows)):=if_pos hc
  rw [e.out]
  obtain ⟨ck,hck⟩:∃ z,chk rows=z:=⟨_,rfl⟩
  rw [hck] at HC hc ⊢
  clear hn hr hf rX hxl hck e
  go_enter Tryz.func57,Tryz.ntmps57
  go_wp2_with (fail)
  refine HC.out.mono ?_
  rintro e w1 ⟨rfl,hx⟩
  have HX1:=zH hx
  clear hx HC
  go_wp2
  exact bodyPost_ret (v:=.tuple #[.int .i64 0,.int .i64 ck]) (by simp [results,Tryz.results57,go_sem]) rfl ⟨rfl,HX1.out⟩
theorem norm_any (A X:Option Addr) (n c lx cx:Nat) (rows:List (List Int)) (xs:List Int) (w:World) (hn:n=rows.length) (hr:IsRows w A rows) (hf:Fit64 rows) (rX:IsRow w X xs) (hxl:lx=xs.length) (hl1:lx≤140737488351232) (hxf:∀ z,z∈xs → -9223372036854775808≤z∧z≤9223372036854775807) :
  Calls Tryz.prog 20 #[.slice A n c,.slice X lx cx] w fun e w'=>e = .returned (.tuple #[.int .i64 (normR rows xs).1,.int .i64 (normR rows xs).2])∧Ext w w':=by
 have HD:=zH (gDot_any A X n c lx cx rows xs w hn hr hf rX hxl hl1 hxf)
 obtain ⟨v,hv⟩:∃ v,normR rows xs=v:=⟨_,rfl⟩
 rw [hv] at HD ⊢
 clear hv hn hr hf rX hxl hl1 hxf
 go_enter Tryz.func20,Tryz.ntmps20
 go_wp2_with (fail)
 refine HD.out.mono ?_
 rintro e w2 ⟨rfl,hx⟩
 have HX2:=zH hx
 clear hx HD
 go_wp2
 exact bodyPost_ret (v:=.tuple #[.int .i64 v.1,.int .i64 v.2]) (by simp [results,Tryz.results20,go_sem]) rfl ⟨rfl,HX2.out⟩
theorem vat_out {v:List Int} {i:Nat} (h:v.length≤i):vat v i=0:=by
 unfold vat;rw [List.getElem?_eq_none h];rfl
def keyV (v:List Int):Value:=.agg #[.int .i64 (vat v 0),.int .i64 (vat v 1),.int .i64 (vat v 2),.int .i64 (vat v 3),.int .i64 (vat v 4),.int .i64 (vat v 5),.int .i64 (vat v 6),.int .i64 (vat v 7)]
theorem Tryz.sizeI64:(Tryz.prog.info? 2).map (·.size)=some 1:=by kernel_rfl
theorem key_splice {v:List Int} {n:Nat} (hv:v.length=n) (hn:n≤8) :
  splice [Value.int .i64 0,.int .i64 0,.int .i64 0,.int .i64 0,.int .i64 0,.int .i64 0,.int .i64 0,.int .i64 0] 0 ((List.range n).map fun j=>Value.int .i64 (vat v j))=[Value.int .i64 (vat v 0),.int .i64 (vat v 1),.int .i64 (vat v 2),.int .i64 (vat v 3),.int .i64 (vat v 4),.int .i64 (vat v 5),.int .i64 (vat v 6),.int .i64 (vat v 7)]:=by
 have e:[Value.int .i64 (vat v 0),.int .i64 (vat v 1),.int .i64 (vat v 2),.int .i64 (vat v 3),.int .i64 (vat v 4),.int .i64 (vat v 5),.int .i64 (vat v 6),.int .i64 (vat v 7)]=(List.range 8).map fun j=>Value.int .i64 (vat v j):=rfl
 rw [e]
 have e0:[Value.int .i64 0,.int .i64 0,.int .i64 0,.int .i64 0,.int .i64 0,.int .i64 0,.int .i64 0,.int .i64 0]=List.replicate 8 (Value.int .i64 0):=rfl
 rw [e0]
 generalize hz:Value.int .i64 0=z
 unfold splice
 apply List.ext_getElem
 ·simp;omega
 ·intro i h1 h2
  simp only [List.length_map,List.length_range] at h2
  simp only [List.take_zero,List.nil_append]
  by_cases h:i < n
  ·rw [List.getElem_append_left (by simpa using h)]
   simp
  ·rw [List.getElem_append_right (by simpa using h)]
   simp [-List.reduceReplicate,vat_out (v:=v) (i:=i) om,hz]
set_option maxHeartbeats 2000000 in
set_option maxRecDepth 100000 in
theorem keyO_any (b off n c:Nat) (v:List Int) (w:World) (hr:∀ j,j < n→w.cell? ⟨b,off+j,none⟩=some (.int .i64 (vat v j))) (hv:v.length=n) (hn:n≤8) :
  Calls Tryz.prog 19 #[.slice (some ⟨b,off,none⟩) n c] w fun e w'=>e = .returned (keyV v)∧Ext w w':=by
 obtain ⟨W2,hW2⟩:∃ W2,(w.alloc (.cells #[.int .i64 0,.int .i64 0,.int .i64 0,.int .i64 0,.int .i64 0,.int .i64 0,.int .i64 0,.int .i64 0] 34)).alloc (.cells #[.int .i64 0,.int .i64 0,.int .i64 0,.int .i64 0,.int .i64 0,.int .i64 0,.int .i64 0,.int .i64 0] 34)=W2:=⟨_,rfl⟩
 obtain ⟨b2,hb2⟩:∃ b,w.heap.size=b:=⟨_,rfl⟩
 obtain ⟨b3,hb3⟩:∃ b,b2+1=b:=⟨_,rfl⟩
 have HX2:Hid (Ext w W2):=by rw [← hW2];exact ((Ext.refl _).alloc _).alloc _
 have HK2:Hid (Blk W2 b2 34 #[.int .i64 0,.int .i64 0,.int .i64 0,.int .i64 0,.int .i64 0,.int .i64 0,.int .i64 0,.int .i64 0]):=by rw [← hW2,← hb2];exact Blk.al (Blk.new _ _ _)
 have HK3:Hid (Blk W2 b3 34 #[.int .i64 0,.int .i64 0,.int .i64 0,.int .i64 0,.int .i64 0,.int .i64 0,.int .i64 0,.int .i64 0]):=by rw [← hW2,← hb3,← hb2];exact Blk.at (by simp)
 have HRow:=zH (fun j (h:j < n)=>HX2.out.cell (hr j h))
 have HV:=zH hv
 have hb2w:w.heap.size≤b2:=by omega
 clear hr hv
 go_enter Tryz.func19,Tryz.ntmps19
 go_upto_region 2 with (fail)
 go_wp2_with (refine wpList_copy_splice rfl (.tmp 4) (.tmp 5) 31 31 rfl 2 Tryz.underlying31 Tryz.sizeI64 (some ⟨b3,0,none⟩) (some ⟨b,off,none⟩) 8 8 n c rfl rfl b3 0 [.int .i64 0,.int .i64 0,.int .i64 0,.int .i64 0,.int .i64 0,.int .i64 0,.int .i64 0,.int .i64 0] 34 HK3.out ((List.range n).map fun j=>Value.int .i64 (vat v j)) (by simp only [List.length_map,List.length_range];exact (Nat.min_eq_left hn).symm) ?c1 (by simp only [List.length_map,List.length_range,List.length_cons,List.length_nil];omega) ?c2 b3 W2 (Below.refl _ _) (Nat.le_refl _) ?_)
 case c1 =>
  intro _ j a hj
  obtain ⟨h1,h2⟩:=List.getElem?_eq_some_iff.1 hj
  simp only [List.length_range] at h1
  rw [List.getElem_range] at h2
  subst h2
  exact HRow.out j h1
 case c2=>(intro u hu;first|(obtain ⟨x,_,rfl⟩:=List.mem_map.1 hu;rfl)|(obtain ⟨x,_,rfl⟩:=hu;rfl))
 intro w3 hk hbl
 rw [key_splice HV.out hn] at hk
 have HK:Hid (Blk w3 b3 34 #[.int .i64 (vat v 0),.int .i64 (vat v 1),.int .i64 (vat v 2),.int .i64 (vat v 3),.int .i64 (vat v 4),.int .i64 (vat v 5),.int .i64 (vat v 6),.int .i64 (vat v 7)]):=hk.out
 have HX3:Hid (Ext w w3):=(show Below w.heap.size w w3 from Below.trans HX2.out (Below.mono hbl om))
 have HK23:Hid (Blk w3 b2 34 #[.int .i64 0,.int .i64 0,.int .i64 0,.int .i64 0,.int .i64 0,.int .i64 0,.int .i64 0,.int .i64 0]):=(Below.block hbl b2 om).trans HK2.out
 obtain ⟨x0,h0⟩:∃ z,vat v 0=z:=⟨_,rfl⟩
 obtain ⟨x1,h1⟩:∃ z,vat v 1=z:=⟨_,rfl⟩
 obtain ⟨x2,h2⟩:∃ z,vat v 2=z:=⟨_,rfl⟩
 obtain ⟨x3,h3⟩:∃ z,vat v 3=z:=⟨_,rfl⟩
 obtain ⟨x4,h4⟩:∃ z,vat v 4=z:=⟨_,rfl⟩
 obtain ⟨x5,h5⟩:∃ z,vat v 5=z:=⟨_,rfl⟩
 obtain ⟨x6,h6⟩:∃ z,vat v 6=z:=⟨_,rfl⟩
 obtain ⟨x7,h7⟩:∃ z,vat v 7=z:=⟨_,rfl⟩
 have HKV:Hid (keyV v = .agg #[.int .i64 x0,.int .i64 x1,.int .i64 x2,.int .i64 x3,.int .i64 x4,.int .i64 x5,.int .i64 x6,.int .i64 x7]):=by
  unfold keyV;rw [h0,h1,h2,h3,h4,h5,h6,h7];exact zH rfl
 rw [h0,h1,h2,h3,h4,h5,h6,h7] at HK
 have hne:b2≠b3:=by omega
 have c0:=HK.out.cell 0 rfl
 have d0:=HK23.out.cell 0 rfl
 have e0:=HK.out.free 0
 have g0:=HK23.out.free 0
 have c1:=HK.out.cell 1 rfl
 have d1:=HK23.out.cell 1 rfl
 have e1:=HK.out.free 1
 have g1:=HK23.out.free 1
 have c2:=HK.out.cell 2 rfl
 have d2:=HK23.out.cell 2 rfl
 have e2:=HK.out.free 2
 have g2:=HK23.out.free 2
 have c3:=HK.out.cell 3 rfl
 have d3:=HK23.out.cell 3 rfl
 have e3:=HK.out.free 3
 have g3:=HK23.out.free 3
 have c4:=HK.out.cell 4 rfl
 have d4:=HK23.out.cell 4 rfl
 have e4:=HK.out.free 4
 have g4:=HK23.out.free 4
 have c5:=HK.out.cell 5 rfl
 have d5:=HK23.out.cell 5 rfl
 have e5:=HK.out.free 5
 have g5:=HK23.out.free 5
 have c6:=HK.out.cell 6 rfl
 have d6:=HK23.out.cell 6 rfl
 have e6:=HK.out.free 6
 have g6:=HK23.out.free 6
 have c7:=HK.out.cell 7 rfl
 have d7:=HK23.out.cell 7 rfl
 have e7:=HK.out.free 7
 have g7:=HK23.out.free 7
 have l2:=HK23.out.lt
 have l3:=HK.out.lt
 clear hk hbl HX2 HK2 HK3 HRow hW2 hb2 hb3 h0 h1 h2 h3 h4 h5 h6 h7
 go_wp2
 obtain ⟨V,hV⟩:∃ V,((((((((w3.setCell ⟨b2,0,none⟩ (.int .i64 x0)).setCell ⟨b2,1,none⟩ (.int .i64 x1)).setCell ⟨b2,2,none⟩ (.int .i64 x2)).setCell ⟨b2,3,none⟩ (.int .i64 x3)).setCell ⟨b2,4,none⟩ (.int .i64 x4)).setCell ⟨b2,5,none⟩ (.int .i64 x5)).setCell ⟨b2,6,none⟩ (.int .i64 x6)).setCell ⟨b2,7,none⟩ (.int .i64 x7))=V:=⟨_,rfl⟩
 have hk:Blk V b2 34 #[.int .i64 x0,.int .i64 x1,.int .i64 x2,.int .i64 x3,.int .i64 x4,.int .i64 x5,.int .i64 x6,.int .i64 x7]:=by rw [← hV];exact ((((((((HK23.out.set 0 _).set 1 _).set 2 _).set 3 _).set 4 _).set 5 _).set 6 _).set 7 _)
 have hx:Ext w V:=by rw [← hV];exact (Ext.setCell (p:=⟨b2,7,none⟩) (Ext.setCell (p:=⟨b2,6,none⟩) (Ext.setCell (p:=⟨b2,5,none⟩) (Ext.setCell (p:=⟨b2,4,none⟩) (Ext.setCell (p:=⟨b2,3,none⟩) (Ext.setCell (p:=⟨b2,2,none⟩) (Ext.setCell (p:=⟨b2,1,none⟩) (Ext.setCell (p:=⟨b2,0,none⟩) HX3.out hb2w _) hb2w _) hb2w _) hb2w _) hb2w _) hb2w _) hb2w _) hb2w _)
 rw [hV]
 have q0:=hk.cell 0 rfl
 have q1:=hk.cell 1 rfl
 have q2:=hk.cell 2 rfl
 have q3:=hk.cell 3 rfl
 have q4:=hk.cell 4 rfl
 have q5:=hk.cell 5 rfl
 have q6:=hk.cell 6 rfl
 have q7:=hk.cell 7 rfl
 exact bodyPost_ret (v:=.agg #[.int .i64 x0,.int .i64 x1,.int .i64 x2,.int .i64 x3,.int .i64 x4,.int .i64 x5,.int .i64 x6,.int .i64 x7]) (by simp [results,Tryz.results19,go_sem,q0,q1,q2,q3,q4,q5,q6,q7]) rfl ⟨by rw [HKV.out],hx⟩
theorem key_any (b n:Nat) (v:List Int) (w:World) (hr:NRow w b n (vat v)) (hv:v.length=n) (hn:n≤8) :
  Calls Tryz.prog 19 #[.slice (some ⟨b,0,none⟩) n n] w fun e w'=>e = .returned (keyV v)∧Ext w w':=keyO_any b 0 n n v w (fun j hj=>by rw [Nat.zero_add];exact hr.cell j hj) hv hn
end Go.Proofs.YtdkgilioejdmeaaGreat
namespace Go.Proofs.YtdkgilioejdmeaaGreat
open Go.RowKit Go.Maps
theorem Tryz.arr8:WideMaps.ArrKey Tryz.prog 34 2 8:=⟨Tryz.underlying34,by kernel_rfl,by kernel_rfl,by kernel_rfl⟩
theorem Tryz.keyed8:Keyed Tryz.prog 34:=Keyed.of_law Tryz.arr8.law
theorem Tryz.hasTypes:∃ m,Tryz.prog.types.size=m+1:=⟨Tryz.prog.types.size - 1,by kernel_rfl⟩
def FitV (v:List Int):Prop:=∀ z,z∈v → -9223372036854775808≤z∧z≤9223372036854775807
theorem FitV.wf {v:List Int} (h:FitV v) (i:Nat):(Lit.int .i64 (vat v i)).wf=true:=by
 have:-9223372036854775808≤vat v i∧vat v i≤9223372036854775807:=by
  unfold vat
  cases e:v[i]? with
  | none=>exact ⟨by decide,by decide⟩
  | some z=>exact h z (List.mem_of_getElem? e)
 exact WalkArith.wf_i64 this
theorem keyOf8 {v:List Int} (h:FitV v):∃ l,keyOf Tryz.prog 34 (keyV v)=some l:=by
 have A:=Tryz.arr8
 have hkt:=A.keyType Tryz.hasTypes
 obtain ⟨m,hm⟩:=Tryz.hasTypes
 have he:=Tryz.underlying2
 refine ⟨.string (keyBytes [.int .i64 (vat v 0),.int .i64 (vat v 1),.int .i64 (vat v 2),.int .i64 (vat v 3),.int .i64 (vat v 4),.int .i64 (vat v 5),.int .i64 (vat v 6),.int .i64 (vat v 7)]),?_⟩
 unfold keyOf keyV
 simp only [A.hu]
 rw [if_pos (by simp [hkt,Value.formed,A.hu,A.size]),hm]
 unfold Program.keyLits
 simp only [A.hu,Value.cells]
 rw [if_pos (by rw [A.size];rfl),show List.range 8=[0,1,2,3,4,5,6,7] from rfl]
 simp only [List.mapM_cons,List.mapM_nil]
 simp [A.one,Program.keyLits,he,h.wf 0,h.wf 1,h.wf 2,h.wf 3,h.wf 4,h.wf 5,h.wf 6,h.wf 7]
def sameK (u v:List Int):Bool:=(List.range 8).all fun i=>decide (vat u i=vat v i)
theorem yAH {u v:List Int}:sameK u v=true↔keyV u=keyV v:=by
 unfold sameK keyV
 simp only [List.all_eq_true,List.mem_range,decide_eq_true_eq,Value.agg.injEq,Array.mk.injEq,List.cons.injEq,Value.int.injEq,true_and,and_true]
 constructor
 ·intro h;exact ⟨h 0 om,h 1 om,h 2 om,h 3 om,h 4 om,h 5 om,h 6 om,h 7 om⟩
 ·rintro ⟨h0,h1,h2,h3,h4,h5,h6,h7⟩ i hi
  rcases (show i=0∨i=1∨i=2∨i=3∨i=4∨i=5∨i=6∨i=7 by omega) with rfl|rfl|rfl|rfl|rfl|rfl|rfl|rfl <;> assumption
theorem sameK_eq {n:Nat} {u v:List Int} (hu:u.length=n) (hv:v.length=n) (hn:n≤8):sameK u v=true↔u=v:=by
 constructor
 ·intro h
  unfold sameK at h
  simp only [List.all_eq_true,List.mem_range,decide_eq_true_eq] at h
  exact vec_ext hu hv fun i hi=>h i om
 ·rintro rfl;exact yAH.2 rfl
def seenB (S:List (List Int)) (v:List Int):Bool:=S.any fun u=>sameK u v
theorem yAI {n:Nat} {S:List (List Int)} {v:List Int} (hS:∀ u,u∈S→u.length=n) (hv:v.length=n) (hn:n≤8):seenB S v=true↔v∈S:=by
 unfold seenB
 rw [List.any_eq_true]
 constructor
 ·rintro ⟨u,hu,h⟩;rw [← (sameK_eq (hS u hu) hv hn).1 h];exact hu
 ·intro h;exact ⟨v,h,(sameK_eq hv hv hn).2 rfl⟩
def Seen (w:World) (B:Nat) (S:List (List Int)):Prop:=∃ D:DataW Unit,w.ownsMap Tryz.prog 34 (plainElem Tryz.prog 4) B S.length D∧IsMap D∧∀ v l,keyOf Tryz.prog 34 (keyV v)=some l→D.atKey l (.lit (.bool false)) = .lit (.bool (seenB S v))
theorem Seen.lt {w:World} {B:Nat} {S:List (List Int)} (h:Seen w B S):B < w.heap.size:=by obtain ⟨D,h1,_⟩:=h;exact h1.lt
theorem Seen.new (w:World):Seen (w.alloc (.map #[] 0)) w.heap.size []:=⟨.map [],World.ownsMap_made _ _ _ _,⟨_,rfl⟩,fun _ _ _=>rfl⟩
theorem Seen.ext {w w':World} {B:Nat} {S:List (List Int)} (h:Seen w B S) (hx:Ext w w'):Seen w' B S:=by
 have hlt:=h.lt
 obtain ⟨D,⟨es,clock,hb,r⟩,h2⟩:=h
 exact ⟨D,⟨es,clock,(hx.block B hlt).trans hb,r⟩,h2⟩
theorem zeroBool (w:World):(zeroValue 4).run Tryz.prog w = .ok (.bool false) w:=by kernel_rfl
theorem yAC {H:Type} {P:Program} {t:TypeId} (ht:P.underlying t=some .bool) {v:Value} {z:DataW H × List MemPlace} (h:plainElem P t v=some z):∃ x,v = .bool x∧z=(.lit (.bool x),[]):=by
 unfold plainElem at h
 rw [ht] at h
 cases v <;> simp at h
 exact ⟨_,rfl,h.symm⟩
theorem Seen.look {w:World} {B:Nat} {S:List (List Int)} (h:Seen w B S) {v:List Int} (hv:FitV v):(Instr.lookup 37 (.map (some B)) (keyV v) false).run Tryz.prog w = .ok (.bool (seenB S v)) w:=by
 obtain ⟨D,h1,_,h3⟩:=h
 obtain ⟨l,hl⟩:=keyOf8 hv
 obtain ⟨u,ps,hr,hu⟩:=h1.lookup Tryz.keyed8 Tryz.underlying37 (zeroBool w) (plainElem_bool Tryz.underlying4 false) hl
 obtain ⟨x,rfl,e⟩:=yAC Tryz.underlying4 hu
 rw [hr]
 have e2:D.atKey l (.lit (.bool false)) = .lit (.bool x):=congrArg Prod.fst e
 have e4:seenB S v=x:=congrArg (fun d:DataW Unit=>match d with | .lit (.bool b)=>b|_=>false) ((h3 v l hl).symm.trans e2)
 rw [e4]
theorem Seen.store {w:World} {B:Nat} {S:List (List Int)} (h:Seen w B S) {v:List Int} (hv:FitV v) (hS:S.length < 100000):∃ w',(Instr.mapUpdate 37 (.map (some B)) (keyV v) (.bool true)).run Tryz.prog w = .ok () w'∧Seen w' B (S ++ [v])∧w.grownBy w' (some B):=by
 obtain ⟨D,h1,h2,h3⟩:=h
 obtain ⟨l,hl⟩:=keyOf8 hv
 obtain ⟨w',hr,ho,hg⟩:=h1.update Tryz.keyed8 Tryz.underlying37 (by unfold maxLen;omega) hl (plainElem_bool Tryz.underlying4 true)
 refine ⟨w',hr,⟨_,by rw [List.length_append];exact ho,h2.put _ _,fun u m hm=>?_⟩,hg⟩
 have hk:seenB (S ++ [v]) u=(seenB S u || sameK v u):=by unfold seenB;rw [List.any_append];simp
 rw [hk]
 by_cases e:m=l
 ·subst e
  have e2:keyV v=keyV u:=Tryz.keyed8.inj hl hm
  rw [atKey_put_same h2 (Tryz.keyed8.key hl),yAH.2 e2,Bool.or_true]
 ·rw [atKey_put_other e,h3 u m hm]
  cases hs:sameK v u with
  | false=>rw [Bool.or_false]
  | true =>
   refine absurd ?_ e
   have:=yAH.1 hs
   rw [this] at hl
   rw [hl] at hm
   exact (Option.some.inj hm).symm
theorem yAD {w:World} {ops:Array Oper} {rest:List Oper} {o:Oper} {a:Act} {Q:Exit→Act→World→Prop} (hg:o.guard=none) (m x y:Operand) (hop:o.op=Op.mapUpdate 37 m x y) (B:Nat) (S:List (List Int)) (v:List Int)
  (hm:a.eval m = .map (some B)) (hs:Seen w B S) (hx:a.eval x=keyV v) (hy:a.eval y = .bool true) (hv:FitV v) (hS:S.length < 100000) (hK:∀ w',Seen w' B (S ++ [v])→w.grownBy w' (some B)→wpList Tryz.prog ops Q rest (a.put o.dst undef) w'):wpList Tryz.prog ops Q (o :: rest) a w:=by
 refine wpList_plain hg fun K' hK'=>?_
 obtain ⟨w',hr,h1,h2⟩:=hs.store hv hS
 unfold Oper.wp
 simp [execOp,hop,hm,hx,hy,hr,Result.andThen]
 exact hK' _ _ (hK w' h1 h2)
end Go.Proofs.YtdkgilioejdmeaaGreat
namespace Go.Proofs.YtdkgilioejdmeaaGreat
open Go.RowKit
theorem boxL_sorted (B:Nat):∀ n,(boxL B n).Pairwise lexL:=by
 intro n
 induction n with
 | zero=>exact List.pairwise_singleton _ _
 | succ n ih =>
  show ((List.range (2*B+1)).flatMap fun (i:Nat)=>(boxL B n).map fun v=>((i:Int) - (B:Int)) :: v).Pairwise lexL
  rw [List.pairwise_flatMap]
  refine ⟨fun i hi=>?_,?_⟩
  ·rw [List.pairwise_map]
   refine ih.imp fun {a b} h=>?_
   unfold lexL lexC
   rw [if_neg om,if_neg om]
   exact h
  ·refine List.pairwise_lt_range.imp fun {i j} hij x hx y hy=>?_
   obtain ⟨v,_,rfl⟩:=List.mem_map.1 hx
   obtain ⟨u,_,rfl⟩:=List.mem_map.1 hy
   unfold lexL lexC
   rw [if_pos om]
   decide
def boxS (n:Nat) (f:Nat→Nat→Int) (nb:Int) (B:Nat):List (List Int × Int) :=
 ((boxL B n).filter fun v=>decide (v.length=n) && (decide (qf n f (vat v)≤nb) && firstP v)).map fun v=>(v,qf n f (vat v))
theorem shorts_box {n:Nat} {f:Nat→Nat→Int} (h:PD n f) {E:Nat} (hE:∀ i c,i < n→c < n→(f i c).natAbs≤E) (nb:Int) (B:Nat) (hB:nb*((fct (n - 1)*E ^ (n - 1):Nat):Int) < ((B:Int)+1)*((B:Int)+1)):Shorts n f nb (boxS n f nb B):=by
 refine ⟨?_,fun y z=>?_⟩
 ·unfold boxS
  rw [List.pairwise_map];exact (boxL_sorted B n).sublist List.filter_sublist
 ·unfold boxS
  rw [List.mem_map]
  constructor
  ·rintro ⟨v,hv,e⟩
   rw [List.mem_filter] at hv
   simp only [Bool.and_eq_true,decide_eq_true_eq] at hv
   cases e
   exact ⟨hv.2.1,rfl,hv.2.2.1,hv.2.2.2⟩
  ·rintro ⟨hy,hz,hb,hp⟩
   refine ⟨y,List.mem_filter.2 ⟨mem_boxL hy fun i hi=>?_,by simp [hy,hp,← hz,hb]⟩,by rw [hz]⟩
   have h3:=h.coord hE (vat y) hi
   have h5:qf n f (vat y)*((fct (n - 1)*E ^ (n - 1):Nat):Int)≤nb*((fct (n - 1)*E ^ (n - 1):Nat):Int):=Int.mul_le_mul_of_nonneg_right om (Int.natCast_nonneg _)
   rcases Nat.lt_or_ge B (vat y i).natAbs with h7|h7
   ·exfalso
    have h8:(((vat y i).natAbs*(vat y i).natAbs:Nat):Int)=vat y i*vat y i:=by rw [Int.natCast_mul];exact Int.natAbs_mul_self
    have h9:(B+1)*(B+1)≤(vat y i).natAbs*(vat y i).natAbs:=Nat.mul_le_mul h7 h7
    have h10:(((B+1)*(B+1):Nat):Int)=((B:Int)+1)*((B:Int)+1):=by rw [Int.natCast_mul,Int.natCast_add];rfl
    omega
   ·exact h7
def hexa:List (List Int):=[[2,1],[1,2]]
def plane:List (List Int):=[[1,0],[0,1]]
theorem hexa_chk:chk hexa=0:=by kernel_rfl
theorem yAF:chk plane=0:=by kernel_rfl
theorem two_small {f:Nat→Nat→Int} {E:Nat} (h00:(f 0 0).natAbs≤E) (h01:(f 0 1).natAbs≤E) (h10:(f 1 0).natAbs≤E) (h11:(f 1 1).natAbs≤E):∀ i c,i < 2→c < 2→(f i c).natAbs≤E:=by
 intro i c hi hc
 rcases (show i=0∨i=1 by omega) with rfl|rfl <;> rcases (show c=0∨c=1 by omega) with rfl|rfl <;> assumption
theorem hexa_two:Shorts 2 (entry hexa) 2 [([0,1],2),([1,-1],2),([1,0],2)]:=by
 have h:Shorts 2 (entry hexa) 2 (boxS 2 (entry hexa) 2 2):=shorts_box (n:=2) (zC2 hexa_chk).pd (E:=2) (two_small (by decide) (by decide) (by decide) (by decide)) 2 2 (by decide)
 rw [show boxS 2 (entry hexa) 2 2=[([0,1],2),([1,-1],2),([1,0],2)] by kernel_rfl] at h
 exact h
theorem plane_25 {L:List (List Int × Int)} (hL:Shorts 2 (entry plane) 25 L):L.length=40:=by
 have h:Shorts 2 (entry plane) 25 (boxS 2 (entry plane) 25 5):=shorts_box (n:=2) (zC2 yAF).pd (E:=1) (two_small (by decide) (by decide) (by decide) (by decide)) 25 5 (by decide)
 rw [hL.unique h]
 have e:(boxS 2 (entry plane) 25 5).length=40:=by kernel_rfl
 exact e
set_option exponentiation.threshold 5000
theorem vat_neg (v:List Int) (i:Nat):vat (v.map fun z=>-z) i = -1*vat v i:=by
 unfold vat
 rw [List.getElem?_map]
 cases v[i]? <;> simp
theorem qf_neg (n:Nat) (f:Nat→Nat→Int) (v:List Int):qf n f (vat (v.map fun z=>-z))=qf n f (vat v):=by
 rw [show vat (v.map fun z=>-z)=fun i=>-1*vat v i from funext (vat_neg v)]
 unfold qf
 rw [zBI,zA8];omega
theorem firstP_neg:∀ v:List Int,(∃ x,x∈v∧x≠0)→firstP (v.map fun z=>-z) = !firstP v
 | [],h=>by obtain ⟨x,hx,_⟩:=h;cases hx
 | a :: s,h=>by
  by_cases h0:a=0
  ·subst h0
   have h1:=firstP_neg s (by
    obtain ⟨x,hx,hne⟩:=h
    rcases List.mem_cons.1 hx with rfl|hx
    ·exact absurd rfl hne
    ·exact ⟨x,hx,hne⟩)
   simpa [firstP] using h1
  ·have h1:¬ -a=0:=by omega
   simp only [List.map_cons,firstP,if_neg h0,if_neg h1]
   by_cases h2:0 < a
   ·rw [decide_eq_true h2,decide_eq_false om];rfl
   ·rw [decide_eq_false h2,decide_eq_true om];rfl
theorem qf_zero {n:Nat} {f:Nat→Nat→Int} {x:Nat→Int} (h:∀ i,i < n→x i=0):qf n f x=0:=by
 unfold qf bf
 exact zA5 fun i hi=>by rw [h i hi,Int.zero_mul]
theorem nonzero_ex {n:Nat} {f:Nat→Nat→Int} {v:List Int} (h:qf n f (vat v)≠0):∃ x,x∈v∧x≠0:=by
 refine Classical.byContradiction fun hc=>h (qf_zero fun i _=>?_)
 unfold vat
 cases hv:v[i]? with
 | none=>rfl
 | some z =>
  refine Classical.byContradiction fun hz=>hc ⟨z,List.mem_of_getElem? hv,hz⟩
theorem vec_zero {n:Nat} {f:Nat→Nat→Int} (h:Start n f) {v:List Int} (hv:v.length=n) (hq:qf n f (vat v)=0):v=List.replicate n 0:=by
 refine vec_ext hv (by simp) fun i hi=>?_
 have h1:=h.pd.coord (B:=16384) (fun i c hi hc=>h.small i c hi hc) (vat v) hi
 rw [hq,Int.zero_mul] at h1
 have h2:vat (List.replicate n 0) i=0:=by unfold vat;rw [List.getElem?_replicate,if_pos hi];rfl
 rw [h2]
 have h3:(vat v i).natAbs*(vat v i).natAbs=0:=by
  have:(((vat v i).natAbs*(vat v i).natAbs:Nat):Int)=vat v i*vat v i:=by rw [Int.natCast_mul];exact Int.natAbs_mul_self
  omega
 have h4:(vat v i).natAbs=0:=by rcases Nat.mul_eq_zero.1 h3 with h|h <;> exact h
 omega
theorem firstP_rep (n:Nat):firstP (List.replicate n 0)=false:=by
 induction n with
 | zero=>rfl
 | succ n ih=>rw [List.replicate_succ];exact ih
def Wide (B n:Nat) (f:Nat→Nat→Int) (nb:Int):Prop:=∀ x:Nat→Int,qf n f x≤nb→∀ i,i < n→(x i).natAbs≤B
theorem Start.wide {n:Nat} {f:Nat→Nat→Int} (h:Start n f) {nb:Int} (h0:0≤nb) (h1:nb≤4096):Wide (2 ^ 62) n f nb:=fun x hx i hi =>
 Nat.le_of_lt (x_sz h (r:=0) om (nb:=nb) (by rw [Qr_zero];show _≤nb*1;omega) h1 h0 hi om)
theorem shorts_pos {n:Nat} {f:Nat→Nat→Int} {nb:Int} {L:List (List Int × Int)} (h:Start n f) (hL:Shorts n f nb L) {q:List Int × Int} (hq:q∈L):1≤q.2:=by
 obtain ⟨h1,h2,h3,h4⟩:=(hL.mem q.1 q.2).1 hq
 have h5:=h.pd.qf_nonneg (vat q.1)
 rcases Int.lt_or_le 0 q.2 with h6|h6
 ·omega
 ·have h7:=vec_zero h h1 om
  rw [h7,firstP_rep] at h4
  cases h4
end Go.Proofs.YtdkgilioejdmeaaGreat
namespace Go.Proofs.YtdkgilioejdmeaaGreat
open Go.RowKit
def AllTells (n:Nat) (rows:List (List Int)) (nb:Int) (w:World) (e:Ending) (w':World):Prop :=
 ∃ (A:Option Addr) (k c:Nat) (z:Int),e = .returned (.tuple #[.slice A k c,.int .i64 z])∧((z≠0∧A=none∧k=0∧c=0)∨(z=0∧chk rows=0∧0≤nb∧nb≤4096∧∃ bs,k=bs.length∧k≤8192∧Shorts n (entry rows) nb (bs.map (·.2))∧SList w' w.heap.size n (.slice A k c) bs)) ∧
  (chk rows=0→0≤nb→nb≤4096→(∃ L,Shorts n (entry rows) nb L∧L.length≤8192)→z=0)
theorem yAE (A:Option Addr) (n c:Nat) (rows:List (List Int)) (nb:Int) (w:World) (hn:n=rows.length) (hr:IsRows w A rows) (hf:Fit64 rows) (hb0:-9223372036854775808≤nb) (hb1:nb≤9223372036854775807) :
  Calls Tryz.prog 18 #[.slice A n c,.int .i64 nb] w fun e w'=>Ext w w'∧AllTells n rows nb w e w':=by
 refine (all_any A n c rows nb w hn hr hf hb0 hb1).mono ?_
 rintro e w' ⟨hx,h⟩
 refine ⟨hx,?_⟩
 rcases h with ⟨h1,rfl⟩|⟨h1,h2,rfl⟩|⟨h1,h2,h3,L,hL,⟨h4,v,bs,rfl,h5,rfl⟩|⟨h4,rfl⟩⟩
 ·exact ⟨none,0,0,_,rfl,Or.inl ⟨h1,rfl,rfl,rfl⟩,fun h=>absurd h h1⟩
 ·exact ⟨none,0,0,2,rfl,Or.inl ⟨by decide,rfl,rfl,rfl⟩,fun _ h3 h4=>absurd ⟨h3,h4⟩ h2⟩
 ·obtain ⟨A',k',c',rfl,hk⟩:∃ A' k' c',v = .slice A' k' c'∧k'=bs.length:=by
   rcases h5.val with ⟨rfl,rfl⟩|⟨g,cap,rfl,_⟩
   ·exact ⟨_,_,_,rfl,rfl⟩
   ·exact ⟨_,_,_,rfl,rfl⟩
  exact ⟨A',k',c',0,rfl,Or.inr ⟨rfl,h1,h2,h3,bs,hk,by rw [hk];simpa using h4,hL,h5⟩,fun _ _ _ _=>rfl⟩
 ·refine ⟨none,0,0,9,rfl,Or.inl ⟨by decide,rfl,rfl,rfl⟩,fun _ _ _ ⟨M,hM,hM2⟩=>?_⟩
  rw [hL.unique hM] at h4
  omega
theorem number_any (A:Option Addr) (n c:Nat) (rows:List (List Int)) (nb:Int) (w:World) (hn:n=rows.length) (hr:IsRows w A rows) (hf:Fit64 rows) (hb0:-9223372036854775808≤nb) (hb1:nb≤9223372036854775807) (hc:chk rows=0) (h0:0≤nb) (h1:nb≤4096) (hk:∃ L,Shorts n (entry rows) nb L∧L.length≤8192) :
  Calls Tryz.prog 37 #[.slice A n c,.int .i64 nb] w fun e w'=>Ext w w'∧∃ L,Shorts n (entry rows) nb L∧e = .returned (.tuple #[.int .i64 (L.length:Nat),.int .i64 0]):=by
 have HA:=zH (yAE A n c rows nb w hn hr hf hb0 hb1)
 have HK:=zH hk
 have HC:=zH hc
 clear hr hf hn hk hc
 go_enter Tryz.func37,Tryz.ntmps37
 go_wp2_with (fail)
 refine HA.out.mono ?_
 rintro e w1 ⟨hx,A',k,c',z,rfl,h2,h3⟩
 obtain rfl:=h3 HC.out h0 h1 HK.out
 rcases h2 with ⟨h,_⟩|⟨_,_,_,_,bs,rfl,_,hS,_⟩
 ·exact absurd rfl h
 ·have HS:=zH hS
  have HX:=zH hx
  clear hS hx h3
  go_wp2
  exact bodyPost_ret (v:=.tuple #[.int .i64 (bs.length:Nat),.int .i64 0]) (by simp [results,Tryz.results37,go_sem]) rfl ⟨HX.out,_,HS.out,by simp⟩
theorem beyond_any (A:Option Addr) (n c:Nat) (rows:List (List Int)) (w:World) (hn:n=rows.length) (hr:IsRows w A rows) (hf:Fit64 rows) :
  Calls Tryz.prog 16 #[.slice A n c] w fun e w'=>∃ b,e = .returned (.bool b)∧w'=w:=by
 have HR:=zH hr
 have HF:=zH hf
 have HN:=zH hn
 have hn64:n≤140737488351232:=by rw [hn];exact hf.1
 clear hr hf hn
 go_enter Tryz.func16,Tryz.ntmps16
 go_wp2
 go_loopg [6] n (fun kk iv wk=>∃ i:Nat,kk+i=n∧iv = .int .i64 i∧wk=w)
 case atStart=>exact ⟨0,by omega,rfl,rfl⟩
 obtain ⟨i,hki,rfl,rfl⟩:=hrel
 by_cases hin:i < n
 ·obtain ⟨l,hl⟩:∃ l,rows[i]? = some l:=⟨_,List.getElem?_eq_getElem (by have:=HN.out;omega)⟩
  obtain ⟨b,off,rfl,hb,hc⟩:=HR.out (by have:=HN.out;omega)
  obtain ⟨R,cR,hcell,_,_⟩:=hc i l hl
  have hll:=(HF.out.2 l (List.mem_of_getElem? hl)).1
  have l1:=zAA hcell
  simp only at l1
  by_cases h:l.length > 100
  ·have hI:(l.length:Int) > 100:=by omega
   go_wp2
   exact bodyPost_ret (v:=.bool true) (by simp [results,Tryz.results16,go_sem]) rfl ⟨true,rfl,rfl⟩
  ·have hI:¬ (l.length:Int) > 100:=by omega
   go_wp2
   go_roundg (n - (i+1))
   case measure=>omega
   case rel=>exact ⟨i+1,by omega,by go_num,rfl⟩
 ·obtain rfl:n=i:=by omega
  go_wp2
  exact bodyPost_ret (v:=.bool (decide ((n:Int) > 100))) (by simp [results,Tryz.results16,go_sem]) rfl ⟨_,rfl,rfl⟩
theorem isRows_two {W:World} {b0 b1 b2:Nat} {x y z u:Int} (h0:Blk W b0 2 #[.int .i64 x,.int .i64 y]) (h1:Blk W b1 2 #[.int .i64 z,.int .i64 u]) (h2:Blk W b2 31 #[.slice (some ⟨b0,0,none⟩) 2 2,.slice (some ⟨b1,0,none⟩) 2 2]):IsRows W (some ⟨b2,0,none⟩) [[x,y],[z,u]]:=by
 intro _
 refine ⟨b2,0,rfl,h2.lt,fun i l hl=>?_⟩
 match i,hl with
 | 0,hl =>
  cases hl
  refine ⟨some ⟨b0,0,none⟩,2,h2.cell 0 rfl,Nat.le_refl _,fun _=>⟨b0,0,rfl,h0.lt,fun j z hj=>?_⟩⟩
  match j,hj with
  | 0,hj=>cases hj;exact h0.cell 0 rfl
  | 1,hj=>cases hj;exact h0.cell 1 rfl
 | 1,hl =>
  cases hl
  refine ⟨some ⟨b1,0,none⟩,2,h2.cell 1 rfl,Nat.le_refl _,fun _=>⟨b1,0,rfl,h1.lt,fun j z hj=>?_⟩⟩
  match j,hj with
  | 0,hj=>cases hj;exact h1.cell 0 rfl
  | 1,hj=>cases hj;exact h1.cell 1 rfl
theorem fit_two (x y z u:Int) (hx:x.natAbs≤1000) (hy:y.natAbs≤1000) (hz:z.natAbs≤1000) (hu:u.natAbs≤1000):Fit64 [[x,y],[z,u]]:=by
 refine ⟨by simp,fun l hl=>?_⟩
 simp only [List.mem_cons,List.not_mem_nil,or_false] at hl
 rcases hl with rfl|rfl
 ·refine ⟨by simp,fun a ha=>?_⟩
  simp only [List.mem_cons,List.not_mem_nil,or_false] at ha
  rcases ha with rfl|rfl <;> omega
 ·refine ⟨by simp,fun a ha=>?_⟩
  simp only [List.mem_cons,List.not_mem_nil,or_false] at ha
  rcases ha with rfl|rfl <;> omega
theorem three_of {bs:List SV} {p q r:List Int × Int} (h:bs.map (·.2)=[p,q,r]):∃ a b c:Nat,bs=[(a,p),(b,q),(c,r)]:=by
 match bs,h with
 | [(a,p'),(b,q'),(c,r')],h=>simp only [List.map_cons,List.map_nil,List.cons.injEq,and_true] at h;obtain ⟨rfl,rfl,rfl⟩:=h;exact ⟨a,b,c,rfl⟩
set_option maxHeartbeats 4000000 in
set_option maxRecDepth 100000 in
theorem works15_any (w:World):Calls Tryz.prog 15 #[] w fun e w'=>e = .returned (.bool true)∧Ext w w':=by
 obtain ⟨b0,hb0⟩:∃ b,w.heap.size=b:=⟨_,rfl⟩
 obtain ⟨b1,hb1⟩:∃ b,b0+1=b:=⟨_,rfl⟩
 obtain ⟨b2,hb2⟩:∃ b,b0+1+1=b:=⟨_,rfl⟩
 obtain ⟨W3,hW3⟩:∃ W3,((w.alloc (.cells #[.int .i64 2,.int .i64 1] 2)).alloc (.cells #[.int .i64 1,.int .i64 2] 2)).alloc (.cells #[.slice (some ⟨b0,0,none⟩) 2 2,.slice (some ⟨b1,0,none⟩) 2 2] 31)=W3:=⟨_,rfl⟩
 have HX3:Hid (Ext w W3):=by rw [← hW3];exact (((Ext.refl _).alloc _).alloc _).alloc _
 have HR3:Hid (IsRows W3 (some ⟨b2,0,none⟩) hexa):=by
  refine isRows_two (b0:=b0) (b1:=b1) ?_ ?_ ?_
  ·rw [← hW3,← hb0];exact Blk.al (Blk.al (Blk.new _ _ _))
  ·rw [← hW3,← hb1,← hb0];exact Blk.al (Blk.at (by simp))
  ·rw [← hW3,← hb2,← hb0];exact Blk.at (by simp)
 have HA:=zH (yAE (some ⟨b2,0,none⟩) 2 2 hexa 2 W3 rfl HR3.out (fit_two _ _ _ _ (by decide) (by decide) (by decide) (by decide)) (by decide) (by decide))
 have hb2':b1+1=b2:=by omega
 go_enter Tryz.func15,Tryz.ntmps15
 go_wp2_with (fail)
 refine HA.out.mono ?_
 rintro e w1 ⟨hx1,A',k,c',z,rfl,h2,h3⟩
 obtain rfl:=h3 hexa_chk (by decide) (by decide) ⟨_,hexa_two,by decide⟩
 rcases h2 with ⟨h,_⟩|⟨_,_,_,_,bs,rfl,_,hS,hL⟩
 ·exact absurd rfl h
 obtain ⟨x0,x1,x2,rfl⟩:=three_of (hS.unique hexa_two)
 have hL2:=zH hL
 obtain ⟨g,rfl⟩:∃ g,A'=some ⟨g,0,none⟩:=by
  rcases hL.val with ⟨h,_⟩|⟨g,cap,h,_⟩
  ·cases h
  ·cases h;exact ⟨_,rfl⟩
 have HX1:=zH (HX3.out.trans hx1)
 have hval:TB w1 33 g∧(∀ i p,[(x0,[0,1],2),(x1,[1,-1],2),(x2,[1,0],2)][i]? = some p→w1.cell? ⟨g,i*2,none⟩=some (.slice (some ⟨p.1,0,none⟩) 2 2)∧w1.cell? ⟨g,i*2+1,none⟩=some (.int .i64 p.2.2)):=by
  rcases hL.val with ⟨h,_⟩|⟨g',cap,h,_,_,h4,h5,_⟩
  ·cases h
  ·cases h;exact ⟨h4,h5⟩
 have HC0:=zH (hval.2 0 _ rfl).1
 have HC2:=zH (hval.2 1 _ rfl).1
 have HC4:=zH (hval.2 2 _ rfl).1
 have HC5:=zH (hval.2 2 _ rfl).2
 have HR0:=zH (hL.row (x0,[0,1],2) (by simp)).1
 have HR1:=zH (hL.row (x1,[1,-1],2) (by simp)).1
 have HR2:=zH (hL.row (x2,[1,0],2) (by simp)).1
 have hlen:3≤c':=by
  rcases hL.val with ⟨h,_⟩|⟨g',cap,h,h2,_⟩
  ·cases h
  ·cases h;simpa using h2
 clear hx1 hval hL h3 hS hL2 HA HR3 hW3 hb0 hb1 hb2 hb2'
 obtain ⟨d0,hd0⟩:∃ b,w1.heap.size=b:=⟨_,rfl⟩
 obtain ⟨d1,hd1⟩:∃ b,d0+1=b:=⟨_,rfl⟩
 obtain ⟨d2,hd2⟩:∃ b,d0+1+1=b:=⟨_,rfl⟩
 obtain ⟨W5,hW5⟩:∃ W3,((w1.alloc (.cells #[.int .i64 1,.int .i64 0] 2)).alloc (.cells #[.int .i64 0,.int .i64 1] 2)).alloc (.cells #[.slice (some ⟨d0,0,none⟩) 2 2,.slice (some ⟨d1,0,none⟩) 2 2] 31)=W3:=⟨_,rfl⟩
 have HX5:Hid (Ext w1 W5):=by rw [← hW5];exact (((Ext.refl _).alloc _).alloc _).alloc _
 have HR5:Hid (IsRows W5 (some ⟨d2,0,none⟩) plane):=by
  refine isRows_two (b0:=d0) (b1:=d1) ?_ ?_ ?_
  ·rw [← hW5,← hd0];exact Blk.al (Blk.al (Blk.new _ _ _))
  ·rw [← hW5,← hd1,← hd0];exact Blk.al (Blk.at (by simp))
  ·rw [← hW5,← hd2,← hd0];exact Blk.at (by simp)
 have HNu:=zH (number_any (some ⟨d2,0,none⟩) 2 2 plane 25 W5 rfl HR5.out (fit_two _ _ _ _ (by decide) (by decide) (by decide) (by decide)) (by decide) (by decide) yAF (by decide) (by decide) (by
  obtain ⟨L,hL⟩:=shorts_ex (n:=2) (zC2 yAF) 25
  exact ⟨L,hL,by rw [plane_25 hL];decide⟩))
 have hd2':d1+1=d2:=by omega
 go_wp2_with (fail)
 refine HNu.out.mono ?_
 rintro e w2 ⟨hx2,L,hL,rfl⟩
 rw [plane_25 hL]
 have hx:=HX5.out.trans hx2
 have c0:w2.cell? ⟨g,0,none⟩=some (.slice (some ⟨x0,0,none⟩) 2 2):=hx.cell HC0.out
 have c2:w2.cell? ⟨g,2,none⟩=some (.slice (some ⟨x1,0,none⟩) 2 2):=hx.cell HC2.out
 have c4:w2.cell? ⟨g,4,none⟩=some (.slice (some ⟨x2,0,none⟩) 2 2):=hx.cell HC4.out
 have c5:w2.cell? ⟨g,5,none⟩=some (.int .i64 2):=hx.cell HC5.out
 have r00:w2.cell? ⟨x0,0,none⟩=some (.int .i64 0):=(HR0.out.ext hx).cell 0 (by decide)
 have r01:w2.cell? ⟨x0,1,none⟩=some (.int .i64 1):=(HR0.out.ext hx).cell 1 (by decide)
 have r10:w2.cell? ⟨x1,0,none⟩=some (.int .i64 1):=(HR1.out.ext hx).cell 0 (by decide)
 have r11:w2.cell? ⟨x1,1,none⟩=some (.int .i64 (-1)):=(HR1.out.ext hx).cell 1 (by decide)
 have r21:w2.cell? ⟨x2,1,none⟩=some (.int .i64 0):=(HR2.out.ext hx).cell 1 (by decide)
 have HX2:=zH (HX1.out.trans hx)
 have l0:=zAA c0
 have l1:=zAA r00
 have l2:=zAA r10
 have l3:=zAA r21
 simp only at l0 l1 l2 l3
 simp only [List.length_cons,List.length_nil,Nat.reduceAdd]
 clear hx hx2 hL HC0 HC2 HC4 HC5 HR0 HR1 HR2 HNu HR5 HX5 hW5 hd0 hd1 hd2 hd2' HX1 HX3
 go_wp2
 exact bodyPost_ret (v:=.bool true) (by simp [results,Tryz.results15,go_sem]) rfl ⟨rfl,HX2.out⟩
theorem wrapQ {z:Int} (h:-9223372036854775808≤z∧z≤9223372036854775807):IntKind.i64.wrap z=z:=by
 simp only [IntKind.wrap,IntKind.bits,IntKind.signed,Bool.true_and,decide_eq_true_eq,ge_iff_le]
 (repeat split) <;> omega
theorem first_at:∀ v:List Int,firstP v=true→∃ f,f < v.length∧(∀ a,a < f→vat v a=0)∧0 < vat v f
 | [],h=>by cases h
 | a :: s,h=>by
  by_cases h0:a=0
  ·subst h0
   obtain ⟨f,h1,h2,h3⟩:=first_at s (by simpa [firstP] using h)
   refine ⟨f+1,by simpa using h1,fun b hb=>?_,h3⟩
   cases b with
   | zero=>rfl
   | succ b=>exact h2 b om
  ·have h1:0 < a:=by simpa [firstP,h0] using h
   exact ⟨0,by simp,fun b hb=>by omega,h1⟩
theorem lex_at:∀ (n:Nat) (u v:List Int),u.length=n→v.length=n→lexL u v→∃ k,k < n∧(∀ a,a < k→vat u a=vat v a)∧vat u k < vat v k
 | 0,u,v,hu,hv,h=>by
  rw [List.eq_nil_of_length_eq_zero hu,List.eq_nil_of_length_eq_zero hv] at h
  exact absurd h (lexL_irr _)
 | n+1,a :: u,b :: v,hu,hv,h=>by
  unfold lexL lexC at h
  by_cases h1:a < b
  ·exact ⟨0,by omega,fun c hc=>by omega,h1⟩
  ·rw [if_neg h1] at h
   by_cases h2:b < a
   ·rw [if_pos h2] at h;omega
   ·rw [if_neg h2] at h
    obtain ⟨k,h3,h4,h5⟩:=lex_at n u v (by simpa using hu) (by simpa using hv) h
    refine ⟨k+1,by omega,fun c hc=>?_,h5⟩
    cases c with
    | zero=>show a=b;omega
    | succ c=>exact h4 c om
theorem nrow_is {w:World} {b n:Nat} {v:List Int} (h:NRow w b n (vat v)) (hv:v.length=n):IsRow w (some ⟨b,0,none⟩) v:=fun _=>by
 refine ⟨b,0,rfl,h.typ.lt,fun j z hj=>?_⟩
 have hjl:=(List.getElem?_eq_some_iff.1 hj).1
 rw [Nat.zero_add,h.cell j om,vat_at hj]
theorem short_fit {n:Nat} {f:Nat→Nat→Int} (hs:Start n f) {v:List Int} (hv:v.length=n) (h:qf n f (vat v)≤4096):FitV v:=fun z hz=>by
 obtain ⟨j,hj⟩:=List.mem_iff_getElem?.1 hz
 have hjl:=(List.getElem?_eq_some_iff.1 hj).1
 have h1:=hs.wide (nb:=4096) om om (vat v) h j om
 rw [vat_at hj] at h1
 omega
theorem norm_short {ra:List (List Int)} (hc:chk ra=0) {v:List Int} {z:Int} (hv:v.length=ra.length) (hz:z=qf ra.length (entry ra) (vat v)) (h0:0≤z) (h1:z≤4096):normR ra v=(z,0):=by
 unfold normR dotR
 rw [if_neg (by simp [hc]),if_pos ⟨hv,hv⟩,← hz,if_pos (by unfold i64B;exact decide_eq_true om)]
theorem norm_out {ra:List (List Int)} {v:List Int} {z:Int} (h:normR ra v=(z,0)) (h1:1≤z):v.length=ra.length∧qf ra.length (entry ra) (vat v)=z:=by
 unfold normR dotR at h
 by_cases hc:chk ra=0
 ·rw [if_neg (by simp [hc])] at h
  by_cases hl:v.length=ra.length
  ·rw [if_pos ⟨hl,hl⟩] at h
   split at h
   ·injection h with h2 _;exact ⟨hl,h2⟩
   ·injection h with _ h2;cases h2
  ·rw [if_neg fun e=>hl e.1] at h;injection h with _ h2;cases h2
 ·rw [if_pos hc] at h;injection h with h2 _;omega
theorem not_seen {n:Nat} {f:Nat→Nat→Int} {nb:Int} {bs:List SV} (hS:Shorts n f nb (bs.map (·.2))) (hn:n≤8) {i:Nat} {q:SV} (hq:bs[i]? = some q):seenB ((bs.take i).map (·.2.1)) q.2.1=false:=by
 have hlen:∀ p,p∈bs→p.2.1.length=n:=fun p hp=>((hS.mem p.2.1 p.2.2).1 (List.mem_map.2 ⟨p,hp,rfl⟩)).1
 cases hb:seenB ((bs.take i).map (·.2.1)) q.2.1 with
 | false=>rfl
 | true =>
  exfalso
  have h1:=(yAI (n:=n) (fun u hu=>by obtain ⟨p,hp,rfl⟩:=List.mem_map.1 hu;exact hlen p (List.mem_of_mem_take hp)) (hlen q (List.mem_of_getElem? hq)) hn).1 hb
  obtain ⟨p,hp,he⟩:=List.mem_map.1 h1
  obtain ⟨j,hj⟩:=List.mem_iff_getElem?.1 hp
  have hjl:=(List.getElem?_eq_some_iff.1 hj).1
  rw [List.length_take] at hjl
  rw [List.getElem?_take_of_lt om] at hj
  have hs:=hS.sorted
  rw [List.pairwise_map] at hs
  have hil:=(List.getElem?_eq_some_iff.1 hq).1
  have:=List.pairwise_iff_getElem.1 hs j i om hil om
  rw [(List.getElem?_eq_some_iff.1 hj).2,(List.getElem?_eq_some_iff.1 hq).2] at this
  rw [he] at this
  exact lexL_irr _ this
theorem one_seen {n:Nat} {f:Nat→Nat→Int} {nb:Int} {bs:List SV} (hS:Shorts n f nb (bs.map (·.2))) (hn:n≤8) {x:List Int} (hx:x.length=n) (h1:1≤qf n f (vat x)) (h2:qf n f (vat x)≤nb):seenB (bs.map (·.2.1)) x = ! seenB (bs.map (·.2.1)) (x.map fun z=>-z):=by
 have hlen:∀ u,u∈bs.map (·.2.1)→u.length=n:=fun u hu=>by
  obtain ⟨p,hp,rfl⟩:=List.mem_map.1 hu
  exact ((hS.mem p.2.1 p.2.2).1 (List.mem_map.2 ⟨p,hp,rfl⟩)).1
 have hmem:∀ y:List Int,y.length=n→1≤qf n f (vat y)→qf n f (vat y)≤nb→seenB (bs.map (·.2.1)) y=firstP y:=fun y hy k1 k2=>by
  cases hp:firstP y with
  | true =>
   refine (yAI hlen hy hn).2 ?_
   obtain ⟨q,hq,e⟩:=List.mem_map.1 ((hS.mem y _).2 ⟨hy,rfl,k2,hp⟩)
   exact List.mem_map.2 ⟨q,hq,by rw [e]⟩
  | false =>
   cases hb:seenB (bs.map (·.2.1)) y with
   | false=>rfl
   | true =>
    obtain ⟨q,hq,e⟩:=List.mem_map.1 ((yAI hlen hy hn).1 hb)
    have:=((hS.mem q.2.1 q.2.2).1 (List.mem_map.2 ⟨q,hq,rfl⟩)).2.2.2
    rw [e,hp] at this;cases this
 rw [hmem x hx h1 h2,hmem (x.map fun z=>-z) (by simpa using hx) (by rw [qf_neg];exact h1) (by rw [qf_neg];exact h2),firstP_neg x (nonzero_ex (n:=n) (f:=f) om),Bool.not_not]
theorem neg_vat {x:List Int} (j:Nat):vat (x.map fun z=>-z) j = - vat x j:=by rw [vat_neg];omega
theorem look_op {P:Program} {ρ : Operand→Value} {o:Oper} {t:TypeId} {x ix:Operand} {ok:Bool} (ho:o.op = .lookup t x ix ok) {b:Value} {w:World}
  (h:(Instr.lookup t (ρ x) (ρ ix) ok).run P w = .ok b w):(execOp ρ o).run P w = .ok (.value b) w:=by
 unfold execOp
 rw [ho]
 simp only [Sem.run_bind,h,Sem.run_pure,Result.andThen]
set_option maxHeartbeats 8000000 in
set_option maxRecDepth 100000 in
theorem shortWhole_any (A X:Option Addr) (n lx c cx:Nat) (ra:List (List Int)) (xs:List Int) (nb:Int) (w:World) (hn:n=ra.length) (hlx:lx=xs.length) (hra:IsRows w A ra) (hrx:IsRow w X xs) (hfa:Fit64 ra) (hfx:xs.length≤140737488351232∧FitV xs) (hb0:-9223372036854775808≤nb) (hb1:nb≤9223372036854775807) :
  Calls Tryz.prog 4 #[.slice A n c,.int .i64 nb,.slice X lx cx] w fun e w'=>e = .returned (.bool true)∧Ext w w':=by
 have HW:=zH works15_any
 have HBa:=zH (fun W (hx:Ext w W)=>beyond_any A n c ra W hn (hra.ext hx) hfa)
 have HAll:=zH (fun W (hx:Ext w W)=>yAE A n c ra nb W hn (hra.ext hx) hfa hb0 hb1)
 have HNo:=zH (fun W (Y:Option Addr) (ly cy:Nat) (ys:List Int) (hx:Ext w W) (rY:IsRow W Y ys) (hl:ly=ys.length) (hl1:ly≤140737488351232) (hf:FitV ys)=>norm_any A Y n c ly cy ra ys W hn (hra.ext hx) hfa rY hl hl1 hf)
 have hn64:n≤140737488351232:=by rw [hn];exact hfa.1
 have hlx64:lx≤140737488351232:=by rw [hlx];exact hfx.1
 have HN:=zH hn
 have HLX:=zH hlx
 have HRX:=zH hrx
 have HFX:=zH hfx.2
 have hmm:=@run_makeMap Tryz.prog
 clear hn hlx hra hrx hfa hfx
 obtain ⟨R,hR⟩:∃ R:Ending→World→Prop,(fun e w'=>e = .returned (.bool true)∧Ext w w')=R:=⟨_,rfl⟩
 have HR:Hid (∀ w',Ext w w'→R (.returned (.bool true)) w'):=fun w' h=>by rw [← hR];exact ⟨rfl,h⟩
 rw [hR]
 clear hR
 go_enter Tryz.func4,Tryz.ntmps4
 go_wp2_with (fail)
 refine (HW.out _).mono ?_
 rintro e w1 ⟨rfl,hx⟩
 have HX1:=zH hx
 clear hx
 go_wp2_with (fail)
 refine (HBa.out _ HX1.out).mono ?_
 rintro e w2 ⟨ba,rfl,rfl⟩
 cases ba with
 | true =>
  go_wp2_with (fail)
  refine (HW.out _).mono ?_
  rintro e w3 ⟨rfl,hx⟩
  have HX3:=zH (HX1.out.trans hx)
  clear hx
  go_wp2
  first
  | exact HR.out _ HX3.out
  | exact bodyPost_ret (v:=.bool true) (by simp [results,Tryz.results4,go_sem]) rfl (HR.out _ HX3.out)
 | false =>
 clear HBa HW
 go_wp2_with (fail)
 refine (HAll.out _ HX1.out).mono ?_
 rintro e w5 ⟨hx,Al,k,cl,z,rfl,h2,_⟩
 have HX5:=zH (HX1.out.trans hx)
 clear hx HAll
 rcases h2 with ⟨hz,rfl,rfl,rfl⟩|⟨rfl,hcs,hn0,hn1,bs,rfl,hk8,hS,hL⟩
 ·go_wp2
  first
  | exact HR.out _ HX5.out
  | exact bodyPost_ret (v:=.bool true) (by simp [results,Tryz.results4,go_sem]) rfl (HR.out _ HX5.out)
 have hn8:n≤8:=by rw [HN.out];exact (zCp hcs).2.1
 have HSt:Hid (Start n (entry ra)):=by have:=zC2 hcs;rwa [← HN.out] at this
 have HCs:=zH hcs
 have HS:=zH hS
 have HLs:=zH hL
 obtain ⟨W6,hW6⟩:∃ W6,w5.alloc (.map #[] 0)=W6:=⟨_,rfl⟩
 obtain ⟨B,hB⟩:∃ B,w5.heap.size=B:=⟨_,rfl⟩
 have HSeen:Hid (Seen W6 B []):=by rw [← hW6,← hB];exact Seen.new w5
 have hx6:Ext w5 W6:=by rw [← hW6];exact (Ext.refl _).alloc _
 have HX6:=zH hx6
 have hBlo:w5.heap.size≤B:=by omega
 clear hcs hS hL hx6
 go_wp2
 (try rw [hW6])
 (try rw [hB])
 clear hW6 hB hmm
 go_loopg [40] bs.length (fun kk iv wk=>∃ i:Nat,kk+i=bs.length∧iv = .int .i64 i∧Hid (Seen wk B ((bs.take i).map (·.2.1)))∧Hid (Ext w5 wk))
 case atStart=>exact ⟨0,by omega,rfl,HSeen,HX6⟩
 clear HSeen HX6
 obtain ⟨i,hki,rfl,HSn,HX⟩:=hrel
 by_cases hin:i < bs.length
 ·skip
  obtain ⟨gs,rfl,hcs2,hcell⟩:=HLs.out.slice rfl om
  obtain ⟨q,hq⟩:∃ q,bs[i]? = some q:=⟨_,List.getElem?_eq_getElem hin⟩
  have c0:=HX.out.cell (hcell i q hq).1
  have c1:=HX.out.cell (hcell i q hq).2
  have HCell:=zH hcell
  have hq2:q.2∈bs.map (·.2):=List.mem_map.2 ⟨q,List.mem_of_getElem? hq,rfl⟩
  obtain ⟨hvl,hvz,hvb,hvf⟩:=(HS.out.mem q.2.1 q.2.2).1 hq2
  have hpos:=shorts_pos HSt.out HS.out hq2
  have hrow:=(HLs.out.row q (List.mem_of_getElem? hq)).1
  have hns:=not_seen HS.out hn8 hq
  obtain ⟨f0,hf0,hfz,hfp⟩:=first_at q.2.1 hvf
  have hprev:∀ p,bs[i - 1]? = some p→0 < i→∃ k,k < n∧(∀ a,a < k→vat p.2.1 a=vat q.2.1 a)∧vat p.2.1 k < vat q.2.1 k:=fun p hp h0=>by
   have hpl:=(List.getElem?_eq_some_iff.1 hp).1
   have hs:=HS.out.sorted
   rw [List.pairwise_map] at hs
   have h1:=List.pairwise_iff_getElem.1 hs (i - 1) i hpl hin om
   rw [(List.getElem?_eq_some_iff.1 hp).2,(List.getElem?_eq_some_iff.1 hq).2] at h1
   exact lex_at n _ _ ((HS.out.mem p.2.1 p.2.2).1 (List.mem_map.2 ⟨p,List.mem_of_getElem? hp,rfl⟩)).1 hvl h1
  have hnext:(bs.take (i+1)).map (·.2.1)=(bs.take i).map (·.2.1) ++ [q.2.1]:=by rw [List.take_add_one,hq,List.map_append];rfl
  obtain ⟨v,hv⟩:∃ v,q.2.1=v:=⟨_,rfl⟩
  obtain ⟨z,hz⟩:∃ z,q.2.2=z:=⟨_,rfl⟩
  obtain ⟨qb,hqb⟩:∃ z,q.1=z:=⟨_,rfl⟩
  obtain ⟨S,hSS⟩:∃ S,(bs.take i).map (·.2.1)=S:=⟨_,rfl⟩
  have hSl:S.length≤8192:=by rw [← hSS,List.length_map,List.length_take];omega
  rw [hv] at hvl hvz hvf hrow hns hf0 hfz hfp hprev hnext
  rw [hz] at c1 hvz hvb hpos
  rw [hqb] at c0 hrow
  rw [hSS] at HSn hns hnext
  have hfit:FitV v:=short_fit HSt.out hvl om
  have hnorm:normR ra v=(z,0):=norm_short HCs.out (by rw [hvl,HN.out]) (by rw [hvz,HN.out]) om om
  have HRow:=zH (hrow.ext HX.out)
  have HVl:=zH hvl
  have HFit:=zH hfit
  have HNorm:=zH hnorm
  have HNs:=zH hns
  have HNext:=zH hnext
  have HFz:=zH hfz
  have HPrev:=zH hprev
  have HKI:=zH hki
  have hf0n:f0 < n:=by omega
  have l0:=zAA c0
  simp only at l0
  clear hcell hq hq2 hvl hvz hvf hrow hns hfz hprev hnext hv hz hqb hSS hfit hnorm hki hf0
  go_upto_region 10 with (fail)
  obtain ⟨W1,hW1⟩:∃ W1,wr.alloc (.cells #[.slice (some ⟨qb,0,none⟩) n n,.int .i64 z] 33)=W1:=⟨_,rfl⟩
  obtain ⟨b11,hb11⟩:∃ b,wr.heap.size=b:=⟨_,rfl⟩
  have hx1:Ext wr W1:=by rw [← hW1];exact (Ext.refl _).alloc _
  have HK11:Hid (Blk W1 b11 33 #[.slice (some ⟨qb,0,none⟩) n n,.int .i64 z]):=by rw [← hW1,← hb11];exact Blk.new _ _ _
  have HX1':=zH (HX.out.trans hx1)
  have HRow1:=zH (HRow.out.ext hx1)
  have HSn1:=zH (HSn.out.ext hx1)
  have HXq:=zH hx1
  rw [hW1,hb11]
  have d0:=HK11.out.cell 0 rfl
  have d1:=HK11.out.cell 1 rfl
  have l11:=HK11.out.lt
  have HNorm1:=zH (HNo.out W1 (some ⟨qb,0,none⟩) n n v (HX5.out.trans HX1'.out) (nrow_is HRow1.out HVl.out) HVl.out.symm om HFit.out)
  rw [HNorm.out] at HNorm1
  clear hW1 hb11 hx1 c0 c1 l0
  go_wp2_with (fail)
  refine HNorm1.out.mono ?_
  rintro e wa ⟨rfl,hx⟩
  replace HK11:=zH (HK11.out.ext hx)
  have HXa:=zH (HXq.out.trans hx)
  have HRowA:=zH (HRow1.out.ext hx)
  have HSnA:=zH (HSn1.out.ext hx)
  replace d0:=hx.cell d0
  replace d1:=hx.cell d1
  have l11:=HK11.out.lt
  have hzn:¬ z < 1:=by omega
  have hzb:¬ z > nb:=by omega
  have HKey:=zH (key_any qb n v wa HRowA.out HVl.out om)
  clear hx HNorm1 HRow1 HSn1 HXq
  go_wp2_with (fail)
  refine HKey.out.mono ?_
  rintro e wb ⟨rfl,hx⟩
  replace HK11:=zH (HK11.out.ext hx)
  have HXb:=zH (HXa.out.trans hx)
  have HRowB:=zH (HRowA.out.ext hx)
  have HSnB:=zH (HSnA.out.ext hx)
  replace d0:=hx.cell d0
  replace d1:=hx.cell d1
  have l11:=HK11.out.lt
  clear hx HKey HXa HRowA HSnA
  have hlk:=HSnB.out.look HFit.out
  rw [HNs.out] at hlk
  go_wp2
  clear hlk
  go_loopg [14] f0 (fun kk jv wj=>∃ j:Nat,kk+j=f0∧jv = .int .i64 j∧wj=wb)
  case atStart=>exact ⟨0,by omega,rfl,rfl⟩
  obtain ⟨j,hkj,rfl,rfl⟩:=hrel
  have cj:=HRowB.out.cell j om
  have lj:=zAA cj
  simp only at lj
  have HKJ:=zH hkj
  by_cases hjf:j < f0
  ·rw [HFz.out j hjf] at cj
   clear hkj
   go_wp2
   go_roundg (f0 - (j+1))
   case measure=>have:=HKJ.out;omega
   case rel=>exact ⟨j+1,by have:=HKJ.out;omega,by go_num,rfl⟩
  obtain rfl:f0=j:=by omega
  obtain ⟨p0,hp0⟩:∃ p,vat v f0=p:=⟨_,rfl⟩
  rw [hp0] at cj hfp
  have hp1:¬ p0=0:=by omega
  have hp2:¬ p0 < 0:=by omega
  have HKeyB:=zH (key_any qb n v wr HRowB.out HVl.out om)
  clear hp0 hkj HKJ hjf
  go_wp2_with (fail)
  refine HKeyB.out.mono ?_
  rintro e wc ⟨rfl,hx⟩
  have HXc:=zH (HXb.out.trans hx)
  have HRowC:=zH (HRowB.out.ext hx)
  have HSnC:=zH (HSnB.out.ext hx)
  have HK11c:=zH (HK11.out.ext hx)
  replace d0:=hx.cell d0
  replace d1:=hx.cell d1
  have l11:=HK11c.out.lt
  clear hx HKeyB cj lj
  go_wp2_with (at_mapUpdate;refine yAD rfl _ _ _ rfl B S v rfl HSnC.out rfl rfl HFit.out om ?_)
  intro wd hseen hgrow
  have HSnD:Hid (Seen wd B ((bs.take (i+1)).map (·.2.1))):=by rw [HNext.out];exact hseen
  have HXd:Hid (Ext w5 wd):=(HX.out.trans HXc.out).grown hgrow (fun k hk=>by cases hk;exact hBlo)
  have hkeep:∀ b,b≠B→b < wc.heap.size→wd.heap[b]? = wc.heap[b]?:=fun b hb hl=>hgrow.block b hl (by intro e;cases e;exact hb rfl)
  by_cases hi0:i=0
  case pos =>
   subst hi0
   clear hseen hgrow hkeep HSnC HXc HRowC HK11c
   go_wp2
   go_roundg (bs.length - (0+1))
   case measure=>have:=HKI.out;omega
   case rel=>exact ⟨0+1,by have:=HKI.out;omega,by go_num,HSnD,HXd⟩
  obtain ⟨p,hp⟩:∃ p,bs[i - 1]? = some p:=⟨_,List.getElem?_eq_getElem om⟩
  obtain ⟨k0,hk0n,hkeq,hklt⟩:=HPrev.out p hp om
  have HKeq:=zH hkeq
  have hrowp:=(HLs.out.row p (List.mem_of_getElem? hp)).1
  have e0:wd.cell? ⟨gs,(i - 1)*2,none⟩=some (.slice (some ⟨p.1,0,none⟩) n n):=HXd.out.cell (HCell.out (i - 1) p hp).1
  have HRowP:=zH (hrowp.ext HXd.out)
  have hne11:b11≠B:=by
   intro e
   have h1:=HSnC.out.lt
   obtain ⟨D,⟨es,clock,hb,_⟩,_⟩:=HSnC.out
   have h2:=HK11c.out
   unfold Blk at h2
   rw [e,hb] at h2
   cases h2
  have d0d:wd.cell? ⟨b11,0,none⟩=some (.slice (some ⟨qb,0,none⟩) n n):=by rw [zBB (hkeep b11 hne11 HK11c.out.lt)];exact d0
  have HRowD:Hid (NRow wd qb n (vat v)):=by
   have h1:=HRowC.out
   refine h1.keep (hkeep qb ?_ h1.typ.lt)
   intro e
   obtain ⟨D,⟨es,clock,hb,_⟩,_⟩:=HSnC.out
   obtain ⟨cs,fz,h2⟩:=h1.typ
   rw [e,hb] at h2
   cases h2
  obtain ⟨pb,hpb⟩:∃ b,p.1=b:=⟨_,rfl⟩
  obtain ⟨u,hu⟩:∃ u,p.2.1=u:=⟨_,rfl⟩
  rw [hpb] at e0 HRowP
  rw [hu] at HRowP HKeq hklt
  have hi1:(1:Int)≤(i:Int):=by omega
  obtain ⟨i1,hi1e⟩:∃ j,i - 1=j:=⟨_,rfl⟩
  have hiI:(i:Int) - 1=(i1:Int):=by omega
  rw [hi1e] at e0
  have lg:=zAA e0
  have l11d:=zAA d0d
  simp only at lg l11d
  have hpos0:(i:Int) > 0:=by omega
  have hi1l:i1 < bs.length:=by omega
  have hwi:IntKind.i64.wrap (i1:Int)=(i1:Int):=wrapQ om
  clear hseen hgrow hkeep HSnC HXc HRowC HK11c hp hkeq hrowp hpb hu d0 d1 l11 hi1e
  go_wp2
  go_loopg [15] k0 (fun kk jv wj=>∃ j:Nat,kk+j=k0∧jv = .int .i64 j∧Hid (Ext wd wj))
  case atStart=>exact ⟨0,by omega,rfl,Ext.refl _⟩
  obtain ⟨j,hkj,rfl,HXj⟩:=hrel
  have cu:=(HRowP.out.ext HXj.out).cell j om
  have cv:=(HRowD.out.ext HXj.out).cell j om
  have e0j:=HXj.out.cell e0
  have d0j:=HXj.out.cell d0d
  have lu:=zAA cu
  have lv:=zAA cv
  have lg:=zAA e0j
  have l11:=zAA d0j
  simp only at lu lv lg l11
  have HKJ:=zH hkj
  have hjn:j < n:=by omega
  obtain ⟨pv,hpv⟩:∃ z,vat v j=z:=⟨_,rfl⟩
  rw [hpv] at cv
  by_cases hjk:j < k0
  ·skip
   rw [HKeq.out j hjk,hpv] at cu
   clear hkj hpv
   go_upto_region 21 with (fail)
   have HKeepT:=zH (fun (w':World) (hx:Ext wr w')=>(show w'.cell? ⟨gs,i1*2,none⟩=some (.slice (some ⟨pb,0,none⟩) n n)∧w'.cell? ⟨b11,0,none⟩=some (.slice (some ⟨qb,0,none⟩) n n)∧w'.cell? ⟨pb,j,none⟩=some (.int .i64 pv)∧w'.cell? ⟨qb,j,none⟩=some (.int .i64 pv) from ⟨hx.cell e0j,hx.cell d0j,hx.cell cu,hx.cell cv⟩))
   refine rU HKeepT [] [] 15 (fun hH hC=>?_)
   revert hC
   refine tk 0 15 hH ?_
   refine tk 1 15 hH ?_
   refine tk 2 15 hH ?_
   refine tk 3 15 hH ?_
   refine tk 4 15 hH ?_
   refine tk 5 15 hH ?_
   refine tk 6 15 hH ?_
   refine tk 7 15 hH ?_
   refine tk 8 15 hH ?_
   refine tk 9 15 hH ?_
   refine tk 10 15 hH ?_
   refine tk 11 15 hH ?_
   refine tk 12 15 hH ?_
   refine tk 13 15 hH ?_
   refine tk 14 15 hH ?_
   intro hC
   refine zAD kr ?_ _
   clear hC HKeepT
   try clear hH
   go_wp2
   go_roundg (k0 - (j+1))
   case measure=>have:=HKJ.out;omega
   case rel=>exact ⟨j+1,by have:=HKJ.out;omega,by go_num,by first|exact HXj|exact zH HXj.out.drew⟩
  obtain rfl:j=k0:=by omega
  obtain ⟨pu,hpu⟩:∃ z,vat u j=z:=⟨_,rfl⟩
  rw [hpu] at cu hklt
  rw [hpv] at hklt
  have hne:¬ pu=pv:=by omega
  have hng:¬ pu > pv:=by omega
  clear hkj hpv hpu HKJ hjk
  go_upto_region 21 with (fail)
  have HKeepT:=zH (fun (w':World) (hx:Ext wr w')=>(show w'.cell? ⟨gs,i1*2,none⟩=some (.slice (some ⟨pb,0,none⟩) n n)∧w'.cell? ⟨b11,0,none⟩=some (.slice (some ⟨qb,0,none⟩) n n)∧w'.cell? ⟨pb,j,none⟩=some (.int .i64 pu)∧w'.cell? ⟨qb,j,none⟩=some (.int .i64 pv) from ⟨hx.cell e0j,hx.cell d0j,hx.cell cu,hx.cell cv⟩))
  refine rU HKeepT [] [] 15 (fun hH hC=>?_)
  revert hC
  refine tk 0 15 hH ?_
  refine tk 1 15 hH ?_
  refine tk 2 15 hH ?_
  refine tk 3 15 hH ?_
  refine tk 4 15 hH ?_
  refine tk 5 15 hH ?_
  refine tk 6 15 hH ?_
  refine tk 7 15 hH ?_
  refine tk 8 15 hH ?_
  refine tk 9 15 hH ?_
  refine tk 10 15 hH ?_
  refine tk 11 15 hH ?_
  refine tk 12 15 hH ?_
  refine tk 13 15 hH ?_
  refine tk 14 15 hH ?_
  intro hC
  refine zAD kr ?_ _
  clear hC HKeepT
  try clear hH
  obtain ⟨V,hV⟩:∃ V,wr.drew=V:=⟨_,rfl⟩
  have hxV:Ext wr V:=by rw [← hV];exact (Ext.refl _).drew
  rw [hV]
  clear hV
  replace cu:=hxV.cell cu
  replace cv:=hxV.cell cv
  replace e0j:=hxV.cell e0j
  replace d0j:=hxV.cell d0j
  have lu:=zAA cu
  have lv:=zAA cv
  have lg:=zAA e0j
  have l11:=zAA d0j
  simp only at lu lv lg l11
  go_upto_region 23 with (fail)
  have HKeepT:=zH (fun (w':World) (hx:Ext V w')=>(show w'.cell? ⟨gs,i1*2,none⟩=some (.slice (some ⟨pb,0,none⟩) n n)∧w'.cell? ⟨b11,0,none⟩=some (.slice (some ⟨qb,0,none⟩) n n)∧w'.cell? ⟨pb,j,none⟩=some (.int .i64 pu)∧w'.cell? ⟨qb,j,none⟩=some (.int .i64 pv) from ⟨hx.cell e0j,hx.cell d0j,hx.cell cu,hx.cell cv⟩))
  refine rU HKeepT [] [] 15 (fun hH hC=>?_)
  revert hC
  refine tk 0 15 hH ?_
  refine tk 1 15 hH ?_
  refine tk 2 15 hH ?_
  refine tk 3 15 hH ?_
  refine tk 4 15 hH ?_
  refine tk 5 15 hH ?_
  refine tk 6 15 hH ?_
  refine tk 7 15 hH ?_
  refine tk 8 15 hH ?_
  refine tk 9 15 hH ?_
  refine tk 10 15 hH ?_
  refine tk 11 15 hH ?_
  refine tk 12 15 hH ?_
  refine tk 13 15 hH ?_
  refine tk 14 15 hH ?_
  intro hC
  refine zAD kr ?_ _
  clear hC HKeepT
  try clear hH
  go_wp2
  go_roundg (bs.length - (i+1))
  case measure=>have:=HKI.out;omega
  case rel=>exact ⟨i+1,by have:=HKI.out;omega,by go_num,by first|exact zH (HSnD.out.ext (HXj.out.trans hxV))|exact zH (HSnD.out.ext ((HXj.out.trans hxV).drew)),by first|exact zH (HXd.out.trans (HXj.out.trans hxV))|exact zH ((HXd.out.trans (HXj.out.trans hxV)).drew)⟩
 ·skip
  obtain rfl:bs.length=i:=by omega
  have HSe:Hid (Seen wr B (bs.map (·.2.1))):=by
   have:=HSn.out
   rwa [List.take_length] at this
  have HXw:=zH (HX5.out.trans HX.out)
  have HNx:=zH (HNo.out wr X lx cx xs HXw.out (HRX.out.ext HXw.out) HLX.out hlx64 HFX.out)
  obtain ⟨nv,hnv⟩:∃ v,normR ra xs=v:=⟨_,rfl⟩
  have HNv:=zH hnv
  rw [hnv] at HNx
  obtain ⟨z,ce⟩:=nv
  clear hnv hki HSn HNo
  go_wp2_with (fail)
  refine HNx.out.mono ?_
  rintro e w7 ⟨rfl,hx⟩
  have HX7:=zH (HXw.out.trans hx)
  have HSe7:=zH (HSe.out.ext hx)
  have HF7:=zH (HR.out _ HX7.out)
  clear hx HNx HSe
  by_cases hqce6:ce=0
  case neg =>
   go_wp2
   first
   | exact HF7.out
   | exact bodyPost_ret (v:=.bool true) (by simp [results,Tryz.results4,go_sem]) rfl HF7.out
  subst hqce6
  by_cases hqz5:z < 1
  case pos =>
   go_wp2
   first
   | exact HF7.out
   | exact bodyPost_ret (v:=.bool true) (by simp [results,Tryz.results4,go_sem]) rfl HF7.out
  by_cases hqz6:z > nb
  case pos =>
   go_wp2
   first
   | exact HF7.out
   | exact bodyPost_ret (v:=.bool true) (by simp [results,Tryz.results4,go_sem]) rfl HF7.out
  have hz1:1≤z:=by omega
  have hz2:z≤nb:=by omega
  obtain ⟨hxl,hqf⟩:=norm_out HNv.out hz1
  rw [← HN.out] at hqf
  have hlxn:lx=n:=by have:=HN.out;have:=HLX.out;omega
  subst hlxn
  have hxl':xs.length=lx:=by rw [hxl];exact HN.out.symm
  have hone:=one_seen HS.out hn8 hxl' om om
  have hfitN:FitV (xs.map fun z=>-z):=short_fit HSt.out (by simpa using hxl') (by rw [qf_neg];omega)
  have hsm:∀ j,j < lx→(vat xs j).natAbs≤2 ^ 62:=fun j hj=>HSt.out.wide (nb:=4096) om om (vat xs) om j hj
  obtain ⟨x0,ox,rfl,hxlt,hxcell⟩:∃ b off,X=some ⟨b,off,none⟩∧b < w7.heap.size∧∀ j,j < lx→w7.cell? ⟨b,off+j,none⟩=some (.int .i64 (vat xs j)):=by
   have hn1:1≤lx:=by rw [HN.out];exact (zCp HCs.out).1
   obtain ⟨b,off,h1,h2,h3⟩:=(HRX.out.ext HX7.out) om
   exact ⟨b,off,h1,h2,fun j hj=>by
    have h4:xs[j]? = some (vat xs j):=by rw [List.getElem?_eq_getElem om];unfold vat;rw [List.getElem?_eq_getElem om];rfl
    exact h3 j _ h4⟩
  have HXc:=zH hxcell
  have HSm:=zH hsm
  have HOne:=zH hone
  have HFN:=zH hfitN
  have HXL:=zH hxl'
  obtain ⟨cs,hmk,hT,hcl,hfr⟩:=zDD (lx:Int) lx rfl om w7
  obtain ⟨W8,hW8⟩:∃ W8,w7.alloc (.cells cs 2)=W8:=⟨_,rfl⟩
  obtain ⟨hy,hhy⟩:∃ h,w7.heap.size=h:=⟨_,rfl⟩
  have hylo:w7.heap.size≤hy:=by omega
  have hx8:Ext w7 W8:=by rw [← hW8];exact (Ext.refl _).alloc _
  rw [hW8,hhy] at hmk hT hcl hfr
  have HY0:Hid (NRow W8 hy lx (fun _=>0)):=⟨hcl,hfr,hT⟩
  have HX8:=zH hx8
  clear hxl hxl' hqf hone hfitN hsm hxcell hT hcl hfr hW8 hx8
  go_wp2
  clear hmk hhy
  go_loopg [159] lx (fun kk iv wk=>∃ i:Nat,kk+i=lx∧iv = .int .i64 i∧Hid (NRow wk hy lx (fun j=>if j < i then -(vat xs j) else 0))∧Hid (Ext w7 wk))
  case atStart=>exact ⟨0,by omega,rfl,HY0.out.congr fun j _=>by simp,HX8⟩
  clear HY0 HX8
  obtain ⟨i,hki,rfl,HY,HXi⟩:=hrel
  by_cases hil:i < lx
  ·have cx:=HXi.out.cell (HXc.out i hil)
   have hs:=HSm.out i hil
   obtain ⟨p,hp⟩:∃ p,vat xs i=p:=⟨_,rfl⟩
   rw [hp] at cx hs
   have hs1:-4611686018427387904≤p∧p≤4611686018427387904:=by omega
   have cy:=HY.out.cell i hil
   have fy:=HY.out.free i
   have ly:=HY.out.typ.lt
   have lxx:=zAA cx
   simp only at lxx
   have HP:=zH hp
   have HKI:=zH hki
   clear hp hs hki
   go_wp2
   go_roundg (lx - (i+1))
   case measure=>have:=HKI.out;omega
   case rel=>exact ⟨i+1,by have:=HKI.out;omega,by go_num,(HY.out.set_ hil (-p)).congr fun j _=>by
     by_cases e:j=i
     ·subst e;rw [if_pos rfl,if_pos om,HP.out]
     ·rw [if_neg e]
      by_cases e2:j < i
      ·rw [if_pos e2,if_pos om]
      ·rw [if_neg e2,if_neg om],HXi.out.setCell (p:=⟨hy,i,none⟩) hylo _⟩
  obtain rfl:lx=i:=by omega
  have HYn:Hid (NRow wr hy lx (vat (xs.map fun z=>-z))):=HY.out.congr fun j hj=>by rw [if_pos hj,neg_vat]
  have HSr:=zH (HSe7.out.ext HXi.out)
  have HXr:=zH (HX7.out.trans HXi.out)
  have HKx:=zH (fun V (hv:Ext wr V)=>keyO_any x0 ox lx cx xs V (fun j hj=>(HXi.out.trans hv).cell (HXc.out j hj)) HXL.out hn8)
  have HKy:=zH (fun V (hv:Ext wr V)=>key_any hy lx (xs.map fun z=>-z) V (HYn.out.ext hv) (by simpa using HXL.out) hn8)
  obtain ⟨sx,hsx⟩:∃ b,seenB (bs.map (·.2.1)) xs=b:=⟨_,rfl⟩
  obtain ⟨sy,hsy⟩:∃ b,seenB (bs.map (·.2.1)) (xs.map fun z=>-z)=b:=⟨_,rfl⟩
  have hxy:sx = !sy:=by rw [← hsx,← hsy];exact HOne.out
  have HLx:Hid (∀ V,Seen V B (bs.map (·.2.1))→(Instr.lookup 37 (.map (some B)) (keyV xs) false).run Tryz.prog V = .ok (.bool sx) V):=fun V h=>by rw [← hsx];exact h.look HFX.out
  have HLy:Hid (∀ V,Seen V B (bs.map (·.2.1))→(Instr.lookup 37 (.map (some B)) (keyV (xs.map fun z=>-z)) false).run Tryz.prog V = .ok (.bool sy) V):=fun V h=>by rw [← hsy];exact h.look HFN.out
  clear hki hsx hsy HY hil
  go_upto_region 35 with (fail)
  have HKeepT:=zH (fun (w':World) (hx:Ext wr w')=>(show Seen w' B (bs.map (·.2.1)) from HSr.out.ext hx))
  refine rU HKeepT [] [] 10 (fun hH hC=>?_)
  revert hC
  refine tk 0 10 hH ?_
  refine tk 1 10 hH ?_
  refine tk 4 10 hH ?_
  refine tk 5 10 hH ?_
  intro hC
  refine zAB hC (i:=2) Sg kr (fun K hK=>?_)
  go_simp
  (go_at_call 19;with_reducible refine Calls.mono (HKx.out _ ?_) ?_;exact Ext.ua;rintro e w1 ⟨rfl,hx⟩;have hxN:Ext wr w1:=Ext.trans Ext.ua hx;(try clear hxA);have hxA:=hxN;clear hxN;clear hx)
  try go_wp2_with fail
  have hHeldN:=HKeepT.out w1 Ext.ua
  refine hK.out _ _ (fun _ _=>hHeldN) (fun hCn=>?_)
  clear hK K hH hC
  have hH:=hHeldN
  have hC:=hCn
  clear hHeldN hCn
  try simp only [Act.put,sA,sB,sC]
  refine zAN hC hH (i:=3) (f:=10) (v:=?_) Sg kr kr kr kr Iq (by rfl) ?_ (fun hCn=>?_)
  rotate_left
  ·intro w' hSw;(try dsimp only at hSw);first|exact look_op rfl (HLx.out w' hSw)|(refine look_op rfl ?_;go_simp;exact HLx.out w' hSw)
  clear hC
  have hC:=hCn
  clear hCn
  try simp only [Act.put,sA,sB,sC]
  refine zAB hC (i:=6) Sg kr (fun K hK=>?_)
  go_simp
  (go_at_call 19;with_reducible refine Calls.mono (HKy.out _ ?_) ?_;exact Ext.ua;rintro e w2 ⟨rfl,hx⟩;have hxN:Ext wr w2:=Ext.trans Ext.ua hx;(try clear hxA);have hxA:=hxN;clear hxN;clear hx)
  try go_wp2_with fail
  have hHeldN:=HKeepT.out w2 Ext.ua
  refine hK.out _ _ (fun _ _=>hHeldN) (fun hCn=>?_)
  clear hK K hH hC
  have hH:=hHeldN
  have hC:=hCn
  clear hHeldN hCn
  try simp only [Act.put,sA,sB,sC]
  refine zAN hC hH (i:=7) (f:=10) (v:=?_) Sg kr kr kr kr Iq (by rfl) ?_ (fun hCn=>?_)
  rotate_left
  ·intro w' hSw;(try dsimp only at hSw);first|exact look_op rfl (HLy.out w' hSw)|(refine look_op rfl ?_;go_simp;exact HLy.out w' hSw)
  clear hC
  have hC:=hCn
  clear hCn
  try simp only [Act.put,sA,sB,sC]
  revert hC
  refine tk 8 10 hH ?_
  refine tk 9 10 hH ?_
  intro hC
  refine zAD kr ?_ _
  clear hC HKeepT
  try clear hH
  have HF:=zH (HR.out _ (HXr.out.trans hxA))
  have hne:sx≠sy:=by rw [hxy];cases sy <;> decide
  cases sx <;> cases sy
  all_goals first
   | exact absurd rfl hne
   | (go_wp2;first | exact HF.out | exact bodyPost_ret (v:=.bool true) (by simp [results,Tryz.results4,go_sem]) rfl HF.out | exact bodyPost_ret (v:=.bool true) (by simp [results,Tryz.results4,go_sem]) rfl (HR.out _ ((HXr.out.trans hxA).drew)))
end Go.Proofs.YtdkgilioejdmeaaGreat
namespace Go.Proofs.YtdkgilioejdmeaaGreat
open Go.ChangeShapes Go.WideShapes Go.ChangeAt Go.RowKit
theorem Tryz.own:ownKnob Tryz.prog.godebug=none:=by kernel_rfl
theorem yAB {H:Type} {P:Program} {e:TypeId} {d:DataW H} {n:Nat}:∀ {l:List (DataW H)},d∈l→n∈d.weights P e→n∈DataW.weightsAll P e l
 | d0 :: l,hd,hn=>by
  simp only [DataW.weightsAll,List.mem_append]
  rcases List.mem_cons.1 hd with rfl|hd
  ·exact .inl hn
  ·exact .inr (yAB hd hn)
 | [],hd,_=>by cases hd
theorem weights_elem {H:Type} {P:Program} {t e:TypeId} {d:DataW H} {elems spare:List (DataW H)} {n:Nat} (hu:P.underlying t=some (.slice e)) (hd:d∈elems) (hn:n∈d.weights P e):n∈(DataW.slice elems spare).weights P t:=by
 have:=yAB hd hn
 simp only [DataW.weights,hu,List.mem_cons,List.mem_append]
 exact .inr (.inl this)
theorem yAA {H:Type} {P:Program} {t e:TypeId} {elems spare:List (DataW H)} (hu:P.underlying t=some (.slice e)):(elems.length+spare.length)*P.bytesOf e∈(DataW.slice elems spare).weights P t:=by
 simp only [DataW.weights,hu,List.mem_cons]
 exact .inl trivial
theorem bytes1:Tryz.prog.bytesOf 2=8:=by kernel_rfl
theorem bytes2:Tryz.prog.bytesOf 31=24:=by kernel_rfl
theorem reach_eq:reachBytes=140737488351232:=rfl
theorem addr_at {w:World} {a:Addr} {v:Value} (h:w.cell? (a.add 0)=some v):∃ b off,a=⟨b,off,none⟩∧b < w.heap.size:=by
 rw [Addr.add_zero'] at h
 have h1:=zAA h
 have h2:=World.cell?_spot h
 obtain ⟨b,off,spot⟩:=a
 exact ⟨b,off,by rw [show spot=none from h2],h1⟩
set_option maxRecDepth 10000 in
theorem rows_open {H:Type} {enc:TypeId × Value→H} {W:World} {fuel:Nat} {v:Value} {d:DataW H} {ps:List MemPlace} (hd:DataW.trod enc Tryz.prog W 0 (fun _=>true) true fuel 22 [v]=some (d,ps)) (hw:∀ n∈d.weights Tryz.prog 22,n≤reachBytes) :
  ∃ (A:Option Addr) (c:Nat) (rows:List (List Int)),v = .slice A rows.length c∧rows.length≤c∧IsRows W A rows∧Fit64 rows:=by
 rcases Deep.open_int_rows Tryz.underlying22 Tryz.underlying31 Tryz.underlying2 kr kr hd with ⟨hc,_⟩|⟨a,len,cap,A,L,C,Z,hcs,_,hl,hm,hx,hr⟩
 ·injection hc with hc _
  exact ⟨none,0,[],hc,by simp,fun h=>by simp at h,by decide,by simp⟩
 ·injection hcs with hcs _
  injection hx with hx _
  subst hx
  have hzl:∀ r,r < cap→((Z r).take (L r)).length=L r:=fun r h=>by
   obtain ⟨_,h1,_,h2,_⟩:=hr r h
   rw [List.length_take];omega
  refine ⟨some a,cap,(List.range len).map fun r=>(Z r).take (L r),by rw [hcs];simp,by simpa using hl,fun hl0=>?_,?_,?_⟩
  ·have hl1:0 < len:=by simpa using hl0
   obtain ⟨b,off,rfl,hb⟩:=addr_at (hr 0 om).1
   refine ⟨b,off,rfl,hb,fun i l hi=>?_⟩
   obtain ⟨hil,rfl⟩:=List.getElem?_eq_some_iff.1 hi
   have hil':i < len:=by simpa using hil
   simp only [List.getElem_map,List.getElem_range]
   obtain ⟨q1,q2,q3,q4,q5,q6,q7⟩:=hr i om
   rw [Addr.add_lit] at q1
   refine ⟨A i,C i,by rw [hzl i om];exact q1,by rw [hzl i om];exact q2,fun hl0=>?_⟩
   rw [hzl i om] at hl0
   cases hA:A i with
   | none=>have:=q6 hA;omega
   | some a' =>
    obtain ⟨_,q8⟩:=q7 a' hA
    obtain ⟨b',off',rfl,hb'⟩:=addr_at (q8 0 om)
    refine ⟨b',off',rfl,hb',fun j z hj=>?_⟩
    obtain ⟨hjl,rfl⟩:=List.getElem?_eq_some_iff.1 hj
    rw [List.length_take] at hjl
    have:=q8 j om
    rw [Addr.add_lit] at this
    rw [this,List.getElem_take]
    simp [List.getD,show j < (Z i).length by omega]
  ·have:=hw _ (yAA Tryz.underlying22)
   rw [bytes2,reach_eq] at this
   simp only [List.length_map,List.length_range] at this ⊢
   omega
  ·intro l hl'
   obtain ⟨r,hr1,rfl⟩:=List.mem_map.1 hl'
   rw [List.mem_range] at hr1
   obtain ⟨q1,q2,q3,q4,q5,q6,q7⟩:=hr r om
   constructor
   ·rw [hzl r om]
    cases hA:A r with
    | none=>have:=q6 hA;omega
    | some a' =>
     have h1:Deep.intRow (H:=H) .i64 (A r) (L r) (Z r)∈(List.range len).map fun r=>Deep.intRow (H:=H) .i64 (A r) (L r) (Z r):=List.mem_map.2 ⟨r,List.mem_range.2 hr1,rfl⟩
     have h2:((Z r).take (L r)).length*8≤reachBytes:=by
      refine Nat.le_trans ?_ (hw _ (weights_elem Tryz.underlying22 h1 (n:=((lits (H:=H) .i64 ((Z r).take (L r))).length+(lits (H:=H) .i64 ((Z r).drop (L r))).length)*Tryz.prog.bytesOf 2) ?_))
      ·rw [bytes1];unfold lits;simp only [List.length_map];omega
      ·unfold Deep.intRow;rw [hA]
       exact yAA Tryz.underlying31
     rw [reach_eq,hzl r om] at h2
     omega
   ·intro z hz
    have:=q5 z (List.mem_of_mem_take hz)
    simp only [Lit.wf,Bool.and_eq_true,decide_eq_true_eq] at this
    exact this
theorem post_of_ext {H:Type} {enc:TypeId × Value→H} {P:Program} {f:Func} {s:ChangeSpec} {apart fresh handsOn again:Bool} {W W':World} {args:Array Value} {v:Value} {ds gs:List (DataW H)} {before pa pv:List MemPlace}
  (hW:DataW.Whole enc P f.params.toList s.vars apart W args.toList ds gs before)
  (hres:∀ (b:Nat) (sp:Nat→Bool) (hd:Bool),DataW.TrodAll enc P W' b sp hd f.resultTypes.toList (v.resultList f.resultTypes.size) (s.fn H (ds ++ gs)).results [])
  (hargs:∀ sp:Nat→Bool,(∀ p∈before,sp p.block=true)→DataW.TrodAll enc P W' 0 sp true f.params.toList args.toList (s.fn H (ds ++ gs)).args pa)
  (hvars:∀ sp:Nat→Bool,(∀ p∈before,sp p.block=true)→DataW.TrodVars enc P W' sp s.vars (s.fn H (ds ++ gs)).vars pv)
  (hps:before=pa ++ pv) (hb:Below W.heap.size W W')
  (hok:∀ (j:Nat) (t:TypeId) (r:Value),f.resultTypes[j]? = some t→(v.resultList f.resultTypes.size)[j]? = some r→Value.okWide P W' .any 0 t r) :
  s.post enc P f apart fresh handsOn again W args v W':=by
 have hlt:∀ p∈before,p.block < W.heap.size:=fun p hp=>hW.lt p hp
 have hold:∀ p∈before,(fun b=>decide (b < W.heap.size)) p.block=true:=fun p hp=>by simpa using hlt p hp
 refine ⟨ds,gs,before,[],pa,pv,hW,hres _ _ _,hargs _ hold,hvars _ hold,World.keptBut_mono (fun p hp=>⟨hp,?_⟩) (hb.frame (· ∈ before)),fun _=>?_⟩
 ·rw [hps,List.mem_append] at hp
  exact Or.inr hp
 ·obtain ⟨_,_,_,_,_,hz,hn⟩:=hW
  refine ⟨hok,_,_,([] ++ pa) ++ pv,⟨[] ++ pa,pv,trodAll_append (hargs _ (fun _ _=>rfl)) (hres _ _ _),hvars _ (fun _ _=>rfl),rfl,?_,?_⟩,?_⟩
  ·intro b off hp
   have hin:MemPlace.cell b off∈before:=by rw [hps];simpa using hp
   rw [hb.frozen (hlt _ hin)]
   exact hz b off hin
  ·intro ha
   have:=hn ha
   rw [hps] at this
   simpa using this
  ·intro p hp _
   rw [hps]
   simpa using hp
theorem Tryz.laidOutB:laidOutB Tryz.prog=true:=by kernel_rfl
noncomputable def laidWorld (os:Os):World:=World.holding Tryz.prog os ⟨#[],#[],[]⟩
theorem row_open {H:Type} {enc:TypeId × Value→H} {W:World} {fuel:Nat} {v:Value} {d:DataW H} {ps:List MemPlace} (hd:DataW.trod enc Tryz.prog W 0 (fun _=>true) true fuel 31 [v]=some (d,ps)) (hw:∀ n∈d.weights Tryz.prog 31,n≤reachBytes) :
  ∃ (A:Option Addr) (c:Nat) (x:List Int),v = .slice A x.length c∧x.length≤c∧IsRow W A x∧(x.length≤140737488351232∧FitV x):=by
 rcases open_ints Tryz.underlying31 Tryz.underlying2 kr hd with ⟨hc,_⟩|⟨a,len,cap,Z,hcs,_,hl,hm,hz,hx,hr,hwf⟩
 ·injection hc with hc _
  exact ⟨none,0,[],hc,by simp,fun h=>by simp at h,by simp,fun z hz=>by simp at hz⟩
 ·injection hcs with hcs _
  injection hx with hx _
  subst hx
  simp only [if_true] at hz
  have hzl:(Z.take len).length=len:=by rw [List.length_take];omega
  refine ⟨some a,cap,Z.take len,by rw [hcs,hzl],by omega,fun hl0=>?_,?_,?_⟩
  ·obtain ⟨b,off,rfl,hb⟩:=addr_at (hr 0 om)
   refine ⟨b,off,rfl,hb,fun i z hi=>?_⟩
   obtain ⟨hil,rfl⟩:=List.getElem?_eq_some_iff.1 hi
   rw [hzl] at hil
   have:=hr i om
   rw [Addr.add_lit] at this
   rw [this,List.getElem_take]
   simp [List.getD,show i < Z.length by omega]
  ·have h2:=hw _ (yAA Tryz.underlying31)
   rw [bytes1,reach_eq] at h2
   unfold lits at h2
   simp only [List.length_map,hzl] at h2
   rw [hzl]
   omega
  ·intro z hz
   have:=hwf z (List.mem_of_mem_take hz)
   simp only [Lit.wf,Bool.and_eq_true,decide_eq_true_eq] at this
   exact this
end Go.Proofs.YtdkgilioejdmeaaGreat
