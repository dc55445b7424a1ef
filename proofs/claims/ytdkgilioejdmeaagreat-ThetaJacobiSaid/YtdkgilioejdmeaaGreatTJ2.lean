/- YtdkgilioejdmeaaGreatTJ2: what is proved here stands in the theorems' own rows. -/
import Derived.Deep.RegionHeld
import Derived.StillTail
import Derived.Test.YtdkgilioejdmeaaGreatProg
import Derived.WalkKit
import Derived.Deep.Draws
import Derived.Deep.QuietTactic
import Derived.BigQuiet
import Derived.KernelRfl
import Derived.Lib.Hide
import Derived.Shelf.Small.Bits
import Derived.Shelf.Strconv.Itoa0
import Derived.Lib.ItoaNum
import Derived.Laws.BitsLemmas
import Derived.Deep.LoopGhost
import Derived.Laws.CopyOwn
import Derived.Laws.MakeOwn
import Derived.Maps.AppendAt
import Derived.Deep.AppendLies
import Derived.Laws.Rows
import Derived.Deep.RegionHeld3
import Derived.Deep.DeepCutAuto
import Derived.Deep.CutBlock
import Derived.Outline
import Derived.RegionTactic
import Derived.Deep.RegionWith
import Derived.Laws.OwnMore
import Derived.Test.YtdkgilioejdmeaaGreatBA1
import Derived.Test.YtdkgilioejdmeaaGreatBA2
import Derived.Test.YtdkgilioejdmeaaGreatBA3
import Derived.Test.YtdkgilioejdmeaaGreatBA4
import Derived.Test.YtdkgilioejdmeaaGreatBA5
import Derived.Test.YtdkgilioejdmeaaGreatBA6
import Derived.Test.YtdkgilioejdmeaaGreatBA7
import Derived.Test.YtdkgilioejdmeaaGreatBA8
import Derived.Test.YtdkgilioejdmeaaGreatBA9
import Derived.Test.YtdkgilioejdmeaaGreatBA10
import Derived.Test.YtdkgilioejdmeaaGreatBA11
import Derived.Test.YtdkgilioejdmeaaGreatBA12
import Derived.Test.YtdkgilioejdmeaaGreatBA13
import Derived.Test.YtdkgilioejdmeaaGreatTJ1
set_option linter.unusedVariables false
set_option linter.unusedSimpArgs false
namespace Go.Proofs.YtdkgilioejdmeaaGreat
open Go.RowKit
theorem thMul_no (A B:Option Addr) (ka ca kb cb:Nat) (N:Int) (w:World) (h:¬ (0≤N∧N≤4096)) :
  Calls Tryz.prog 30 #[.slice A ka ca,.slice B kb cb,.int .i64 N] w fun e w'=>e = .returned (.tuple #[.slice none 0 0,.int .i64 2])∧Ext w w':=by
 have HTe:=zH (terms_no N h)
 clear h
 go_enter Tryz.func30,Tryz.ntmps30
 go_wp2_with (fail)
 refine (HTe.out _).mono ?_
 rintro e w2 ⟨rfl,rfl⟩
 go_wp2
 exact bodyPost_ret (v:=.tuple #[.slice none 0 0,.int .i64 2]) (by simp [results,Tryz.results30,go_sem]) rfl ⟨rfl,Ext.refl _⟩
set_option maxHeartbeats 8000000 in
set_option maxRecDepth 100000 in
theorem thMul_any (A B:Option Addr) (ka ca kb cb K:Nat) (fa fb:Nat→Int) (w:World) (hK:K≤4096) (hka:ka≤4096) (hkb:kb≤4096) (hA:SerA w A ka fa) (hB:SerA w B kb fb) (ha:Mild ka fa) (hb:Mild kb fb) :
  Calls Tryz.prog 30 #[.slice A ka ca,.slice B kb cb,.int .i64 K] w fun e w'=>∃ h,e = .returned (.tuple #[.slice (some ⟨h,0,none⟩) K K,.int .i64 0])∧MRow w' h K (mulT ka kb fa fb)∧w.heap.size≤h∧Ext w w':=by
 obtain ⟨R,hR⟩:∃ R:Ending→World→Prop,(fun e w'=>∃ h,e = .returned (.tuple #[.slice (some ⟨h,0,none⟩) K K,.int .i64 0])∧MRow w' h K (mulT ka kb fa fb)∧w.heap.size≤h∧Ext w w')=R:=⟨_,rfl⟩
 have HR:Hid (∀ h w',MRow w' h K (mulT ka kb fa fb)→w.heap.size≤h→Ext w w'→R (.returned (.tuple #[.slice (some ⟨h,0,none⟩) K K,.int .i64 0])) w'):=fun h w' h1 h2 h3=>by rw [← hR];exact ⟨h,rfl,h1,h2,h3⟩
 rw [hR]
 clear hR
 have HTe:=zH (yAK (K:Int) ⟨by omega,by omega⟩)
 have HA:=zH hA
 have HB:=zH hB
 have HFm:=zH (fun i j (hi:i < ka) (hj:j < kb)=>fit_mul ha hb hi hj)
 have HFs:=zH (fun k i (hi:i≤ka) (hk:i≤4999)=>fit_sum ha hb k hi hk)
 clear hA hB ha hb
 go_enter Tryz.func30,Tryz.ntmps30
 go_wp2_with (fail)
 refine (HTe.out _).mono ?_
 rintro e w2 ⟨rfl,rfl⟩
 obtain ⟨cs,hmk,hrow⟩:=zAs (K:Int) K rfl om w2
 obtain ⟨W0,hW0⟩:∃ W0,w2.alloc (.cells cs 49)=W0:=⟨_,rfl⟩
 obtain ⟨h,hh⟩:∃ h,w2.heap.size=h:=⟨_,rfl⟩
 have hlo:w2.heap.size≤h:=by omega
 have HX0:Hid (Ext w2 W0):=by rw [← hW0];exact (Ext.refl _).alloc _
 rw [hW0,hh] at hmk hrow
 have HM0:=zH hrow
 clear hrow hW0 hh HTe
 go_wp2
 clear hmk
 go_loopg [19] K (fun kk kv wk=>∃ k:Nat,kk+k=K∧kv = .int .i64 k∧Hid (MRow wk h K (fun m=>if m < k then mulT ka kb fa fb m else 0))∧Hid (Ext w2 wk))
 case atStart=>exact ⟨0,by omega,rfl,HM0.out.congr fun j _=>by simp,HX0⟩
 clear HM0 HX0
 obtain ⟨k,hkk,rfl,HM,HX⟩:=hrel
 by_cases hkK:k < K
 ·have HKK:=zH hkk
  clear hkk
  obtain ⟨lim,hlim⟩:∃ l,min (k+1) ka=l:=⟨_,rfl⟩
  have hl1:lim≤ka:=by omega
  have hl2:lim≤k+1:=by omega
  have hmin:min ((k:Int)+1) (ka:Int)=(lim:Int):=by omega
  have HLim:=zH hlim
  have HM1:Hid (MRow wr h K (fun m=>if m < k then mulT ka kb fa fb m else if m=k then mulP kb fa fb k 0 else 0)):=HM.out.congr fun m _=>by
   by_cases e:m < k
   ·rw [if_pos e,if_pos e]
   ·rw [if_neg e,if_neg e];simp [mulP,sm]
  clear hlim HM
  go_wp2
  go_loopg [27] lim (fun kk iv wi=>∃ i:Nat,kk+i=lim∧iv = .int .i64 i∧Hid (MRow wi h K (fun m=>if m < k then mulT ka kb fa fb m else if m=k then mulP kb fa fb k i else 0))∧Hid (Ext w2 wi))
  case atStart=>exact ⟨0,by omega,rfl,HM1,HX⟩
  clear HM1 HX
  obtain ⟨i,hki,rfl,HM,HX⟩:=hrel
  by_cases hil:i < lim
  ·skip
   have HKI:=zH hki
   clear hki
   have hika:i < ka:=by omega
   by_cases hkb':k - i < kb
   case neg =>
    have hgt:¬ (k:Int) - (i:Int) < (kb:Int):=by omega
    have hge:(k:Int) - (i:Int)≥(kb:Int):=by omega
    go_wp2
    go_roundg (lim - (i+1))
    case measure=>have:=HKI.out;omega
    case rel=>exact ⟨i+1,by have:=HKI.out;omega,by go_num,HM.out.congr fun m _=>by rw [mulP_skip hkb'],HX⟩
   have hlt:(k:Int) - (i:Int) < (kb:Int):=by omega
   have hnge:¬ (k:Int) - (i:Int)≥(kb:Int):=by omega
   obtain ⟨h1,rfl,hra⟩:=HA.out om
   obtain ⟨h2,rfl,hrb⟩:=HB.out om
   obtain ⟨j,hj⟩:∃ j,k - i=j:=⟨_,rfl⟩
   have hji:(k:Int) - (i:Int)=(j:Int):=by omega
   rw [hj] at hkb'
   have hwj:IntKind.i64.wrap (j:Int)=(j:Int):=wrapN om
   obtain ⟨na,Aa,ea,ca1,ca2,ia⟩:=hra.cells i hika
   obtain ⟨nb,Ab,eb,cb1,cb2,ib⟩:=hrb.cells j hkb'
   replace ca1:=HX.out.cell ca1
   replace ca2:=HX.out.cell ca2
   replace cb1:=HX.out.cell cb1
   replace cb2:=HX.out.cell cb2
   have HIa:=zH (ia.ext HX.out)
   have HIb:=zH (ib.ext HX.out)
   have hfm:=HFm.out i j hika hkb'
   obtain ⟨za,hza⟩:∃ z,fa i=z:=⟨_,rfl⟩
   obtain ⟨zb,hzb⟩:∃ z,fb j=z:=⟨_,rfl⟩
   have HPs:Hid (mulP kb fa fb k (i+1)=mulP kb fa fb k i+za*zb):=by rw [mulP_step om,hj,hza,hzb];exact zH rfl
   rw [hza] at HIa
   rw [hzb] at HIb
   rw [hza,hzb] at hfm
   have HCZ:=zH hfm.2
   have HFz:=zH hfm.1
   have l1:=zAA ca1
   have l2:=zAA cb1
   simp only at l1 l2
   have HJ:=zH hj
   have HHm:=zH (fun V (hx:Ext wr V)=>zCW na nb Aa Ab ea eb za zb V (HIa.out.ext hx) (HIb.out.ext hx))
   clear hra hrb ia ib hza hzb hfm hj
   go_upto_region 11 with (fail)
   rw [show decide (kb≤j)=false from decide_eq_false om]
   go_cut [11,12] (fun s11 s12 wx=>∃ b11,s11 = .pointer (some ⟨b11,0,none⟩)∧s12 = .int .i64 (codeZ (za*zb))∧wr.heap.size≤b11∧Hid (IntB wx b11 (fitZ (za*zb)))∧Hid (Ext wr wx))
   case first =>
    have HKeepT:=zH (fun (w':World) (hx:Ext wr w')=>(show w'.cell? ⟨h1,i*2,none⟩=some (.bool na)∧w'.cell? ⟨h1,i*2+1,none⟩=some (.slice Aa ea ea)∧w'.cell? ⟨h2,j*2,none⟩=some (.bool nb)∧w'.cell? ⟨h2,j*2+1,none⟩=some (.slice Ab eb eb) from ⟨hx.cell ca1,hx.cell ca2,hx.cell cb1,hx.cell cb2⟩))
    have hxA:Ext wr wr:=Ext.refl _
    refine rU HKeepT [15,16] [13] 17 (fun hH hC=>?_)
    revert hC
    refine tk 0 17 hH ?_
    refine tk 1 17 hH ?_
    refine tk 2 17 hH ?_
    refine tk 3 17 hH ?_
    refine tk 4 17 hH ?_
    refine tk 5 17 hH ?_
    refine tk 6 17 hH ?_
    refine tk 7 17 hH ?_
    refine tk 8 17 hH ?_
    refine tk 9 17 hH ?_
    intro hC
    refine zAj (al:=14) (d:=11) (c:=10) (T:=49) (zs:=#[.bool false,.slice none 0 0]) (fuel:=5) (L:=fun l11=>#[true,true,true,true,true,true,true,true,true,true,false,false,false,false,l11,false,false]) wr wr.heap.size hxA.size Sg Sg (by intro l11;cases l11 <;> kernel_rfl) (by intro l11;cases l11 <;> kernel_rfl) (by rfl) (by intro l11;cases l11 <;> kernel_rfl) ?_ (fun w' hx=>HKeepT.out _ (hxA.trans hx)) ?_ false wr.drew (Ext.refl _).drew AlOK.no
    ·intro v1 w' K' hK'
     try simp only [Act.put,sA,sB,sC]
     try simp only [Act.put,sA,sB,sC] at hK'
     go_simp
     exact hK'
    intro l11 v11 y hxy hal11 hct K hK
    (try clear hH)
    (try clear hC)
    try simp only [Act.put,sA,sB,sC]
    replace hxA:=hxA.trans hxy
    go_simp
    (go_at_call 66;with_reducible refine Calls.mono (HHm.out _ ?_) ?_;exact (by repeat (first|with_reducible exact Ext.refl _|with_reducible exact hxA|refine Ext.drew ?_|refine Ext.drewN ?_ _|refine Ext.alloc ?_ _));rintro e w1 ⟨n1,A1,e1,rfl,hn1,hx⟩;have hxN:Ext wr w1:=Ext.trans (by repeat (first|with_reducible exact Ext.refl _|with_reducible exact hxA|refine Ext.drew ?_|refine Ext.drewN ?_ _|refine Ext.alloc ?_ _)) hx;clear hxA;have hxA:=hxN;clear hxN;have HN1:=zH hn1;clear hn1;replace hal11:=AlOK.ext hal11 (Ext.trans (by repeat (first|with_reducible exact Ext.refl _|refine Ext.drew ?_)) hx);clear hx)
    try go_wp2_with fail
    have hHeldN:=HKeepT.out w1 hxA
    refine hK.out _ _ (fun _ _=>hHeldN) (fun hCn=>?_)
    clear hK K
    (try clear hct)
    (try clear hH)
    (try clear hC)
    have hH:=hHeldN
    have hC:=hCn
    clear hHeldN hCn
    try simp only [Act.put,sA,sB,sC]
    refine zAN hC hH (i:=11) (f:=17) (v:=?_) Sg kr (by cases l11 <;> kernel_rfl) (by cases l11 <;> kernel_rfl) kr Iq (by rfl) ?_ (fun hCn=>?_)
    rotate_left
    ·intro w' hSw;(try dsimp only at hSw);go_simp;(try with_reducible rfl)
    clear hC
    have hC:=hCn
    clear hCn
    try simp only [Act.put,sA,sB,sC]
    refine zAN hC hH (i:=12) (f:=17) (v:=?_) Sg kr (by cases l11 <;> kernel_rfl) (by cases l11 <;> kernel_rfl) kr Iq (by rfl) ?_ (fun hCn=>?_)
    rotate_left
    ·intro w' hSw;(try dsimp only at hSw);go_simp;(try with_reducible rfl)
    clear hC
    have hC:=hCn
    clear hCn
    try simp only [Act.put,sA,sB,sC]
    refine zAF hC (i:=13) (v:=?_) Sg kr (by cases l11 <;> kernel_rfl) (by cases l11 <;> kernel_rfl) kr Iq (by rfl) ?_ (fun hCn=>?_)
    rotate_left
    ·intro w';go_simp;(try with_reducible rfl)
    clear hC
    have hC:=hCn
    clear hCn
    try simp only [Act.put,sA,sB,sC]
    refine zAj (al:=14) (d:=11) (c:=15) (T:=49) (zs:=#[.bool false,.slice none 0 0]) (fuel:=1) (L:=fun l11=>#[true,true,true,true,true,true,true,true,true,true,true,true,true,true,l11,false,false]) w1 wr.heap.size hxA.size Sg Sg (by intro l11;cases l11 <;> kernel_rfl) (by intro l11;cases l11 <;> kernel_rfl) (by rfl) (by intro l11;cases l11 <;> kernel_rfl) ?_ (fun w' hx=>HKeepT.out _ (hxA.trans hx)) ?_ l11 w1 (Ext.refl _) hal11
    ·intro v1 w' K' hK'
     try simp only [Act.put,sA,sB,sC]
     try simp only [Act.put,sA,sB,sC] at hK'
     go_simp
     exact hK'
    intro l11 v11 y hxy hal11 hct K hK
    (try clear hH)
    (try clear hC)
    try simp only [Act.put,sA,sB,sC]
    replace hxA:=hxA.trans hxy
    (try replace HN1:=zH (HN1.out.ext hxy))
    obtain rfl:l11=true:=by
     cases l11 with
     | false=>exact absurd (Eq.trans (Eq.symm hct) kr) (show ¬ (true=false) by decide)
     | true=>rfl
    obtain ⟨b11,rfl,hb11,k11⟩:=hal11 rfl
    clear hal11
    have zl11:=k11.lt
    obtain ⟨zc11a,zf11a,zc11b,zf11b⟩:=k11.two
    clear hct
    go_simp
    refine hK.out _ _ (fun h=>by cases h) (fun hCn=>?_)
    clear hK K
    have hC:=hCn
    clear hCn
    try simp only [Act.put,sA,sB,sC]
    refine zAB hC (i:=16) Sg kr (fun K hK=>?_)
    go_simp
    refine hK.out _ _ (fun h=>by cases h) (fun hCn=>?_)
    clear hK K hC
    have hC:=hCn
    clear hCn
    try simp only [Act.put,sA,sB,sC]
    refine zAD kr ?_ _
    clear hC HKeepT
    try clear hH
    go_wp2
    refine Met.intro ?_
    go_step
    (repeat apply Exists.intro)
    refine And.symm ⟨?_,?_⟩
    ·first|with_reducible rfl|rfl
    first
    | exact ⟨_,rfl,rfl,(by first|exact Nat.le_refl _|assumption|(simp only [World.size_setCell,World.size_alloc,World.size_drew];omega)|omega),zH (IntB.mk2 (by (with_reducible repeat (first|exact k11  | (refine Blk.at ?_;· (first|rfl|(simp only [World.size_setCell,World.size_alloc,World.size_drew];done)|(simp only [World.size_setCell,World.size_alloc,World.size_drew];omega)))|(refine Blk.put3 ?_;· (repeat (first|exact BlkN.of k11 rfl  | (refine BlkN.at ?_ ?_;· (first|rfl|(simp only [World.size_setCell,World.size_alloc,World.size_drew];done)|(simp only [World.size_setCell,World.size_alloc,World.size_drew];omega));· rfl)|(refine BlkN.far2 ?_ ?_;· (first|assumption|exact Ne.symm (by assumption)|omega))|refine BlkN.al ?_|refine BlkN.dr ?_)))|(refine Blk.put2 ?_;· (repeat (first|exact BlkN.of k11 rfl  | (refine BlkN.at ?_ ?_;· (first|rfl|(simp only [World.size_setCell,World.size_alloc,World.size_drew];done)|(simp only [World.size_setCell,World.size_alloc,World.size_drew];omega));· rfl)|(refine BlkN.far2 ?_ ?_;· (first|assumption|exact Ne.symm (by assumption)|omega))|refine BlkN.al ?_|refine BlkN.dr ?_)))|(refine Blk.put1 ?_;· (repeat (first|exact BlkN.of k11 rfl  | (refine BlkN.at ?_ ?_;· (first|rfl|(simp only [World.size_setCell,World.size_alloc,World.size_drew];done)|(simp only [World.size_setCell,World.size_alloc,World.size_drew];omega));· rfl)|(refine BlkN.far2 ?_ ?_;· (first|assumption|exact Ne.symm (by assumption)|omega))|refine BlkN.al ?_|refine BlkN.dr ?_)))|(refine Blk.far2 ?_ ?_;· (first|assumption|exact Ne.symm (by assumption)|omega))|refine Blk.al ?_|refine Blk.drew ?_))) (by (with_reducible repeat (first|exact HN1.out|refine IsInt.al ?_|refine IsInt.dr ?_|(refine IsInt.setN ?_ ?_;· (repeat (first|exact NB.of k11 (by decide)  | (refine NB.at ?_ ?_;· (first|rfl|(simp only [World.size_setCell,World.size_alloc,World.size_drew];done)|(simp only [World.size_setCell,World.size_alloc,World.size_drew];omega));· decide)|refine NB.set ?_|refine NB.al ?_|refine NB.dr ?_))))))),zH Ext.ua⟩
   obtain ⟨b11,rfl,rfl,hb11,HB11,HX1⟩:=hcut
   obtain ⟨W1,hWn⟩:∃ W1,wc=W1:=⟨_,rfl⟩
   rw [hWn] at HB11 HX1 ⊢
   clear hWn wc
   replace ca1:=HX1.out.cell ca1
   replace ca2:=HX1.out.cell ca2
   replace cb1:=HX1.out.cell cb1
   replace cb2:=HX1.out.cell cb2
   replace HM:=zH (HM.out.ext HX1.out)
   replace HX:=zH (HX.out.trans HX1.out)
   have hszW1:=HX1.out.size
   obtain ⟨n11,A11,k11,q11,hn11⟩:=HB11.out.box
   obtain ⟨c11a,f11a,c11b,f11b⟩:=q11.two
   have hl11:=q11.lt
   have HN11:=zH hn11
   clear hn11 q11 HB11
   have hcz:=HCZ.out
   obtain ⟨n0,A0,k0,d1,d2,i0⟩:=HM.out.cells k hkK
   have f1:=HM.out.free (k*2)
   have f2:=HM.out.free (k*2+1)
   have lh:=HM.out.lt
   rw [if_neg om,if_pos rfl] at i0
   have HI0:=zH i0
   have hfs:=HFs.out k i om om
   have hfs1:=HFs.out k (i+1) om om
   rw [HPs.out] at hfs1
   obtain ⟨s0,hs0⟩:∃ z,mulP kb fa fb k i=z:=⟨_,rfl⟩
   rw [hs0] at hfs1 HI0 HPs
   rw [HFz.out] at HN11
   have hca:=hfs1.2
   have HFa:=zH hfs1.1
   have HAd:=zH (fun V (hx:Ext W1 V)=>zBR n0 n11 A0 A11 k0 k11 s0 (za*zb) V (HI0.out.ext hx) (HN11.out.ext hx))
   clear hfs hfs1 i0 HHm ca1 ca2 cb1 cb2
   go_upto_region 14 with (fail)
   have HKeepT:=zH (fun (w':World) (hx:Ext W1 w')=>(show w'.cell? ⟨b11,0,none⟩=some (.bool n11)∧w'.cell? ⟨b11,1,none⟩=some (.slice A11 k11 k11)∧w'.cell? ⟨h,k*2,none⟩=some (.bool n0)∧w'.cell? ⟨h,k*2+1,none⟩=some (.slice A0 k0 k0) from ⟨hx.cell c11a,hx.cell c11b,hx.cell d1,hx.cell d2⟩))
   refine rU HKeepT [12,13] [10] 14 (fun hH hC=>?_)
   revert hC
   refine tk 0 14 hH ?_
   refine tk 1 14 hH ?_
   refine tk 2 14 hH ?_
   refine tk 3 14 hH ?_
   refine tk 4 14 hH ?_
   refine tk 5 14 hH ?_
   refine tk 6 14 hH ?_
   intro hC
   refine zAB hC (i:=7) Sg kr (fun K hK=>?_)
   go_simp
   (go_at_call 67;with_reducible refine Calls.mono (HAd.out _ ?_) ?_;exact Ext.ua;rintro e w1 ⟨n1,A1,e1,rfl,hn1,hx⟩;have hxN:Ext W1 w1:=Ext.trans Ext.ua hx;(try clear hxA);have hxA:=hxN;clear hxN;have HN1:=zH hn1;clear hn1;have td1:=hxA.cell d1;have ud1:=hxA.free f1 (zAA d1);have td2:=hxA.cell d2;have ud2:=hxA.free f2 (zAA d2);clear hx)
   try go_wp2_with fail
   have hHeldN:=HKeepT.out w1 Ext.ua
   refine hK.out _ _ (fun _ _=>hHeldN) (fun hCn=>?_)
   clear hK K hH hC
   have hH:=hHeldN
   have hC:=hCn
   clear hHeldN hCn
   try simp only [Act.put,sA,sB,sC]
   revert hC
   refine tk 8 14 hH ?_
   refine tk 9 14 hH ?_
   refine tk 11 14 hH ?_
   intro hC
   refine zAF hC (i:=10) (v:=?_) Sg kr kr kr kr Iq (by rfl) ?_ (fun hCn=>?_)
   rotate_left
   ·intro w';go_simp;(try with_reducible rfl)
   clear hC
   have hC:=hCn
   clear hCn
   try simp only [Act.put,sA,sB,sC]
   refine zAB hC (i:=12) Sg kr (fun K hK=>?_)
   go_simp
   refine hK.out _ _ (fun h=>by cases h) (fun hCn=>?_)
   clear hK K hC
   have hC:=hCn
   clear hCn
   try simp only [Act.put,sA,sB,sC]
   refine zAB hC (i:=13) Sg kr (fun K hK=>?_)
   go_simp
   refine hK.out _ _ (fun h=>by cases h) (fun hCn=>?_)
   clear hK K hC
   have hC:=hCn
   clear hCn
   try simp only [Act.put,sA,sB,sC]
   refine zAD kr ?_ _
   clear hC HKeepT
   try clear hH
   obtain ⟨V,hV⟩:∃ V,setInt w1 h (k*2) n1 A1 e1=V:=⟨_,rfl⟩
   have HXv:Hid (Ext w2 V):=by rw [← hV];exact zAO (HX.out.trans hxA) hlo
   have hn':IsInt w1 n1 A1 e1 (s0+za*zb):=by have:=HN1.out;rwa [HFa.out] at this
   have HMv:Hid (MRow V h K (fun m=>if m < k then mulT ka kb fa fb m else if m=k then mulP kb fa fb k (i+1) else 0)):=by
    rw [← hV,HPs.out]
    refine ((HM.out.ext hxA).set_ hkK hn').congr fun m _=>?_
    by_cases e:m=k
    ·subst e;rw [if_pos rfl,if_neg om,if_pos rfl]
    ·simp only [if_neg e]
   have eV:(w1.setCell ⟨h,k*2,none⟩ (.bool n1)).setCell ⟨h,k*2+1,none⟩ (.slice A1 e1 e1)=V:=hV
   (try rw [eV])
   clear eV hV hn' HX HM HN1 HAd hxA
   go_wp2
   go_roundg (lim - (i+1))
   case measure=>have:=HKI.out;omega
   case rel=>exact ⟨i+1,by have:=HKI.out;omega,by go_num,HMv,HXv⟩
  ·skip
   obtain rfl:i=lim:=by omega
   have HM2:Hid (MRow wr h K (fun m=>if m < k+1 then mulT ka kb fa fb m else 0)):=HM.out.congr fun m _=>by
    by_cases e:m=k
    ·subst e;rw [if_neg om,if_pos rfl,if_pos om];unfold mulT;rw [HLim.out]
    ·rw [if_neg e]
     by_cases e2:m < k
     ·rw [if_pos e2,if_pos om]
     ·rw [if_neg e2,if_neg om]
   clear HM
   go_wp2
   go_roundg (K - (k+1))
   case measure=>have:=HKK.out;omega
   case rel=>exact ⟨k+1,by have:=HKK.out;omega,by go_num,HM2,HX⟩
 ·skip
  obtain rfl:k=K:=by omega
  have HF:=zH (HR.out h _ (HM.out.congr fun j hj=>if_pos hj) hlo HX.out)
  go_wp2
  first
  | exact HF.out
  | exact bodyPost_ret (v:=.tuple #[.slice (some ⟨h,0,none⟩) k k,.int .i64 0]) (by simp [results,Tryz.results30,go_sem]) rfl HF.out
theorem cmpZ_self (z:Int):cmpZ z z=0:=by unfold cmpZ;simp
set_option maxHeartbeats 4000000 in
set_option maxRecDepth 100000 in
theorem yAJ (A:Option Addr) (b n c:Nat) (f g:Nat→Int) (w:World) (hn:n≤4096) (hA:SerA w A n f) (hB:NRow w b n g) (he:∀ i,i < n→f i=g i) (hg:∀ i,i < n → -9223372036854775808≤g i∧g i≤9223372036854775807) :
  Calls Tryz.prog 31 #[.slice A n c,.int .i64 0,.slice (some ⟨b,0,none⟩) n n] w fun e w'=>e = .returned (.bool true)∧Ext w w':=by
 have HA:=zH hA
 have HB:=zH hB
 have HE:=zH he
 have HG:=zH hg
 have HO:=zH zOf_any
 clear hA hB he hg
 go_enter Tryz.func31,Tryz.ntmps31
 go_wp2
 go_loopg [19] n (fun kk iv wk=>∃ i:Nat,kk+i=n∧iv = .int .i64 i∧Hid (Ext w wk))
 case atStart=>exact ⟨0,by omega,rfl,Ext.refl _⟩
 obtain ⟨i,hki,rfl,HX⟩:=hrel
 by_cases hin:i < n
 ·obtain ⟨h1,rfl,hra⟩:=HA.out om
  obtain ⟨na,Aa,ea,ca1,ca2,ia⟩:=hra.cells i hin
  replace ca1:=HX.out.cell ca1
  replace ca2:=HX.out.cell ca2
  have cb:=HX.out.cell (HB.out.cell i hin)
  rw [HE.out i hin] at ia
  have HIa:=zH (ia.ext HX.out)
  obtain ⟨g0,g1⟩:=HG.out i hin
  obtain ⟨z,hz⟩:∃ z,g i=z:=⟨_,rfl⟩
  rw [hz] at HIa cb g0 g1
  have l1:=zAA ca1
  have l2:=zAA cb
  simp only at l1 l2
  have HC:Hid (∀ V nb Ab eb,Ext wr V→IsInt V nb Ab eb z→Calls Tryz.prog 23 #[.agg #[.bool na,.slice Aa ea ea],.agg #[.bool nb,.slice Ab eb eb]] V fun e w'=>e = .returned (.int .i64 0)∧Ext V w'):=fun V nb Ab eb hx h=>by
   have:=zCmp_any na nb Aa Ab ea eb z z V (HIa.out.ext hx) h
   rwa [cmpZ_self] at this
  have HOz:=zH (fun V=>HO.out z V g0 g1)
  have HKI:=zH hki
  clear hra ia hz hki
  go_upto_region 6 with (fail)
  have HKeepT:=zH (fun (w':World) (hx:Ext wr w')=>(show w'.cell? ⟨h1,i*2,none⟩=some (.bool na)∧w'.cell? ⟨h1,i*2+1,none⟩=some (.slice Aa ea ea)∧w'.cell? ⟨b,i,none⟩=some (.int .i64 z) from ⟨hx.cell ca1,hx.cell ca2,hx.cell cb⟩))
  refine rU HKeepT [] [] 11 (fun hH hC=>?_)
  revert hC
  refine tk 0 11 hH ?_
  refine tk 1 11 hH ?_
  refine tk 2 11 hH ?_
  refine tk 3 11 hH ?_
  refine tk 4 11 hH ?_
  refine tk 5 11 hH ?_
  refine tk 6 11 hH ?_
  refine tk 7 11 hH ?_
  intro hC
  refine zAB hC (i:=8) Sg kr (fun K hK=>?_)
  go_simp
  (go_at_call 24;refine (HOz.out _).mono ?_;rintro e w1 ⟨nz,Az,kz,rfl,hi1,hx⟩;have hxN:Ext wr w1:=Ext.trans Ext.ua hx;(try clear hxA);have hxA:=hxN;clear hxN;have HI1:=zH hi1;clear hi1;clear hx)
  try go_wp2_with fail
  have hHeldN:=HKeepT.out w1 Ext.ua
  refine hK.out _ _ (fun _ _=>hHeldN) (fun hCn=>?_)
  clear hK K hH hC
  have hH:=hHeldN
  have hC:=hCn
  clear hHeldN hCn
  try simp only [Act.put,sA,sB,sC]
  refine zAB hC (i:=9) Sg kr (fun K hK=>?_)
  go_simp
  (go_at_call 23;with_reducible refine Calls.mono ((fun hh=>HC.out _ nz Az kz hh (HI1.out.ext (Ext.refl _))) ?_) ?_;exact Ext.ua;rintro e w2 ⟨rfl,hx⟩;have hxN:Ext wr w2:=Ext.trans Ext.ua hx;(try clear hxA);have hxA:=hxN;clear hxN;clear hx)
  try go_wp2_with fail
  have hHeldN:=HKeepT.out w2 Ext.ua
  refine hK.out _ _ (fun _ _=>hHeldN) (fun hCn=>?_)
  clear hK K hH hC
  have hH:=hHeldN
  have hC:=hCn
  clear hHeldN hCn
  try simp only [Act.put,sA,sB,sC]
  revert hC
  refine tk 10 11 hH ?_
  intro hC
  refine zAD kr ?_ _
  clear hC HKeepT
  try clear hH
  go_wp2
  go_roundg (n - (i+1))
  case measure=>have:=HKI.out;omega
  case rel=>exact ⟨i+1,by have:=HKI.out;omega,by go_num,by first|exact zH (HX.out.trans hxA)|exact zH ((HX.out.trans hxA).drew)⟩
 ·skip
  obtain rfl:n=i:=by omega
  go_wp2
  exact bodyPost_ret (v:=.bool true) (by simp [results,Tryz.results31,go_sem]) rfl ⟨rfl,HX.out⟩
end Go.Proofs.YtdkgilioejdmeaaGreat
