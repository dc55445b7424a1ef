/- YtdkgilioejdmeaaGreatTJ3: what is proved here stands in the theorems' own rows. -/
import Derived.Deep.RegionHeld
import Derived.StillTail
import Derived.Test.YtdkgilioejdmeaaGreatProg
import Derived.WalkKit
import Derived.Deep.Draws
import Derived.Deep.QuietTactic
import Derived.BigQuiet
import Derived.KernelRfl
import Derived.Lib.Hide
import Derived.Shelf.Small.Bits
import Derived.Shelf.Strconv.Itoa0
import Derived.Lib.ItoaNum
import Derived.Laws.BitsLemmas
import Derived.Deep.LoopGhost
import Derived.Laws.CopyOwn
import Derived.Laws.MakeOwn
import Derived.Maps.AppendAt
import Derived.Deep.AppendLies
import Derived.Laws.Rows
import Derived.Deep.RegionHeld3
import Derived.Deep.DeepCutAuto
import Derived.Deep.CutBlock
import Derived.Outline
import Derived.RegionTactic
import Derived.Deep.RegionWith
import Derived.Laws.OwnMore
import Derived.Test.YtdkgilioejdmeaaGreatBA1
import Derived.Test.YtdkgilioejdmeaaGreatBA2
import Derived.Test.YtdkgilioejdmeaaGreatBA3
import Derived.Test.YtdkgilioejdmeaaGreatBA4
import Derived.Test.YtdkgilioejdmeaaGreatBA5
import Derived.Test.YtdkgilioejdmeaaGreatBA6
import Derived.Test.YtdkgilioejdmeaaGreatBA7
import Derived.Test.YtdkgilioejdmeaaGreatBA8
import Derived.Test.YtdkgilioejdmeaaGreatBA9
import Derived.Test.YtdkgilioejdmeaaGreatBA10
import Derived.Test.YtdkgilioejdmeaaGreatBA11
import Derived.Test.YtdkgilioejdmeaaGreatBA12
import Derived.Test.YtdkgilioejdmeaaGreatBA13
import Derived.Test.YtdkgilioejdmeaaGreatTJ1
import Derived.Test.YtdkgilioejdmeaaGreatTJ2
set_option linter.unusedVariables false
set_option linter.unusedSimpArgs false
namespace Go.Proofs.YtdkgilioejdmeaaGreat
open Go.RowKit
set_option maxHeartbeats 8000000 in
set_option maxRecDepth 100000 in
theorem thSq_any (k N:Nat) (w:World) (hk:k≤8) (hK:N≤4096) :
  Calls Tryz.prog 22 #[.int .i64 k,.int .i64 N] w fun e w'=>∃ h,e = .returned (.tuple #[.slice (some ⟨h,0,none⟩) N N,.int .i64 0])∧MRow w' h N (sqW k)∧w.heap.size≤h∧Ext w w':=by
 obtain ⟨R,hR⟩:∃ R:Ending→World→Prop,(fun e w'=>∃ h,e = .returned (.tuple #[.slice (some ⟨h,0,none⟩) N N,.int .i64 0])∧MRow w' h N (sqW k)∧w.heap.size≤h∧Ext w w')=R:=⟨_,rfl⟩
 have HR:Hid (∀ h w',MRow w' h N (sqW k)→w.heap.size≤h→Ext w w'→R (.returned (.tuple #[.slice (some ⟨h,0,none⟩) N N,.int .i64 0])) w'):=fun h w' h1 h2 h3=>by rw [← hR];exact ⟨h,rfl,h1,h2,h3⟩
 rw [hR]
 clear hR
 have HTe:=zH (yAK (N:Int) ⟨by omega,by omega⟩)
 have hk0:¬ (k:Int) < 0:=by omega
 have hk1:¬ (k:Int) > 8:=by omega
 go_enter Tryz.func22,Tryz.ntmps22
 go_wp2_with (fail)
 refine (HTe.out _).mono ?_
 rintro e wq ⟨rfl,rfl⟩
 clear hk0 hk1 HTe
 go_upto_region 3 with (fail)
 go_cut [6,7] (fun s6 s7 wx=>∃ b6 b7,s6 = .slice (some ⟨b6,0,none⟩) N N∧s7 = .slice (some ⟨b7,0,none⟩) N N∧wq.heap.size≤b6∧wq.heap.size≤b7∧b6≠b7∧Hid (NRow wx b6 N (fun _=>0))∧Hid (NRow wx b7 N (fun _=>0))∧Hid (Ext wq wx))
 case first =>
  have HKeepT:=zH (fun (w':World) (hx:Ext wq w')=>(show True from trivial))
  refine wp_region_U (fun w'=>True) [4,5] [2] 6 _ kr kr rp ?_ (fun hH hC=>?_)
  ·trivial
  revert hC
  refine tk 0 6 hH ?_
  intro hC
  refine zAF hC (i:=2) (v:=?_) Sg kr kr kr kr Iq (by rfl) ?_ (fun hCn=>?_)
  rotate_left
  ·intro w';go_simp;(try with_reducible rfl)
  clear hC
  have hC:=hCn
  clear hCn
  try simp only [Act.put,sA,sB,sC]
  refine zBZ hC (i:=1) (j:=3) Sg Sg kr (fun K hK=>?_) (fun K hK=>?_)
  ·skip
   obtain ⟨cs6,hmk6,hrow6⟩:=yAB (N:Int) N rfl om (wq.drew)
   go_simp
   go_wp2_with fail
   have hHeldN:(fun w'=>True) ((wq.alloc (.cells cs6 2)).drew):=trivial
   refine hK.out _ _ (fun _ _=>hHeldN) (fun hCn=>?_)
   clear hK K hC
   (try clear hH)
   have hH:=hHeldN
   have hC:=hCn
   clear hHeldN hCn
   try simp only [Act.put,sA,sB,sC]
   refine zBZ hC (i:=3) (j:=4) Sg Sg kr (fun K hK=>?_) (fun K hK=>?_)
   ·skip
    obtain ⟨cs7,hmk7,hrow7⟩:=yAB (N:Int) N rfl om ((wq.alloc (.cells cs6 2)).drew)
    go_simp
    go_wp2_with fail
    have hHeldN:(fun w'=>True) (((wq.alloc (.cells cs6 2)).alloc (.cells cs7 2)).drew):=trivial
    refine hK.out _ _ (fun _ _=>hHeldN) (fun hCn=>?_)
    clear hK K hC
    (try clear hH)
    have hH:=hHeldN
    have hC:=hCn
    clear hHeldN hCn
    try simp only [Act.put,sA,sB,sC]
    refine zAB hC (i:=4) Sg kr (fun K hK=>?_)
    go_simp
    refine hK.out _ _ (fun h=>by cases h) (fun hCn=>?_)
    clear hK K hC
    have hC:=hCn
    clear hCn
    try simp only [Act.put,sA,sB,sC]
    refine zAB hC (i:=5) Sg kr (fun K hK=>?_)
    go_simp
    refine hK.out _ _ (fun h=>by cases h) (fun hCn=>?_)
    clear hK K hC
    have hC:=hCn
    clear hCn
    try simp only [Act.put,sA,sB,sC]
    refine zAD kr ?_ _
    clear hC HKeepT
    try clear hH
    go_wp2
    refine Met.intro ?_
    go_step
    (repeat apply Exists.intro)
    refine And.symm ⟨?_,?_⟩
    ·first|with_reducible rfl|rfl
    first
    | exact ⟨_,_,rfl,rfl,(by first|exact Nat.le_refl _|(simp only [World.size_alloc,World.size_drew];omega)|omega),(by first|exact Nat.le_refl _|(simp only [World.size_alloc,World.size_drew];omega)|omega),by first|omega|(simp only [World.size_alloc,World.size_drew];omega),zH (by first|exact hrow6|exact hrow6.ext ((Ext.refl _).alloc _)|(have h9:=hrow6;simp only [World.size_alloc,World.size_drew] at h9;exact h9)),zH (by first|exact hrow7|exact hrow7.ext ((Ext.refl _).alloc _)|(have h9:=hrow7;simp only [World.size_alloc,World.size_drew] at h9;exact h9)),zH Ext.ua⟩
   ·skip
    go_simp
    refine hK.out _ _ (fun h=>by cases h) (fun hCn=>?_)
    clear hK K hC
    have hC:=hCn
    clear hCn
    try simp only [Act.put,sA,sB,sC]
    refine zAB hC (i:=3) Sg kr (fun K hK=>?_)
    obtain ⟨cs7,hmk7,hrow7⟩:=yAB (N:Int) N rfl om ((wq.alloc (.cells cs6 2)).drew)
    go_simp
    go_wp2_with fail
    have hHeldN:(fun w'=>True) (((wq.alloc (.cells cs6 2)).alloc (.cells cs7 2)).drew):=trivial
    refine hK.out _ _ (fun _ _=>hHeldN) (fun hCn=>?_)
    clear hK K hC
    (try clear hH)
    have hH:=hHeldN
    have hC:=hCn
    clear hHeldN hCn
    try simp only [Act.put,sA,sB,sC]
    refine zAB hC (i:=5) Sg kr (fun K hK=>?_)
    go_simp
    refine hK.out _ _ (fun h=>by cases h) (fun hCn=>?_)
    clear hK K hC
    have hC:=hCn
    clear hCn
    try simp only [Act.put,sA,sB,sC]
    refine zAD kr ?_ _
    clear hC HKeepT
    try clear hH
    go_wp2
    refine Met.intro ?_
    go_step
    (repeat apply Exists.intro)
    refine And.symm ⟨?_,?_⟩
    ·first|with_reducible rfl|rfl
    first
    | exact ⟨_,_,rfl,rfl,(by first|exact Nat.le_refl _|(simp only [World.size_alloc,World.size_drew];omega)|omega),(by first|exact Nat.le_refl _|(simp only [World.size_alloc,World.size_drew];omega)|omega),by first|omega|(simp only [World.size_alloc,World.size_drew];omega),zH (by first|exact hrow6|exact hrow6.ext ((Ext.refl _).alloc _)|(have h9:=hrow6;simp only [World.size_alloc,World.size_drew] at h9;exact h9)),zH (by first|exact hrow7|exact hrow7.ext ((Ext.refl _).alloc _)|(have h9:=hrow7;simp only [World.size_alloc,World.size_drew] at h9;exact h9)),zH Ext.ua⟩
  ·skip
   obtain ⟨cs7,hmk7,hrow7⟩:=yAB (N:Int) N rfl om (wq.drew)
   go_simp
   go_wp2_with fail
   have hHeldN:(fun w'=>True) ((wq.alloc (.cells cs7 2)).drew):=trivial
   refine hK.out _ _ (fun _ _=>hHeldN) (fun hCn=>?_)
   clear hK K hC
   (try clear hH)
   have hH:=hHeldN
   have hC:=hCn
   clear hHeldN hCn
   try simp only [Act.put,sA,sB,sC]
   refine zAB hC (i:=1) Sg kr (fun K hK=>?_)
   obtain ⟨cs6,hmk6,hrow6⟩:=yAB (N:Int) N rfl om ((wq.alloc (.cells cs7 2)).drew)
   go_simp
   go_wp2_with fail
   have hHeldN:(fun w'=>True) (((wq.alloc (.cells cs7 2)).alloc (.cells cs6 2)).drew):=trivial
   refine hK.out _ _ (fun _ _=>hHeldN) (fun hCn=>?_)
   clear hK K hC
   (try clear hH)
   have hH:=hHeldN
   have hC:=hCn
   clear hHeldN hCn
   try simp only [Act.put,sA,sB,sC]
   refine zAB hC (i:=4) Sg kr (fun K hK=>?_)
   go_simp
   refine hK.out _ _ (fun h=>by cases h) (fun hCn=>?_)
   clear hK K hC
   have hC:=hCn
   clear hCn
   try simp only [Act.put,sA,sB,sC]
   refine zAB hC (i:=5) Sg kr (fun K hK=>?_)
   go_simp
   refine hK.out _ _ (fun h=>by cases h) (fun hCn=>?_)
   clear hK K hC
   have hC:=hCn
   clear hCn
   try simp only [Act.put,sA,sB,sC]
   refine zAD kr ?_ _
   clear hC HKeepT
   try clear hH
   go_wp2
   refine Met.intro ?_
   go_step
   (repeat apply Exists.intro)
   refine And.symm ⟨?_,?_⟩
   ·first|with_reducible rfl|rfl
   first
   | exact ⟨_,_,rfl,rfl,(by first|exact Nat.le_refl _|(simp only [World.size_alloc,World.size_drew];omega)|omega),(by first|exact Nat.le_refl _|(simp only [World.size_alloc,World.size_drew];omega)|omega),by first|omega|(simp only [World.size_alloc,World.size_drew];omega),zH (by first|exact hrow6|exact hrow6.ext ((Ext.refl _).alloc _)|(have h9:=hrow6;simp only [World.size_alloc,World.size_drew] at h9;exact h9)),zH (by first|exact hrow7|exact hrow7.ext ((Ext.refl _).alloc _)|(have h9:=hrow7;simp only [World.size_alloc,World.size_drew] at h9;exact h9)),zH Ext.ua⟩
 obtain ⟨b6,b7,rfl,rfl,hl6,hl7,h67,HA0,HB0,HX0⟩:=hcut
 obtain ⟨W5,hWn⟩:∃ W5,wc=W5:=⟨_,rfl⟩
 rw [hWn] at HA0 HB0 HX0 ⊢
 clear hWn wc
 have hgo:Hid (∃ W6,Hid (NRow W6 b6 N (sqW 0))∧Hid (NRow W6 b7 N (fun _=>0))∧Hid (Ext wq W6)∧(0 < N→W5.setCell ⟨b6,0,none⟩ (.int .i64 1)=W6)∧(N=0→W5=W6)):=by
  by_cases hK0:0 < N
  ·exact ⟨_,(HA0.out.set_ (j:=0) hK0 1).congr fun j _=>by simp [sqW],HB0.out.far (Ne.symm h67) _,HX0.out.setCell hl6 _,fun _=>rfl,fun h=>by omega⟩
  ·exact ⟨W5,⟨fun j hj=>by omega,HA0.out.free,HA0.out.typ⟩,HB0,HX0,fun h=>by omega,fun _=>rfl⟩
 obtain ⟨W6,HA,HB,HX,hw6,hw6'⟩:=hgo.out
 clear hgo
 by_cases hK0:(0:Int) < N
 case' pos =>
  have d0:=HA0.out.cell 0 om
  have f0:=HA0.out.free 0
  have lb:=HA0.out.typ.lt
  have hW6:=hw6 om
  have hgt:(N:Int) > 0:=hK0
  go_wp2
  (try rw [hW6])
  (try rw [show decide (0 < N)=true from decide_eq_true om])
  clear d0 f0 lb hW6 hgt
 case' neg =>
  have hW6:=hw6' om
  have hgt:¬ (N:Int) > 0:=hK0
  subst hW6
  go_wp2
  rename_i hz9 K9 a9
  (try rw [show decide (0 < N)=false from decide_eq_false om])
  clear hz9 hgt
 all_goals
  clear hw6 hw6' HA0 HB0 HX0
  go_loopg [6,7,31] k (fun kk va vb rv wk=>∃ (r a b:Nat) (g:Nat→Int),kk+r=k∧va = .slice (some ⟨a,0,none⟩) N N∧vb = .slice (some ⟨b,0,none⟩) N N∧rv = .int .i64 r∧wq.heap.size≤a∧wq.heap.size≤b∧a≠b∧Hid (NRow wk a N (sqW r))∧Hid (NRow wk b N g)∧Hid (Ext wq wk))
  case atStart=>exact ⟨0,b6,b7,fun _=>0,by omega,rfl,rfl,rfl,hl6,hl7,h67,HA,HB,HX⟩
  case round =>
  clear HA HB HX hl6 hl7 h67 hK0
  obtain ⟨r,a,b,g,hkr,rfl,rfl,rfl,hla,hlb,hab,HA,HB,HX⟩:=hrel
  by_cases hrk:r < k
  ·skip
   have HKR:=zH hkr
   have hr8:r < 8:=by omega
   clear hkr
   obtain ⟨w1,hcl,hb1,hoth,hex⟩:=clear_row (c:=N) HB.out
   have HB1:=zH hb1
   have HA1:=zH (HA.out.other (hoth a hab))
   have HX1:=zH (hex wq hlb HX.out)
   clear hb1 hoth hex HA HB HX
   go_wp2
   clear hcl
   go_loopg [35] N (fun kk mv wm=>∃ m:Nat,kk+m=N∧mv = .int .i64 m∧Hid (NRow wm a N (sqW r))∧Hid (NRow wm b N (fun j=>if j < m then sqW (r+1) j else 0))∧Hid (Ext wq wm))
   case atStart=>exact ⟨0,by omega,rfl,HA1,HB1.out.congr fun j _=>by simp,HX1⟩
   clear HA1 HB1 HX1
   obtain ⟨m,hkm,rfl,HA,HB,HX⟩:=hrel
   by_cases hmK:m < N
   ·skip
    have HKM:=zH hkm
    clear hkm
    have HB2:Hid (NRow wr b N (fun j=>if j < m then sqW (r+1) j else if j=m then sqS r m 0 else 0)):=HB.out.congr fun j _=>by
     by_cases e:j < m
     ·rw [if_pos e,if_pos e]
     ·rw [if_neg e,if_neg e];simp [sqS,sm]
    clear HB
    have hm4:m < 4096:=by omega
    go_wp2
    go_loopg [9] (m+2) (fun kk xv wx=>∃ x:Nat,kk+x=m+2∧x≤m+1∧xv = .int .i64 x∧Hid (NRow wx a N (sqW r))∧Hid (NRow wx b N (fun j=>if j < m then sqW (r+1) j else if j=m then sqS r m x else 0))∧Hid (Ext wq wx))
    case atStart=>exact ⟨0,by omega,by omega,rfl,HA,HB2,HX⟩
    clear HA HB2 HX
    obtain ⟨x,hkx,hx1,rfl,HA,HB,HX⟩:=hrel
    obtain ⟨xx,hxx⟩:∃ y:Nat,x*x=y:=⟨_,rfl⟩
    have hxxI:(x:Int)*(x:Int)=(xx:Int):=by rw [← hxx,Int.natCast_mul]
    have hxs:x*x≤4096*4096:=Nat.mul_le_mul om om
    have hxb:xx≤16777216:=by omega
    have HXX:=zH hxx
    clear hxs hxx
    by_cases hle:xx≤m
    ·skip
     have hleI:(xx:Int)≤(m:Int):=by omega
     obtain ⟨p,hp⟩:∃ p,m - xx=p:=⟨_,rfl⟩
     have hpI:(m:Int) - (xx:Int)=(p:Int):=by omega
     have hpK:p < N:=by omega
     have ca:=HA.out.cell p hpK
     have cb:=HB.out.cell m hmK
     rw [if_neg om,if_pos rfl] at cb
     have fb:=HB.out.free m
     have lb:=HB.out.typ.lt
     have la:=HA.out.typ.lt
     have hsw:=yAA (k:=r) (m:=p) om om
     have hss:=sqS_small (r:=r) (m:=m) (x:=x) hr8 hm4 hx1
     obtain ⟨tv,htv⟩:∃ t:Int,(if x=0 then 1 else 2)=t:=⟨_,rfl⟩
     have ht2:tv=1∨tv=2:=by
      by_cases h:x=0
      ·exact Or.inl (by rw [← htv,if_pos h])
      ·exact Or.inr (by rw [← htv,if_neg h])
     have HSt:Hid (sqS r m (x+1)=sqS r m x+tv*sqW r p):=by
      have h1:=HXX.out
      show sm x (sqT r m)+sqT r m x=_
      unfold sqS sqT
      rw [h1,if_pos hle,hp,htv]
     obtain ⟨s,hs⟩:∃ z,sqS r m x=z:=⟨_,rfl⟩
     obtain ⟨z,hz⟩:∃ z,sqW r p=z:=⟨_,rfl⟩
     rw [hs] at cb hss HSt
     rw [hz] at ca hsw HSt
     obtain ⟨s0,s1⟩:=hss
     obtain ⟨z0,z1⟩:=hsw
     obtain ⟨tz,htz⟩:∃ y,tv*z=y:=⟨_,rfl⟩
     have htz0:0≤tz∧tz≤144115188075855872:=by rcases ht2 with rfl|rfl <;> omega
     obtain ⟨tz0,tz1⟩:=htz0
     rw [htz] at HSt
     have HTV:=zH htv
     have HKX:=zH hkx
     clear hs hz htv hkx hp
     by_cases hx0:x=0
     case pos =>
      subst hx0
      have htv1:tv=1:=by rw [← HTV.out];exact if_pos rfl
      subst htv1
      have hxx0:xx=0:=by have:=HXX.out;omega
      subst hxx0
      have hpm:p=m:=by omega
      subst hpm
      have htz1:tz=z:=by omega
      subst htz1
      have hw0:IntKind.i64.wrap 0=0:=wrapZ om
      have hsub:(p:Int) - 0=(p:Int):=by omega
      clear hxxI hpI hleI htz
      clear ht2 HTV
      have hwp:IntKind.i64.wrap (p:Int)=(p:Int):=wrapN om
      have hws:IntKind.i64.wrap (s+tz)=s+tz:=wrapZ om
      have hwz:IntKind.i64.wrap tz=tz:=wrapZ om
      go_upto_region 18 with (fail)
      have HKeepT:=zH (fun (w':World) (hx:Ext wr w')=>(show w'.cell? ⟨a,p,none⟩=some (.int .i64 tz)∧w'.cell? ⟨b,p,none⟩=some (.int .i64 s) from ⟨hx.cell ca,hx.cell cb⟩))
      refine rU HKeepT [16] [] 17 (fun hH hC=>?_)
      revert hC
      refine tk 0 17 hH ?_
      refine tk 1 17 hH ?_
      refine tk 2 17 hH ?_
      refine tk 3 17 hH ?_
      refine tk 4 17 hH ?_
      refine tk 5 17 hH ?_
      refine tk 6 17 hH ?_
      refine tk 7 17 hH ?_
      refine tk 8 17 hH ?_
      refine tk 9 17 hH ?_
      refine tk 10 17 hH ?_
      refine tk 11 17 hH ?_
      refine tk 12 17 hH ?_
      refine tk 13 17 hH ?_
      refine tk 14 17 hH ?_
      refine tk 15 17 hH ?_
      intro hC
      refine zAB hC (i:=16) Sg kr (fun K hK=>?_)
      go_simp
      refine hK.out _ _ (fun h=>by cases h) (fun hCn=>?_)
      clear hK K hC
      have hC:=hCn
      clear hCn
      try simp only [Act.put,sA,sB,sC]
      refine zAD kr ?_ _
      clear hC HKeepT
      try clear hH
      obtain ⟨V,hV⟩:∃ V,wr.setCell ⟨b,p,none⟩ (.int .i64 (s+tz))=V:=⟨_,rfl⟩
      have HAv:Hid (NRow V a N (sqW r)):=by rw [← hV];exact HA.out.far hab _
      have HBv:Hid (NRow V b N (fun j=>if j < p then sqW (r+1) j else if j=p then sqS r p (0+1) else 0)):=by
       rw [← hV]
       refine (HB.out.set_ hmK (s+tz)).congr fun j _=>?_
       by_cases e:j=p
       ·subst e;rw [if_pos rfl,if_neg om,if_pos rfl,HSt.out]
       ·simp only [if_neg e]
      have HXv:Hid (Ext wq V):=by rw [← hV];exact HX.out.setCell hlb _
      have hxm:0≤p:=by
       have h1:=HXX.out
       have h2:=le_sq 0
       omega
      (try rw [hV])
      clear hV HA HB HX ca cb fb lb la
      go_wp2
      go_roundg (p+2 - (0+1))
      case measure=>have:=HKX.out;omega
      case rel=>exact ⟨0+1,by have:=HKX.out;omega,by omega,by go_num,by first|exact HAv|exact zH (HAv.out.ext (Ext.refl _).drew),by first|exact HBv|exact zH (HBv.out.ext (Ext.refl _).drew),by first|exact HXv|exact zH HXv.out.drew⟩
     case neg =>
      have htv2:tv=2:=by rw [← HTV.out];exact if_neg hx0
      subst htv2
      have hwx:IntKind.i64.wrap (xx:Int)=(xx:Int):=wrapN om
      clear ht2 HTV
      have hwp:IntKind.i64.wrap (p:Int)=(p:Int):=wrapN om
      have hws:IntKind.i64.wrap (s+tz)=s+tz:=wrapZ om
      have hwz:IntKind.i64.wrap tz=tz:=wrapZ om
      go_upto_region 18 with (fail)
      have HKeepT:=zH (fun (w':World) (hx:Ext wr w')=>(show w'.cell? ⟨a,p,none⟩=some (.int .i64 z)∧w'.cell? ⟨b,m,none⟩=some (.int .i64 s) from ⟨hx.cell ca,hx.cell cb⟩))
      refine rU HKeepT [16] [] 17 (fun hH hC=>?_)
      revert hC
      refine tk 0 17 hH ?_
      refine tk 1 17 hH ?_
      refine tk 2 17 hH ?_
      refine tk 3 17 hH ?_
      refine tk 4 17 hH ?_
      refine tk 5 17 hH ?_
      refine tk 6 17 hH ?_
      refine tk 7 17 hH ?_
      refine tk 8 17 hH ?_
      refine tk 9 17 hH ?_
      refine tk 10 17 hH ?_
      refine tk 11 17 hH ?_
      refine tk 12 17 hH ?_
      refine tk 13 17 hH ?_
      refine tk 14 17 hH ?_
      refine tk 15 17 hH ?_
      intro hC
      refine zAB hC (i:=16) Sg kr (fun K hK=>?_)
      go_simp
      refine hK.out _ _ (fun h=>by cases h) (fun hCn=>?_)
      clear hK K hC
      have hC:=hCn
      clear hCn
      try simp only [Act.put,sA,sB,sC]
      refine zAD kr ?_ _
      clear hC HKeepT
      try clear hH
      obtain ⟨V,hV⟩:∃ V,wr.setCell ⟨b,m,none⟩ (.int .i64 (s+tz))=V:=⟨_,rfl⟩
      have HAv:Hid (NRow V a N (sqW r)):=by rw [← hV];exact HA.out.far hab _
      have HBv:Hid (NRow V b N (fun j=>if j < m then sqW (r+1) j else if j=m then sqS r m (x+1) else 0)):=by
       rw [← hV]
       refine (HB.out.set_ hmK (s+tz)).congr fun j _=>?_
       by_cases e:j=m
       ·subst e;rw [if_pos rfl,if_neg om,if_pos rfl,HSt.out]
       ·simp only [if_neg e]
      have HXv:Hid (Ext wq V):=by rw [← hV];exact HX.out.setCell hlb _
      have hxm:x≤m:=by
       have h1:=HXX.out
       have h2:=le_sq x
       omega
      (try rw [hV])
      clear hV HA HB HX ca cb fb lb la
      go_wp2
      go_roundg (m+2 - (x+1))
      case measure=>have:=HKX.out;omega
      case rel=>exact ⟨x+1,by have:=HKX.out;omega,by omega,by go_num,by first|exact HAv|exact zH (HAv.out.ext (Ext.refl _).drew),by first|exact HBv|exact zH (HBv.out.ext (Ext.refl _).drew),by first|exact HXv|exact zH HXv.out.drew⟩
    ·skip
     have hleI:¬ (xx:Int)≤(m:Int):=by omega
     have HB3:Hid (NRow wr b N (fun j=>if j < m+1 then sqW (r+1) j else 0)):=HB.out.congr fun j _=>by
      by_cases e:j=m
      ·subst e;rw [if_neg om,if_pos rfl,if_pos om,sqS_all hx1 (by have:=HXX.out;omega)]
      ·rw [if_neg e]
       by_cases e2:j < m
       ·rw [if_pos e2,if_pos om]
       ·rw [if_neg e2,if_neg om]
     clear HB
     go_wp2
     go_roundg (N - (m+1))
     case measure=>have:=HKM.out;omega
     case rel=>exact ⟨m+1,by have:=HKM.out;omega,by go_num,HA,HB3,HX⟩
   ·skip
    obtain rfl:N=m:=by omega
    have HB3:Hid (NRow wr b N (sqW (r+1))):=HB.out.congr fun j hj=>if_pos hj
    go_wp2
    go_roundg (k - (r+1))
    case measure=>have:=HKR.out;omega
    case rel=>exact ⟨r+1,b,a,sqW r,by have:=HKR.out;omega,rfl,rfl,by go_num,hlb,hla,Ne.symm hab,HB3,HA,HX⟩
  ·skip
   obtain rfl:k=r:=by omega
   have HI:=zH (ints_any a N (sqW k) wr HA.out om (fun j hj=>by have:=yAA (k:=k) (m:=j) hk om;omega))
   clear HA HB hkr
   go_wp2_with (fail)
   refine HI.out.mono ?_
   rintro e w4 ⟨h,rfl,hm,hl,hx⟩
   have HF:=zH (HR.out h w4 hm (Nat.le_trans HX.out.size hl) (HX.out.trans hx))
   clear hm hl hx
   go_wp2
   first
   | exact HF.out
   | exact bodyPost_ret (v:=.tuple #[.slice (some ⟨h,0,none⟩) N N,.int .i64 0]) (by simp [results,Tryz.results22,go_sem]) rfl HF.out
theorem isRows_two {W:World} {b0 b1 b2:Nat} {x y z u:Int} (h0:Blk W b0 2 #[.int .i64 x,.int .i64 y]) (h1:Blk W b1 2 #[.int .i64 z,.int .i64 u]) (h2:Blk W b2 31 #[.slice (some ⟨b0,0,none⟩) 2 2,.slice (some ⟨b1,0,none⟩) 2 2]):IsRows W (some ⟨b2,0,none⟩) [[x,y],[z,u]]:=by
 intro _
 refine ⟨b2,0,rfl,h2.lt,fun i l hl=>?_⟩
 match i,hl with
 | 0,hl =>
  cases hl
  refine ⟨some ⟨b0,0,none⟩,2,h2.cell 0 rfl,Nat.le_refl _,fun _=>⟨b0,0,rfl,h0.lt,fun j z hj=>?_⟩⟩
  match j,hj with
  | 0,hj=>cases hj;exact h0.cell 0 rfl
  | 1,hj=>cases hj;exact h0.cell 1 rfl
 | 1,hl =>
  cases hl
  refine ⟨some ⟨b1,0,none⟩,2,h2.cell 1 rfl,Nat.le_refl _,fun _=>⟨b1,0,rfl,h1.lt,fun j z hj=>?_⟩⟩
  match j,hj with
  | 0,hj=>cases hj;exact h1.cell 0 rfl
  | 1,hj=>cases hj;exact h1.cell 1 rfl
theorem fit_two (x y z u:Int) (hx:x.natAbs≤1000) (hy:y.natAbs≤1000) (hz:z.natAbs≤1000) (hu:u.natAbs≤1000):Fit64 [[x,y],[z,u]]:=by
 refine ⟨by simp,fun l hl=>?_⟩
 simp only [List.mem_cons,List.not_mem_nil,or_false] at hl
 rcases hl with rfl|rfl
 ·refine ⟨by simp,fun a ha=>?_⟩
  simp only [List.mem_cons,List.not_mem_nil,or_false] at ha
  rcases ha with rfl|rfl <;> omega
 ·refine ⟨by simp,fun a ha=>?_⟩
  simp only [List.mem_cons,List.not_mem_nil,or_false] at ha
  rcases ha with rfl|rfl <;> omega
end Go.Proofs.YtdkgilioejdmeaaGreat
