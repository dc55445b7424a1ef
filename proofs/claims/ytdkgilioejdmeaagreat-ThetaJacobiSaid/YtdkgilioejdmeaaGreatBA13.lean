/- YtdkgilioejdmeaaGreatBA13: what is proved here stands in the theorems' own rows. -/
import Derived.Deep.DeepCutAuto
import Derived.Laws.EntriesVeiled
import Derived.Sort.Grow
import Derived.Shelf.SlGeneric
import Derived.Shelf.SlSortCmp.WholeK
import Derived.Shelf.SlSortCmp.NoneTotal
import Derived.Ground.SlsfProg
import Derived.Test.YtdkgilioejdmeaaGreatProg
import Derived.OwnWalkIn
import Derived.WalkKit
import Derived.Test.YtdkgilioejdmeaaGreatBA1
import Derived.Test.YtdkgilioejdmeaaGreatBA7
import Derived.Test.YtdkgilioejdmeaaGreatBA8
import Derived.Test.YtdkgilioejdmeaaGreatBA9
import Derived.Test.YtdkgilioejdmeaaGreatBA12
set_option linter.unusedVariables false
set_option linter.unusedSimpArgs false
namespace Go.Proofs.YtdkgilioejdmeaaGreat
open Go.RowKit
set_option maxHeartbeats 8000000 in
set_option maxRecDepth 100000 in
theorem ldl_any (A:Option Addr) (n c:Nat) (rows:List (List Int)) (f:Nat→Nat→Int) (w:World) (hn:n=rows.length) (hfe:f=entry rows) (hr:IsRows w A rows) (hf:Fit64 rows) (hsq:∀ l∈rows,l.length=n) (hc:chk rows=0) (hS:Start n f) (hn1:1≤n) :
  Calls Tryz.prog 98 #[.slice A n c] w fun e w'=>∃ g cap h hd,e = .returned (.tuple #[.slice (some ⟨g,0,none⟩) n cap,.slice (some ⟨hd,0,none⟩) n n,.int .i64 0])∧n≤cap∧MatQ w' w.heap.size g n h (ldP f n 0) (ldQ f n 0)∧QRow w' hd n (ldD f n) (ldE f n)∧w.heap.size≤hd∧(∀ i,i < n→h i≠hd)∧Ext w w':=by
 have hn8:=hS.dim
 have HChk:=zH (zC1 A n c rows w hn hr hf)
 rw [hc] at HChk
 have HOne:=zH (fun W=>zBi 1 W om om)
 have HEnt:=zH (fun i j W hi hj hX=>ent_at hn hr hf hsq i j W hi hj hX)
 rw [← hfe] at HEnt
 have HS:=zH hS
 have hmf:∀ (fn:Fn) (first cap:Array Value) (w:World),(Instr.makeFunc fn first cap).run Tryz.prog w = .ok (.func fn first cap) w:=fun _ _ _ _=>rfl
 clear hS hc hr hf hsq hn hfe
 go_enter Tryz.func98,Tryz.ntmps98
 go_upto_region 6 with (first
  | (go_at_call 49;refine HChk.out.mono ?_;rintro e w1 ⟨rfl,hx⟩;have HX1:=zH hx;clear hx)
  | (go_at_call 24;refine (HOne.out _).mono ?_;rintro e w2 ⟨A1,k1,rfl,hi1,hx⟩;have HX2:=zH (HX1.out.trans hx);have HI1:=zH hi1;clear hx hi1)
  | (go_at_call 140;refine (ofV _ _ _ _ _ HI1.out).mono ?_;rintro e w3 ⟨rfl,hq1,hx⟩;have HX3:=zH (HX2.out.trans hx);have HQ1:=zH hq1;clear hx hq1))
 obtain ⟨bx,hbx⟩:∃ bx,w3.heap.size=bx:=⟨_,rfl⟩
 obtain ⟨W4,hW4⟩:∃ W4,w3.alloc (.cells #[.bool false,.slice A1 k1 k1,.slice none 0 0] 144)=W4:=⟨_,rfl⟩
 have HX4:Hid (Ext w W4):=by rw [← hW4];exact HX3.out.alloc _
 have HB4:Hid (Blk W4 bx 144 #[.bool false,.slice A1 k1 k1,.slice none 0 0]):=by rw [← hW4,← hbx];exact Blk.new _ _ _
 have HQ4:Hid (IsQ W4 false A1 k1 none 0 1 1):=by rw [← hW4];exact HQ1.out.ext ((Ext.refl _).alloc _)
 rw [hW4,hbx]
 clear hW4 hbx HX1 HX2 HX3 HI1 HQ1 w1 w2 w3
 have HSq:=zH (fun (W:World) (hx:Ext W4 W)=>squareQ_any n bx (fun i j=>if i=j then 1 else 0) (fun _ _=>1) W hn1 om (fun i j V hi hj hV=>ldlEnt bx false A1 none k1 0 i j V (HB4.out.ext (hx.trans hV)) (HQ4.out.ext (hx.trans hV)) om om))
 go_upto_region 7 with (first
  | (go_at_call 141;refine (HSq.out _ (Ext.refl _)).mono ?_;rintro e w1 ⟨g,cap,h,rfl,hcap,hM,hx⟩;have HX1:=zH (HX4.out.trans hx);have HM1:=zH hM;have hlo1:=HX4.out.size;clear hx hM))
 obtain ⟨cs,hmk,hrow⟩:=make_rats (n:Int) n rfl om w1
 have HMk:Hid (QRow (w1.alloc (.cells cs 144)) w1.heap.size n (fun _=>0) (fun _=>1)):=hrow
 clear hrow HSq HChk HOne HX4 HB4 HQ4
 go_upto_region 8 with (fail)
 obtain ⟨hd,hhd⟩:∃ hd,w1.heap.size=hd:=⟨_,rfl⟩
 obtain ⟨W5,hW5⟩:∃ W5,w1.alloc (.cells cs 144)=W5:=⟨_,rfl⟩
 have HI5:Hid (LdInv w W5 n g hd h f 0 0 0):=by
  have hM:=HM1.out.ext ((Ext.refl w1).alloc (.cells cs 144))
  have hs:=HX1.out.size
  rw [← hW5,← hhd]
  exact ⟨⟨hM.rows,fun i hi=>((hM.congr fun a b _ _=>⟨((ld_start f a b).1).symm,((ld_start f a b).2).symm⟩).row i hi),hM.inj,fun i hi=>Nat.le_trans hlo1 (hM.low i hi),Nat.le_trans hlo1 hM.glow,hM.typ⟩,HMk.out.congr fun a _=>⟨rfl,rfl⟩,hs,fun i hi=>by have:=(HM1.out.row i hi).lt;omega,HX1.out.alloc _⟩
 rw [hW5,hhd]
 clear hW5 hhd HMk HM1 HX1 hlo1 hmk
 go_wp2
 go_loopg [29] n (fun kk kv wk=>∃ i:Nat,kk+i=n∧kv = .int .i64 i∧Hid (LdInv w wk n g hd h f i 0 i))
 case atStart=>exact ⟨0,by omega,rfl,HI5⟩
 clear HI5
 obtain ⟨i,hki,rfl,HI⟩:=hrel
 by_cases hin:i < n
 ·skip
  obtain ⟨wq,hwq⟩:∃ wq,wq=wr:=⟨_,rfl⟩
  have HI0:Hid (LdInv w wr n g hd h f i 0 (if 0≤i then i else i+1)):=by rw [if_pos om];exact HI
  have HKI:=zH hki
  clear hwq wq HI hki
  go_wp2
  go_loopg [34] (i+1) (fun kk jv wj=>∃ j:Nat,kk+j=i+1∧jv = .int .i64 j∧Hid (LdInv w wj n g hd h f i j (if j≤i then i else i+1)))
  case atStart=>exact ⟨0,by omega,rfl,HI0⟩
  clear HI0
  obtain ⟨j,hkj,rfl,HI⟩:=hrel
  by_cases hji:j < i+1
  ·skip
   rw [if_pos om] at HI
   have hjn:j < n:=by omega
   have HKJ:=zH hkj
   clear hkj
   obtain ⟨b,off,R,c',b2,off2,rfl,rfl,ca,hc',cb,z0,z1⟩:=HEnt.out i j wr hin hjn HI.out.ext
   obtain ⟨z,hz⟩:∃ z,f i j=z:=⟨_,rfl⟩
   rw [hz] at cb z0 z1
   have HZ:=zH hz
   have HOf:=zH (zOf_any z)
   clear hz
   go_upto_region 15 with (first
    | (go_at_call 24;refine (HOf.out _ z0 z1).mono ?_;rintro e w1 ⟨nz,Az,kz,rfl,hi1,hx⟩;have HX1:=zH hx;have HI1:=zH hi1;clear hx hi1)
    | (go_at_call 140;refine (ofV _ _ _ _ _ HI1.out).mono ?_;rintro e w2 ⟨rfl,hq1,hx⟩;have HX2:=zH (HX1.out.trans hx);have HQ1:=zH hq1;clear hx hq1))
   obtain ⟨b10,hb10⟩:∃ b10,w2.heap.size=b10:=⟨_,rfl⟩
   obtain ⟨W6,hW6⟩:∃ W6,w2.alloc (.cells #[.bool nz,.slice Az kz kz,.slice none 0 0] 144)=W6:=⟨_,rfl⟩
   have HI6:Hid (LdInv w W6 n g hd h f i j i):=by rw [← hW6];exact HI.out.up (HX2.out.alloc _)
   have HB6:Hid (QB W6 b10 (dmin f 0 i j) (det 0 f).natAbs):=by rw [← hW6,← hb10,zAm,HZ.out];exact QB.new HQ1.out
   have hs2:=HX2.out.size
   have hne1:Hid (∀ a,a < n→h a≠b10):=fun a ha=>by have:=(HI.out.mat.row a ha).lt;omega
   have hne2:hd≠b10:=by have:=HI.out.row.lt;omega
   have hlo6:w.heap.size≤b10:=by have:=HI.out.ext.size;omega
   rw [hW6,hb10]
   clear hW6 hb10 HX1 HX2 HI1 HQ1 HOf HZ z0 z1 ca cb HI w1 w2 hs2
   go_wp2
   go_loopg [47] j (fun kk kv wk=>∃ k:Nat,kk+k=j∧kv = .int .i64 k∧Hid (LdInv w wk n g hd h f i j i)∧Hid (QB wk b10 (dmin f k i j) (det k f).natAbs))
   case atStart=>exact ⟨0,by omega,rfl,HI6,HB6⟩
   clear HI6 HB6
   obtain ⟨k,hkk,rfl,HI,HB⟩:=hrel
   by_cases hkj:k < j
   ·skip
    have HKK:=zH hkk
    clear hkk
    have hki:k < i:=by omega
    have hkn:k < n:=by omega
    obtain ⟨na,Aa,ka,Ba,ma,ca1,ca2,ca3,ia⟩:=HI.out.readL hin (show doneL i j i k from ⟨hki,Or.inr ⟨rfl,hkj⟩⟩)
    obtain ⟨nd,Ad,kd,Bd,md,cd1,cd2,cd3,id⟩:=HI.out.readD hkn hki
    obtain ⟨nj,Aj,kj,Bj,mj,cj1,cj2,cj3,ij⟩:=HI.out.readL hjn (show doneL i j j k from ⟨hkj,by omega⟩)
    have cg:=HI.out.mat.rows i hin
    have cgj:=HI.out.mat.rows j hjn
    have HA:=zH ia
    have HD:=zH id
    have HJ:=zH ij
    clear ia id ij
    obtain ⟨hi,hhi⟩:∃ x,h i=x:=⟨_,rfl⟩
    obtain ⟨hj,hhj⟩:∃ x,h j=x:=⟨_,rfl⟩
    rw [hhi] at ca1 ca2 ca3 cg
    rw [hhj] at cj1 cj2 cj3 cgj
    have hnei:=hne1.out i hin
    have hnej:=hne1.out j hjn
    rw [hhi] at hnei
    rw [hhj] at hnej
    have HHi:=zH hhi
    have HHj:=zH hhj
    clear hhi hhj
    have HM1:=zH (fun W (hx:Ext wr W)=>ld_mul1 HS.out hin hki W na nd Aa Ba Ad Bd ka ma kd md (HA.out.ext hx) (HD.out.ext hx))
    have l1:=zAA ca1
    have l2:=zAA cd1
    have l3:=zAA cj1
    have l4:=zAA cg
    simp only at l1 l2 l3 l4
    obtain ⟨n10,A10,k10,B10,m10,q10,i10⟩:=HB.out.box
    obtain ⟨c10a,f10a,c10b,f10b,c10c,f10c⟩:=q10.three
    have l5:=q10.lt
    have HQ10:=zH i10
    have HXr:=zH (Ext.refl wr)
    clear q10 i10
    have HX:=HXr
    go_upto_region 18 with (fail)
    go_cut [12] (fun s12 wx=>∃ b12,s12 = .pointer (some ⟨b12,0,none⟩)∧wr.heap.size≤b12∧Hid (QB wx b12 (dmin f k i k) (det k f).natAbs)∧Hid (Ext wr wx))
    case first =>
     have HKeepT:=zH (fun (w':World) (hx:Ext wr w')=>(show w'.cell? ⟨g,i,none⟩=some (.slice (some ⟨hi,0,none⟩) n n)∧w'.cell? ⟨hi,k*3,none⟩=some (.bool na)∧w'.cell? ⟨hi,k*3+1,none⟩=some (.slice Aa ka ka)∧w'.cell? ⟨hi,k*3+2,none⟩=some (.slice Ba ma ma)∧w'.cell? ⟨hd,k*3,none⟩=some (.bool nd)∧w'.cell? ⟨hd,k*3+1,none⟩=some (.slice Ad kd kd)∧w'.cell? ⟨hd,k*3+2,none⟩=some (.slice Bd md md) from ⟨hx.cell cg,hx.cell ca1,hx.cell ca2,hx.cell ca3,hx.cell cd1,hx.cell cd2,hx.cell cd3⟩))
     have hxA:Ext wr wr:=Ext.refl _
     refine rU HKeepT [16,17] [14] 18 (fun hH hC=>?_)
     revert hC
     refine tk 0 18 hH ?_
     refine tk 1 18 hH ?_
     refine tk 2 18 hH ?_
     refine tk 3 18 hH ?_
     refine tk 4 18 hH ?_
     refine tk 5 18 hH ?_
     refine tk 6 18 hH ?_
     refine tk 7 18 hH ?_
     refine tk 8 18 hH ?_
     refine tk 9 18 hH ?_
     refine tk 10 18 hH ?_
     intro hC
     refine zAj (al:=15) (d:=12) (c:=11) (T:=144) (zs:=#[.bool false,.slice none 0 0,.slice none 0 0]) (fuel:=5) (L:=fun l12=>#[true,true,true,true,true,true,true,true,true,true,true,false,false,false,false,l12,false,false]) wr wr.heap.size hxA.size Sg Sg (by intro l12;cases l12 <;> kernel_rfl) (by intro l12;cases l12 <;> kernel_rfl) (by rfl) (by intro l12;cases l12 <;> kernel_rfl) ?_ (fun w' hx=>HKeepT.out _ (hxA.trans hx)) ?_ false wr.drew (Ext.refl _).drew AlOK.no
     ·intro v1 w' K' hK'
      try simp only [Act.put,sA,sB,sC]
      try simp only [Act.put,sA,sB,sC] at hK'
      go_simp
      exact hK'
     intro l12 v12 y hxy hal12 hct K hK
     (try clear hH)
     (try clear hC)
     try simp only [Act.put,sA,sB,sC]
     replace hxA:=hxA.trans hxy
     go_simp
     (go_at_call 102;with_reducible refine Calls.mono (HM1.out _ ?_) ?_;exact (by repeat (first|with_reducible exact hxA));rintro e w1 ⟨n1,A1,e1,B1,m1,rfl,hn1,hx⟩;have hxN:Ext wr w1:=Ext.trans (by repeat (first|with_reducible exact hxA)) hx;clear hxA;have hxA:=hxN;clear hxN;have HN1:=zH hn1;clear hn1;replace hal12:=AlOK.ext hal12 (Ext.trans (by repeat (first|with_reducible exact Ext.refl _)) hx);clear hx)
     try go_wp2_with fail
     have hHeldN:=HKeepT.out w1 hxA
     refine hK.out _ _ (fun _ _=>hHeldN) (fun hCn=>?_)
     clear hK K
     (try clear hct)
     have hH:=hHeldN
     have hC:=hCn
     clear hHeldN hCn
     try simp only [Act.put,sA,sB,sC]
     refine zAN hC hH (i:=12) (f:=18) (v:=?_) Sg kr (by cases l12 <;> kernel_rfl) (by cases l12 <;> kernel_rfl) kr Iq (by rfl) ?_ (fun hCn=>?_)
     rotate_left
     ·intro w' hSw;go_simp;(try with_reducible rfl)
     clear hC
     have hC:=hCn
     clear hCn
     try simp only [Act.put,sA,sB,sC]
     refine zAN hC hH (i:=13) (f:=18) (v:=?_) Sg kr (by cases l12 <;> kernel_rfl) (by cases l12 <;> kernel_rfl) kr Iq (by rfl) ?_ (fun hCn=>?_)
     rotate_left
     ·intro w' hSw;go_simp;(try with_reducible rfl)
     clear hC
     have hC:=hCn
     clear hCn
     try simp only [Act.put,sA,sB,sC]
     refine zAF hC (i:=14) (v:=?_) Sg kr (by cases l12 <;> kernel_rfl) (by cases l12 <;> kernel_rfl) kr Iq (by rfl) ?_ (fun hCn=>?_)
     rotate_left
     ·intro w';go_simp;(try with_reducible rfl)
     clear hC
     have hC:=hCn
     clear hCn
     try simp only [Act.put,sA,sB,sC]
     refine zAj (al:=15) (d:=12) (c:=16) (T:=144) (zs:=#[.bool false,.slice none 0 0,.slice none 0 0]) (fuel:=1) (L:=fun l12=>#[true,true,true,true,true,true,true,true,true,true,true,true,true,true,true,l12,false,false]) w1 wr.heap.size hxA.size Sg Sg (by intro l12;cases l12 <;> kernel_rfl) (by intro l12;cases l12 <;> kernel_rfl) (by rfl) (by intro l12;cases l12 <;> kernel_rfl) ?_ (fun w' hx=>HKeepT.out _ (hxA.trans hx)) ?_ l12 w1 (Ext.refl _) hal12
     ·intro v1 w' K' hK'
      try simp only [Act.put,sA,sB,sC]
      try simp only [Act.put,sA,sB,sC] at hK'
      go_simp
      exact hK'
     intro l12 v12 y hxy hal12 hct K hK
     (try clear hH)
     (try clear hC)
     try simp only [Act.put,sA,sB,sC]
     replace hxA:=hxA.trans hxy
     (try replace HN1:=zH (HN1.out.ext hxy))
     obtain rfl:l12=true:=by
      cases l12 with
      | false=>exact absurd (Eq.trans (Eq.symm hct) kr) (show ¬ (true=false) by decide)
      | true=>rfl
     obtain ⟨b12,rfl,hb12,k12⟩:=hal12 rfl
     clear hal12
     have zl12:=k12.lt
     obtain ⟨zc12a,zf12a,zc12b,zf12b,zc12c,zf12c⟩:=k12.three
     clear hct
     go_simp
     refine hK.out _ _ (fun h=>by cases h) (fun hCn=>?_)
     clear hK K
     have hC:=hCn
     clear hCn
     try simp only [Act.put,sA,sB,sC]
     refine zAB hC (i:=17) Sg kr (fun K hK=>?_)
     go_simp
     refine hK.out _ _ (fun h=>by cases h) (fun hCn=>?_)
     clear hK K hC
     have hC:=hCn
     clear hCn
     try simp only [Act.put,sA,sB,sC]
     refine zAD kr ?_ _
     clear hC HKeepT
     skip
     go_wp2
     refine Met.intro ?_
     go_step
     (repeat apply Exists.intro)
     refine And.symm ⟨?_,?_⟩
     ·first|with_reducible rfl
     first
     | exact ⟨_,rfl,(by first|assumption),zH (QB.mk2 (by (with_reducible repeat (first|(refine Blk.put3 ?_;· (repeat (first|exact BlkN.of k12 rfl)))))) (by (with_reducible repeat (first|exact HN1.out|(refine IsQ.setN ?_ ?_;· (repeat (first|exact NB.of k12 (by decide)|refine NB.set ?_))))))),zH Ext.ua⟩
    obtain ⟨b12,rfl,hb12,HB12,HX1⟩:=hcut
    obtain ⟨W1,hWn⟩:∃ W1,wc=W1:=⟨_,rfl⟩
    rw [hWn] at HB12 HX1 ⊢
    clear hWn wc
    replace cg:=HX1.out.cell cg
    replace cgj:=HX1.out.cell cgj
    replace ca1:=HX1.out.cell ca1
    replace ca2:=HX1.out.cell ca2
    replace ca3:=HX1.out.cell ca3
    replace cd1:=HX1.out.cell cd1
    replace cd2:=HX1.out.cell cd2
    replace cd3:=HX1.out.cell cd3
    replace cj1:=HX1.out.cell cj1
    replace cj2:=HX1.out.cell cj2
    replace cj3:=HX1.out.cell cj3
    replace f10a:=HX1.out.free f10a (zAA c10a)
    replace c10a:=HX1.out.cell c10a
    replace f10b:=HX1.out.free f10b (zAA c10b)
    replace c10b:=HX1.out.cell c10b
    replace f10c:=HX1.out.free f10c (zAA c10c)
    replace c10c:=HX1.out.cell c10c
    replace HJ:=zH (HJ.out.ext HX1.out)
    replace HQ10:=zH (HQ10.out.ext HX1.out)
    replace HX:=zH (HX.out.trans HX1.out)
    have hszW1:=HX1.out.size
    obtain ⟨n12,A12,k12,B12,m12,q12,hn12⟩:=HB12.out.box
    obtain ⟨c12a,f12a,c12b,f12b,c12c,f12c⟩:=q12.three
    have HQ12:=HB12
    have hl12:=q12.lt
    have HN12:=zH hn12
    clear hn12 q12 HB12
    have hs1:=HX.out.size
    have hn12i:hi≠b12:=by omega
    have hn12j:hj≠b12:=by omega
    have hn12d:hd≠b12:=by omega
    have hn1210:b10≠b12:=by omega
    have hne12:Hid (∀ a,a < n→h a≠b12):=fun a ha=>by have:=(HI.out.mat.row a ha).lt;omega
    have hlo12:w.heap.size≤b12:=by have:=HI.out.ext.size;omega
    have HI1:=zH (HI.out.up HX.out)
    have HB1:=zH (HB.out.ext HX.out)
    have HM2:=zH (fun W (hx:Ext W1 W)=>ld_mul2 HS.out hin hjn hki hkj W n12 nj A12 B12 Aj Bj k12 m12 kj mj (HN12.out.ext hx) (HJ.out.ext hx))
    go_upto_region 19 with (fail)
    have HKeepT:=zH (fun (w':World) (hx:Ext W1 w')=>(show w'.cell? ⟨g,j,none⟩=some (.slice (some ⟨hj,0,none⟩) n n)∧w'.cell? ⟨hj,k*3,none⟩=some (.bool nj)∧w'.cell? ⟨hj,k*3+1,none⟩=some (.slice Aj kj kj)∧w'.cell? ⟨hj,k*3+2,none⟩=some (.slice Bj mj mj)∧w'.cell? ⟨b12,0,none⟩=some (.bool n12)∧w'.cell? ⟨b12,1,none⟩=some (.slice A12 k12 k12)∧w'.cell? ⟨b12,2,none⟩=some (.slice B12 m12 m12) from ⟨hx.cell cgj,hx.cell cj1,hx.cell cj2,hx.cell cj3,hx.cell c12a,hx.cell c12b,hx.cell c12c⟩))
    refine rU HKeepT [12] [11] 13 (fun hH hC=>?_)
    revert hC
    refine tk 0 13 hH ?_
    refine tk 1 13 hH ?_
    refine tk 2 13 hH ?_
    refine tk 3 13 hH ?_
    refine tk 4 13 hH ?_
    refine tk 5 13 hH ?_
    refine tk 6 13 hH ?_
    refine tk 7 13 hH ?_
    intro hC
    refine zAB hC (i:=8) Sg kr (fun K hK=>?_)
    go_simp
    (go_at_call 102;with_reducible refine Calls.mono (HM2.out _ ?_) ?_;exact Ext.ua;rintro e w1 ⟨n1,A1,e1,B1,m1,rfl,hn1,hx⟩;have hxN:Ext W1 w1:=Ext.trans Ext.ua hx;have hxA:=hxN;clear hxN;have HN1:=zH hn1;clear hn1;have tc12a:=hxA.cell c12a;have uc12a:=hxA.free f12a (zAA c12a);have tc12b:=hxA.cell c12b;have uc12b:=hxA.free f12b (zAA c12b);have tc12c:=hxA.cell c12c;have uc12c:=hxA.free f12c (zAA c12c);clear hx)
    try go_wp2_with fail
    have hHeldN:=HKeepT.out w1 Ext.ua
    refine hK.out _ _ (fun _ _=>hHeldN) (fun hCn=>?_)
    clear hK K hH hC
    have hH:=hHeldN
    have hC:=hCn
    clear hHeldN hCn
    try simp only [Act.put,sA,sB,sC]
    revert hC
    refine tk 9 13 hH ?_
    refine tk 10 13 hH ?_
    intro hC
    refine zAF hC (i:=11) (v:=?_) Sg kr kr kr kr Iq (by rfl) ?_ (fun hCn=>?_)
    rotate_left
    ·intro w';go_simp;(try with_reducible rfl)
    clear hC
    have hC:=hCn
    clear hCn
    try simp only [Act.put,sA,sB,sC]
    refine zAB hC (i:=12) Sg kr (fun K hK=>?_)
    go_simp
    refine hK.out _ _ (fun h=>by cases h) (fun hCn=>?_)
    clear hK K hC
    have hC:=hCn
    clear hCn
    try simp only [Act.put,sA,sB,sC]
    refine zAD kr ?_ _
    clear hC HKeepT
    try clear hH
    obtain ⟨V2,hV2⟩:∃ V2,setQ w1 b12 0 n1 A1 e1 B1 m1=V2:=⟨_,rfl⟩
    have HI2:Hid (LdInv w V2 n g hd h f i j i):=by rw [← hV2];exact (HI1.out.up hxA).farQ (HQ12.out.typ.of_eq (hxA.block _ HQ12.out.typ.lt)) hne12.out hn12d hlo12
    have HB2:Hid (QB V2 b10 (dmin f k i j) (det k f).natAbs):=by rw [← hV2];exact (HB1.out.ext hxA).farQ (HQ12.out.typ.of_eq (hxA.block _ HQ12.out.typ.lt)) hn1210
    have HY2:Hid (QB V2 b12 (dmin f k i k*dmin f k j k) ((det k f).natAbs*(det (k+1) f).natAbs)):=by rw [← hV2];exact (HQ12.out.ext hxA).setQ HN1.out
    have eV:((w1.setCell ⟨b12,0,none⟩ (.bool n1)).setCell ⟨b12,1,none⟩ (.slice A1 e1 e1)).setCell ⟨b12,2,none⟩ (.slice B1 m1 m1)=V2:=hV2
    rw [eV]
    clear eV hV2 hxA HN1 HI1 HB1 HM1 HM2 HN12 HQ12 HJ HA HD HQ10 HXr HI HB cg cgj ca1 ca2 ca3 cd1 cd2 cd3 cj1 cj2 cj3 c10a c10b c10c f10a f10b f10c c12a c12b c12c f12a f12b f12c tc12a tc12b tc12c uc12a uc12b uc12c HX HX1
    obtain ⟨x0,A0,k0,B0,m0,q0,i0⟩:=HB2.out.box
    obtain ⟨c0a,f0a,c0b,f0b,c0c,f0c⟩:=q0.three
    obtain ⟨x3,A3,k3,B3,m3,q3,i3⟩:=HY2.out.box
    obtain ⟨c3a,f3a,c3b,f3b,c3c,f3c⟩:=q3.three
    have HS3:=zH (ld_sub HS.out hin om hkj V2 x0 x3 A0 B0 A3 B3 k0 m0 k3 m3 i0 i3)
    have hlq:=q0.lt
    have hlq3:=q3.lt
    clear i0 i3 q0 q3
    go_upto_region 21 with (go_at_call 104;refine HS3.out.mono ?_;rintro e v1 ⟨n4,A4,k4,B4,m4,rfl,hq4,hx⟩;have HX4:=zH hx;have HQ4:=zH hq4;have d0a:=hx.cell c0a;have d0b:=hx.cell c0b;have d0c:=hx.cell c0c;have g0a:=hx.free f0a (zAA c0a);have g0b:=hx.free f0b (zAA c0b);have g0c:=hx.free f0c (zAA c0c);clear hx hq4)
    obtain ⟨V5,hV5⟩:∃ V5,setQ v1 b10 0 n4 A4 k4 B4 m4=V5:=⟨_,rfl⟩
    have hT4:TB v1 144 b10:=HB2.out.typ.of_eq (HX4.out.block _ HB2.out.typ.lt)
    have HI5:Hid (LdInv w V5 n g hd h f i j i):=by rw [← hV5];exact (HI2.out.up HX4.out).farQ hT4 hne1.out hne2 hlo6
    have HB5:Hid (QB V5 b10 (dmin f (k+1) i j) (det (k+1) f).natAbs):=by rw [← hV5];exact (HB2.out.ext HX4.out).setQ HQ4.out
    have eV:((v1.setCell ⟨b10,0,none⟩ (.bool n4)).setCell ⟨b10,1,none⟩ (.slice A4 k4 k4)).setCell ⟨b10,2,none⟩ (.slice B4 m4 m4)=V5:=hV5
    rw [eV]
    clear eV hV5 hT4 HI2 HB2 HY2 HX4 HQ4 HS3 c0a c0b c0c f0a f0b f0c c3a c3b c3c f3a f3b f3c d0a d0b d0c g0a g0b g0c
    go_wp2
    go_roundg (j - (k+1))
    case measure=>have:=HKK.out;omega
    case rel=>exact ⟨k+1,by have:=HKK.out;omega,by go_num,HI5,HB5⟩
   ·skip
    obtain rfl:j=k:=by omega
    clear hkk hkj
    have hlb:=HB.out.typ.lt
    obtain ⟨n10,A10,k10,B10,m10,q10,i10⟩:=HB.out.box
    obtain ⟨c10a,f10a,c10b,f10b,c10c,f10c⟩:=q10.three
    have HQ10:=zH i10
    clear q10 i10
    by_cases hij:i=j
    ·skip
     obtain rfl:=hij
     rw [zAX] at HQ10
     have cd:=HI.out.row.cells i hin
     obtain ⟨nd,Ad,kd,Bd,md,cd1,cd2,cd3,_⟩:=cd
     have fd1:=HI.out.row.free (i*3)
     have fd2:=HI.out.row.free (i*3+1)
     have fd3:=HI.out.row.free (i*3+2)
     have hld:=HI.out.row.lt
     have HI7:=zH (HI.out.setD hin HQ10.out)
     go_upto_region 25 with (fail)
     obtain ⟨V5,hV5⟩:∃ V5,setQ wr hd (i*3) n10 A10 k10 B10 m10=V5:=⟨_,rfl⟩
     rw [hV5] at HI7
     have eV:((wr.setCell ⟨hd,i*3,none⟩ (.bool n10)).setCell ⟨hd,i*3+1,none⟩ (.slice A10 k10 k10)).setCell ⟨hd,i*3+2,none⟩ (.slice B10 m10 m10)=V5:=hV5
     rw [eV]
     clear eV hV5 HI HB HQ10 cd1 cd2 cd3 fd1 fd2 fd3 c10a c10b c10c f10a f10b f10c hlb hld
     go_wp2
     go_roundg (i+1 - (i+1))
     case measure=>have:=HKJ.out;omega
     case rel=>exact ⟨i+1,by have:=HKJ.out;omega,by go_num,by rw [if_neg om];exact HI7⟩
    ·skip
     have hjl:j < i:=by omega
     obtain ⟨nd,Ad,kd,Bd,md,cd1,cd2,cd3,id⟩:=HI.out.readD hjn hjl
     have ci:=(HI.out.mat.row i hin).cells j hjn
     obtain ⟨ni,Ai,ki,Bi,mi,ci1,ci2,ci3,_⟩:=ci
     have fi1:=(HI.out.mat.row i hin).free (j*3)
     have fi2:=(HI.out.mat.row i hin).free (j*3+1)
     have fi3:=(HI.out.mat.row i hin).free (j*3+2)
     have cg:=HI.out.mat.rows i hin
     have HT:=zH ((HI.out.mat.row i hin).typ)
     have HD:=zH id
     clear id
     obtain ⟨hi,hhi⟩:∃ x,h i=x:=⟨_,rfl⟩
     rw [hhi] at ci1 ci2 ci3 fi1 fi2 fi3 cg HT
     have HHi:=zH hhi
     clear hhi
     have HM:=zH (fun W (hx:Ext wr W)=>ld_div HS.out hin hjl W n10 nd A10 B10 Ad Bd k10 m10 kd md (HQ10.out.ext hx) (HD.out.ext hx))
     have hij3:(i:Int)≠(j:Int):=by omega
     have l1:=zAA ci1
     have l2:=zAA cd1
     have l3:=zAA cg
     simp only at l1 l2 l3
     go_upto_region 24 with (fail)
     have HKeepT:=zH (fun (w':World) (hx:Ext wr w')=>(show w'.cell? ⟨g,i,none⟩=some (.slice (some ⟨hi,0,none⟩) n n)∧w'.cell? ⟨b10,0,none⟩=some (.bool n10)∧w'.cell? ⟨b10,1,none⟩=some (.slice A10 k10 k10)∧w'.cell? ⟨b10,2,none⟩=some (.slice B10 m10 m10)∧w'.cell? ⟨hd,j*3,none⟩=some (.bool nd)∧w'.cell? ⟨hd,j*3+1,none⟩=some (.slice Ad kd kd)∧w'.cell? ⟨hd,j*3+2,none⟩=some (.slice Bd md md) from ⟨hx.cell cg,hx.cell c10a,hx.cell c10b,hx.cell c10c,hx.cell cd1,hx.cell cd2,hx.cell cd3⟩))
     refine rU HKeepT [15] [13] 16 (fun hH hC=>?_)
     revert hC
     refine tk 0 16 hH ?_
     refine tk 1 16 hH ?_
     refine tk 2 16 hH ?_
     refine tk 3 16 hH ?_
     refine tk 4 16 hH ?_
     refine tk 5 16 hH ?_
     refine tk 6 16 hH ?_
     refine tk 7 16 hH ?_
     refine tk 8 16 hH ?_
     refine tk 9 16 hH ?_
     intro hC
     refine zAB hC (i:=10) Sg kr (fun K hK=>?_)
     go_simp
     (go_at_call 143;with_reducible refine Calls.mono (HM.out _ ?_) ?_;exact Ext.ua;rintro e w1 ⟨n1,A1,e1,B1,m1,rfl,hn1,hx⟩;have hxN:Ext wr w1:=Ext.trans Ext.ua hx;have hxA:=hxN;clear hxN;have HN1:=zH hn1;clear hn1;have tci1:=hxA.cell ci1;have uci1:=hxA.free fi1 (zAA ci1);have tci2:=hxA.cell ci2;have uci2:=hxA.free fi2 (zAA ci2);have tci3:=hxA.cell ci3;have uci3:=hxA.free fi3 (zAA ci3);clear hx)
     try go_wp2_with fail
     have hHeldN:=HKeepT.out w1 Ext.ua
     refine hK.out _ _ (fun _ _=>hHeldN) (fun hCn=>?_)
     clear hK K hH hC
     have hH:=hHeldN
     have hC:=hCn
     clear hHeldN hCn
     try simp only [Act.put,sA,sB,sC]
     revert hC
     refine tk 11 16 hH ?_
     refine tk 12 16 hH ?_
     refine tk 14 16 hH ?_
     intro hC
     refine zAF hC (i:=13) (v:=?_) Sg kr kr kr kr Iq (by rfl) ?_ (fun hCn=>?_)
     rotate_left
     ·intro w';go_simp;(try with_reducible rfl)
     clear hC
     have hC:=hCn
     clear hCn
     try simp only [Act.put,sA,sB,sC]
     refine zAB hC (i:=15) Sg kr (fun K hK=>?_)
     go_simp
     refine hK.out _ _ (fun h=>by cases h) (fun hCn=>?_)
     clear hK K hC
     have hC:=hCn
     clear hCn
     try simp only [Act.put,sA,sB,sC]
     refine zAD kr ?_ _
     clear hC HKeepT
     try clear hH
     obtain ⟨V5,hV5⟩:∃ V5,setQ w1 hi (j*3) n1 A1 e1 B1 m1=V5:=⟨_,rfl⟩
     have HI7:Hid (LdInv w V5 n g hd h f i (j+1) i):=by rw [← hV5,← HHi.out];exact (HI.out.up hxA).setL hin hjl HN1.out
     have eV:((w1.setCell ⟨hi,j*3,none⟩ (.bool n1)).setCell ⟨hi,j*3+1,none⟩ (.slice A1 e1 e1)).setCell ⟨hi,j*3+2,none⟩ (.slice B1 m1 m1)=V5:=hV5
     rw [eV]
     clear eV hV5 HI HB HQ10 HM HD HT HN1 hxA cg cd1 cd2 cd3 ci1 ci2 ci3 fi1 fi2 fi3 c10a c10b c10c f10a f10b f10c hlb HHi
     go_wp2
     go_roundg (i+1 - (j+1))
     case measure=>have:=HKJ.out;omega
     case rel=>exact ⟨j+1,by have:=HKJ.out;omega,by go_num,by rw [if_pos om];exact HI7⟩
  ·skip
   obtain rfl:i+1=j:=by omega
   rw [if_neg om] at HI
   have HI7:=zH HI.out.next
   clear HI
   go_wp2
   go_roundg (n - (i+1))
   case measure=>have:=HKI.out;omega
   case rel=>exact ⟨i+1,by have:=HKI.out;omega,by go_num,HI7⟩
 ·skip
  obtain rfl:n=i:=by omega
  go_wp2
  exact bodyPost_ret (v:=.tuple #[.slice (some ⟨g,0,none⟩) n cap,.slice (some ⟨hd,0,none⟩) n n,.int .i64 0]) (by simp [results,Tryz.results98,go_sem]) rfl ⟨g,cap,h,hd,rfl,hcap,HI.out.mat,HI.out.row,HI.out.low,HI.out.ne,HI.out.ext⟩
theorem steps_all (D:ItD) (J:List (List Int × Int)→World→Prop) (Jx:World→Prop) (a0 V:Nat→Nat→Int) (hB:InBasis D.n a0 D.f D.U V) (hS0:Start D.n a0) (hn1:1≤D.n) (hb:D.nb≤4096) (hnb:0≤D.nb) (hC:Cons (GoodP D) D.lp D.X D.n J Jx):∀ r,r≤D.n→StepOK D J Jx r:=by
 intro r
 induction r with
 | zero=>intro _;exact leaf_any D J Jx a0 V hB hS0 hn1 hb hnb hC
 | succ r ih =>
  intro hr
  exact step_any D J Jx r hB.start om hb hnb hC (try_any D J Jx r hB.start om hb hnb hC.abide (ih om))
theorem fit_of_chk {rows:List (List Int)} (hc:chk rows=0):Fit64 rows:=by
 obtain ⟨h1,h8,hsq,hsm,_⟩:=zCp hc
 refine ⟨by omega,fun l hl=>⟨by rw [hsq l hl];omega,fun z hz=>?_⟩⟩
 obtain ⟨i,hi⟩:=List.mem_iff_getElem?.1 hl
 obtain ⟨j,hj⟩:=List.mem_iff_getElem?.1 hz
 have:=zAw.1 hsm i l hi j z hj
 unfold smallP smallB at this
 simp only [Bool.and_eq_true,decide_eq_true_eq] at this
 omega
theorem Qr_top {n:Nat} {A:Nat→Nat→Int} (h:PD n A) (x:Nat→Int):Qr n A n x=0:=by
 unfold Qr
 refine zA5 fun i hi=>?_
 rw [zA5 (f:=fun j=>dmin A n i j*x j) fun j hj=>by rw [zAy A n i j hj,Int.zero_mul],Int.mul_zero]
set_option maxHeartbeats 8000000 in
set_option maxRecDepth 100000 in
theorem walk1_any (A:Option Addr) (n c:Nat) (rows:List (List Int)) (nb:Int) (w0:World) (ba bn:Nat) (hn:n=rows.length) (hr:IsRows w0 A rows) (hf:Fit64 rows) (hc:chk rows=0) (hnb:0≤nb) (hb:nb≤4096) (ha:Blk w0 ba 22 #[.slice A n c]) (hbn:Blk w0 bn 2 #[.int .i64 nb]) :
  WalkOK 96 #[pt ba,pt bn] n (entry rows) nb w0:=by
 intro l J Jx W hx hC hJ
 obtain ⟨hn1,h8,hsq,_⟩:=zCp hc
 obtain ⟨fuel,ct',V,hred,hB,hchk,hlen,hsq2⟩:=basis_in hc
 have hS0:=zC2 hc
 rw [← hn] at hn1 h8 hsq hred hB hchk hlen hsq2 hS0
 obtain ⟨rows2,hrows2⟩:∃ r2,basR n rows ct'=r2:=⟨_,rfl⟩
 obtain ⟨U,hU⟩:∃ r2,basU n ct'=r2:=⟨_,rfl⟩
 have HBas:=zH (fun W' (h:Ext W W')=>shortBasis_any A n c rows W' ct' fuel hn hn1 om (hr.ext (hx.trans h)) hf hsq hc hred)
 rw [hrows2,hU] at HBas
 rw [hrows2] at hB hchk hlen hsq2
 rw [hU] at hB
 have HLdl:=zH (fun W' R cR (h:IsRows W' R rows2)=>ldl_any R n cR rows2 (entry rows2) W' hlen.symm rfl h (fit_of_chk hchk) hsq2 hchk hB.start hn1)
 have HInt:=zH (fun W' g cg lo h (hM:MatZ W' lo g n h U)=>matInt_any g n cg lo h U W' hn1 om hM hB.fit)
 have HB:=zH hB
 have HS0:=zH hS0
 have HC:=zH hC
 have HJ:=zH hJ
 have HW:=zH hx
 have ca:=(ha.ext hx).one.1
 have cn:=(hbn.ext hx).one.1
 have HKn:=zH (hbn.ext hx)
 have la:=zAA ca
 have ln:=zAA cn
 simp only at la ln
 have hmf:∀ (fn:Fn) (first cap:Array Value) (w:World),(Instr.makeFunc fn first cap).run Tryz.prog w = .ok (.func fn first cap) w:=fun _ _ _ _=>rfl
 obtain ⟨R,hR⟩:∃ R:Ending→World→Prop,(fun e W'=>(∃ v,e = .returned v)∧((∃ X L,w0.heap.size≤X∧Told n (entry rows) nb L∧J X L W')∨Jx W'))=R:=⟨_,rfl⟩
 have HR:=zH hR
 rw [hR]
 clear hR hx hC hJ hsq hred hB hchk hlen hsq2 hS0 hrows2 hU hr hf hc ha hbn hn
 unfold pt
 show Calls Tryz.prog 96 #[.func (.yield l) #[] #[],.pointer (some ⟨ba,0,none⟩),.pointer (some ⟨bn,0,none⟩)] W R
 go_enter Tryz.func96,Tryz.ntmps96
 go_upto_region 1 with (fail)
 obtain ⟨W0,hW0⟩:∃ W0,W.alloc (.cells #[.func (.yield l) #[] #[]] 114)=W0:=⟨_,rfl⟩
 obtain ⟨b3,hb3⟩:∃ b,W.heap.size=b:=⟨_,rfl⟩
 have HX0:Hid (Ext W W0):=by rw [← hW0];exact (Ext.refl _).alloc _
 have HK3:Hid (Blk W0 b3 114 #[.func (.yield l) #[] #[]]):=by rw [← hW0,← hb3];exact Blk.new _ _ _
 (try rw [hW0])
 (try rw [hb3])
 clear hW0 hb3
 have ca0:=HX0.out.cell ca
 have cn0:=HX0.out.cell cn
 clear ca
 have HBs:=zH (HBas.out W0 HX0.out)
 go_upto_region 2 with (go_at_call 97;refine HBs.out.mono ?_;rintro e w1 ⟨R2,cR,gM,cap,hM,rfl,hr2,hcap,hm,hx⟩;have HX1:=zH (HX0.out.trans hx);have HK31:=zH (HK3.out.ext hx);have HR2:=zH hr2;have HM:=zH hm;clear hx hr2 hm)
 obtain ⟨W2,hW2⟩:∃ W0,w1.alloc (.cells #[.slice (some ⟨gM,0,none⟩) n cap] 81)=W0:=⟨_,rfl⟩
 obtain ⟨b5,hb5⟩:∃ b,w1.heap.size=b:=⟨_,rfl⟩
 have h12:Ext w1 W2:=by rw [← hW2];exact (Ext.refl _).alloc _
 have HK5:Hid (Blk W2 b5 81 #[.slice (some ⟨gM,0,none⟩) n cap]):=by rw [← hW2,← hb5];exact Blk.new _ _ _
 have HX2:=zH (HX1.out.trans h12)
 have HK32:=zH (HK31.out.ext h12)
 have HM2:=zH (HM.out.ext h12)
 have HLd:=zH (HLdl.out W2 R2 cR (HR2.out.ext h12))
 rw [hW2,hb5]
 clear hW2 hb5 h12 HBs HBas HX0 HK3 HX1 HK31 HM HR2 HLdl ca0 cn0
 go_upto_region 3 with (go_at_call 98;refine HLd.out.mono ?_;rintro e w3 ⟨gl,capl,hl,hd,rfl,hcapl,hm,hq,hlo,hne,hx⟩;have HX3:=zH (HX2.out.trans hx);have HK33:=zH (HK32.out.ext hx);have HK53:=zH (HK5.out.ext hx);have HM3:=zH (HM2.out.ext hx);have HML:=zH hm;have HQ:=zH hq;clear hx hm hq hlo hne)
 obtain ⟨W4,hW4⟩:∃ W0,(w3.alloc (.cells #[.slice (some ⟨gl,0,none⟩) n capl] 138)).alloc (.cells #[.slice (some ⟨hd,0,none⟩) n n] 139)=W0:=⟨_,rfl⟩
 obtain ⟨b7,hb7⟩:∃ b,w3.heap.size+1=b:=⟨_,rfl⟩
 obtain ⟨b6,hb6⟩:∃ b,w3.heap.size=b:=⟨_,rfl⟩
 have h34:Ext w3 W4:=by rw [← hW4];exact ((Ext.refl _).alloc _).alloc _
 have HK6:Hid (Blk W4 b6 138 #[.slice (some ⟨gl,0,none⟩) n capl]):=by rw [← hW4,← hb6];exact Blk.al (Blk.new _ _ _)
 have HK7:Hid (Blk W4 b7 139 #[.slice (some ⟨hd,0,none⟩) n n]):=by rw [← hW4,← hb7];exact Blk.at (by simp)
 have HX4:=zH (HX3.out.trans h34)
 have HK34:=zH (HK33.out.ext h34)
 have HK54:=zH (HK53.out.ext h34)
 have HML4:=zH (HML.out.ext h34)
 have HQ4:=zH (HQ.out.ext h34)
 have HIt:=zH (HInt.out W4 gM cap _ hM (HM3.out.ext h34))
 rw [hW4,hb7,hb6]
 clear hW4 hb6 hb7 h34 HX2 HX3 HK32 HK33 HK53 HM2 HM3 HML HQ HInt HLd HK5
 obtain ⟨c5,f5⟩:=HK54.out.one
 go_upto_region 5 with (go_at_call 89;refine HIt.out.mono ?_;rintro e w5 ⟨gr,capr,rr,cp,rfl,hcapr,hgr,hu,hx⟩;have HX5:=zH (HX4.out.trans hx);have HK35:=zH (HK34.out.ext hx);have HK65:=zH (HK6.out.ext hx);have HK75:=zH (HK7.out.ext hx);have HML5:=zH (HML4.out.ext hx);have HQ5:=zH (HQ4.out.ext hx);have HU:=zH hu;clear hx hu)
 obtain ⟨W6,hW6⟩:∃ W0,w5.alloc (.cells #[.slice (some ⟨gr,0,none⟩) n capr] 22)=W0:=⟨_,rfl⟩
 obtain ⟨b9,hb9⟩:∃ b,w5.heap.size=b:=⟨_,rfl⟩
 have h56:Ext w5 W6:=by rw [← hW6];exact (Ext.refl _).alloc _
 have HK9:Hid (Blk W6 b9 22 #[.slice (some ⟨gr,0,none⟩) n capr]):=by rw [← hW6,← hb9];exact Blk.new _ _ _
 have HX6:=zH (HX5.out.trans h56)
 have HK36:=zH (HK35.out.ext h56)
 have HK66:=zH (HK65.out.ext h56)
 have HK76:=zH (HK75.out.ext h56)
 have HML6:=zH (HML5.out.ext h56)
 have HQ6:=zH (HQ5.out.ext h56)
 have HU6:=zH (show URows W6 gr n rr cp U from ⟨fun a ha=>h56.cell (HU.out.cell a ha),HU.out.cap,fun a ha=>(HU.out.row a ha).ext h56,HU.out.typ.of_eq (h56.block _ HU.out.typ.lt)⟩)
 rw [hW6,hb9]
 clear hW6 hb9 h56 HX4 HX5 HK34 HK35 HK54 HK6 HK65 HK7 HK75 HML4 HML5 HQ4 HQ5 HU HIt c5 f5
 obtain ⟨cs,hmk,hT,hcl,hfr⟩:=zDD (n:Int) n rfl om W6
 have HY:Hid (NRow (W6.alloc (.cells cs 2)) W6.heap.size n (fun _=>0)):=⟨hcl,hfr,hT⟩
 clear hT hcl hfr
 go_upto_region 7 with (fail)
 obtain ⟨X,hXe⟩:∃ b,W6.heap.size=b:=⟨_,rfl⟩
 obtain ⟨b12,hb12⟩:∃ b,W6.heap.size+1+1=b:=⟨_,rfl⟩
 obtain ⟨b11,hb11⟩:∃ b,W6.heap.size+1=b:=⟨_,rfl⟩
 obtain ⟨W8,hW8⟩:∃ W8,((W6.alloc (.cells cs 2)).alloc (.cells #[.slice (some ⟨X,0,none⟩) n n] 31)).alloc (.cells #[.nilFunc] 142)=W8:=⟨_,rfl⟩
 have h68:Ext W6 W8:=by rw [← hW8];exact (((Ext.refl _).alloc _).alloc _).alloc _
 have HK11:Hid (Blk W8 b11 31 #[.slice (some ⟨X,0,none⟩) n n]):=by rw [← hW8,← hb11];exact Blk.al (Blk.at (by simp))
 have HK12:Hid (Blk W8 b12 142 #[.nilFunc]):=by rw [← hW8,← hb12];exact Blk.at (by simp)
 have HY8:Hid (NRow W8 X n (fun _=>0)):=by rw [← hW8,← hXe];exact (HY.out.ext ((Ext.refl _).alloc _)).ext ((Ext.refl _).alloc _)
 rw [hXe] at hb12 hb11
 rw [hXe]
 rw [hb12,hb11,hW8]
 obtain ⟨b13,hb13⟩:∃ b,W8.heap.size=b:=⟨_,rfl⟩
 obtain ⟨W9,hW9⟩:∃ W9,W8.alloc (.cells #[.nilFunc] 149)=W9:=⟨_,rfl⟩
 have hK13:Blk W9 b13 149 #[.nilFunc]:=by rw [← hW9,← hb13];exact Blk.new _ _ _
 have h89:Ext W8 W9:=by rw [← hW9];exact (Ext.refl _).alloc _
 obtain ⟨c13,f13⟩:=hK13.one
 obtain ⟨c12,f12⟩:=(HK12.out.ext h89).one
 have l13:=hK13.lt
 have l12:=(HK12.out.ext h89).lt
 go_upto_region 8 with (fail)
 obtain ⟨W11,hW11⟩:∃ W11,(W9.setCell ⟨b13,0,none⟩ (.func (.func 99) #[] #[pt b11,pt b7,pt b12])).setCell ⟨b12,0,none⟩ (.func (.func 105) #[] #[pt b11,pt b9,pt b3,pt bn,pt b6,pt b13])=W11:=⟨_,rfl⟩
 have hXlt:X < W8.heap.size:=HY8.out.typ.lt
 have h11lt:b11 < W8.heap.size:=HK11.out.lt
 have h12lt:b12 < W8.heap.size:=HK12.out.lt
 have n1:b12≠b13:=by omega
 have n2:X≠b13:=by omega
 have n3:X≠b12:=by omega
 have n4:b11≠b13:=by omega
 have n5:b11≠b12:=by omega
 have HKt:Hid (Blk W11 b13 149 #[.func (.func 99) #[] #[pt b11,pt b7,pt b12]]):=by rw [← hW11];exact (hK13.set 0 _).far2 (Ne.symm n1)
 have HKs:Hid (Blk W11 b12 142 #[.func (.func 105) #[] #[pt b11,pt b9,pt b3,pt bn,pt b6,pt b13]]):=by rw [← hW11];exact ((HK12.out.ext h89).far2 n1).set 0 _
 have HKx:Hid (Blk W11 b11 31 #[.slice (some ⟨X,0,none⟩) n n]):=by rw [← hW11];exact ((HK11.out.ext h89).far2 n4).far2 n5
 have HYx:Hid (NRow W11 X n (fun _=>0)):=by rw [← hW11];exact ((HY8.out.ext h89).far n2 _).far n3 _
 have HX11:Hid (Ext W6 W11):=by rw [← hW11];exact ((h68.trans h89).setCell (p:=⟨b13,0,none⟩) (by simp only [];omega) _).setCell (p:=⟨b12,0,none⟩) (by simp only [];omega) _
 unfold pt at hW11
 go_upto_region 9 with (fail)
 have HXW:=zH (HX6.out.trans HX11.out)
 have hXw:W.heap.size≤X:=by have:=HX6.out.size;omega
 clear hW11 hK13 h89 h68 c13 f13 c12 f12 l13 l12 hb13 hW9 hW8 hb11 hb12 HK11 HK12 HY8 hmk
 obtain ⟨D,hD⟩:∃ D:ItD,D={ n:=n,nb:=nb,f:=entry rows2,U:=U,lp:=l,bx:=b11,X:=X,bd:=b7,hd:=hd,bl:=b6,gl:=gl,capl:=capl,lo:=W2.heap.size,hl:=hl,br:=b9,gr:=gr,capr:=capr,rr:=rr,cp:=cp,byl:=b3,bn:=bn,bs:=b12,bt:=b13 } := ⟨_,rfl⟩
 have HIt:Hid (ItOK D W11):=by
  rw [hD]
  exact ⟨HKx.out,HK76.out.ext HX11.out,HK66.out.ext HX11.out,HK9.out.ext HX11.out,HK36.out.ext HX11.out,HKn.out.ext HXW.out,HKs.out,HKt.out,HML6.out.ext HX11.out,HQ6.out.ext HX11.out,
   ⟨fun a ha=>HX11.out.cell (HU6.out.cell a ha),HU6.out.cap,fun a ha=>(HU6.out.row a ha).ext HX11.out,HU6.out.typ.of_eq (HX11.out.block _ HU6.out.typ.lt)⟩,HYx.out.typ,by show bn≠X;omega,fun i hi=>by
    have:=(HU6.out.row i hi).typ.lt
    show rr i≠X
    omega,hcapl,hcapr⟩
 have hCX:=HC.out X hXw
 have HSt:Hid (∀ W' n1 A1 e1 B1 m1,(IsQ W' n1 A1 e1 B1 m1 nb 1∧Ext W11 W')→Calls Tryz.prog 105 #[.int .i64 (IntKind.i64.wrap ((n:Int) - 1)),.agg #[.bool n1,.slice A1 e1 e1,.slice B1 m1 m1],.pointer (some ⟨b11,0,none⟩),.pointer (some ⟨b9,0,none⟩),.pointer (some ⟨b3,0,none⟩),.pointer (some ⟨bn,0,none⟩),.pointer (some ⟨b6,0,none⟩),.pointer (some ⟨b13,0,none⟩)] W' fun e w'=>∃ b,e = .returned (.bool b)∧Goes D (J X) Jx [] n (fun _=>0) W' b w'):=by
  intro W' n1 A1 e1 B1 m1 ⟨hq,hx⟩
  rw [wrap_fits (z:=(n:Int) - 1) om]
  have hBD:InBasis D.n (entry rows) D.f D.U V:=by rw [hD];exact HB.out
  have hSD:Start D.n (entry rows):=by rw [hD];exact HS0.out
  have hCD:Cons (TellOK D.n (entry rows) D.nb) D.lp D.X D.n (J X) Jx:=by rw [hD];exact hCX
  have hs:=steps_all D (J X) Jx (entry rows) V hBD hSD (by rw [hD];exact hn1) (by rw [hD];exact hb) (by rw [hD];exact hnb) (hCD.imp fun pre h=>good_tell hBD h) D.n (Nat.le_refl _)
  have hpd:=hBD.start.pd
  have hdet:=hpd.pos (Nat.le_refl D.n)
  have e0:Qr D.n D.f D.n (fun _=>0)=0:=Qr_top hpd _
  have hnbD:D.nb=nb:=by rw [hD]
  have h0:0≤D.nb*det D.n D.f:=Int.mul_nonneg (by rw [hnbD];exact hnb) om
  have h:=hs [] (fun _=>0) n1 A1 B1 e1 m1 W' ⟨List.nodup_nil,fun v hv=>absurd hv (by simp),fun v hv=>absurd hv (by simp)⟩ (HIt.out.ext hx) (by rw [hD];exact HYx.out.ext hx) (hCX.abide _ _ _ (hCX.abide _ _ _ (HJ.out X hXw) (HXW.out.toBut _)) (hx.toBut _)) (by rw [e0];exact h0) (by
   rw [e0,hnbD]
   refine hq.conv om ?_
   rw [show (((det D.n D.f).natAbs:Nat):Int)=det D.n D.f by omega];simp)
  unfold pt at h
  rw [hD] at h
  rw [hD]
  exact h
 have HWh:=zH (fun W'=>zDN nb W' om om)
 obtain ⟨c11,f11⟩:=HKx.out.one
 obtain ⟨c12,f12⟩:=HKs.out.one
 have cn9:=HXW.out.cell cn
 clear cn
 unfold pt at c12
 have l11:=HKx.out.lt
 have l12:=HKs.out.lt
 have lX:=HYx.out.typ.lt
 have HD:=zH (show D.n=n∧D.f=entry rows2∧D.U=U∧D.nb=nb by rw [hD];exact ⟨rfl,rfl,rfl,rfl⟩)
 have HCX:=zH hCX
 clear hD hCX HKt HKs HKx HYx HX11 hXlt h11lt h12lt n1 n2 n3 n4 n5 HIt
 go_upto_region 9 with (fail)
 have HKeepT:=zH (fun (w':World) (hx:Ext W11 w')=>(show w'.cell? ⟨b11,0,none⟩=some (.slice (some ⟨X,0,none⟩) n n)∧w'.cell? ⟨b12,0,none⟩=some (.func (.func 105) #[] #[.pointer (some ⟨b11,0,none⟩),.pointer (some ⟨b9,0,none⟩),.pointer (some ⟨b3,0,none⟩),.pointer (some ⟨bn,0,none⟩),.pointer (some ⟨b6,0,none⟩),.pointer (some ⟨b13,0,none⟩)])∧w'.cell? ⟨bn,0,none⟩=some (.int .i64 nb) from ⟨hx.cell c11,hx.cell c12,hx.cell cn9⟩))
 refine rU HKeepT [6] [] 7 (fun hH hC=>?_)
 revert hC
 refine tk 0 7 hH ?_
 refine tk 1 7 hH ?_
 refine tk 2 7 hH ?_
 refine tk 3 7 hH ?_
 refine tk 4 7 hH ?_
 intro hC
 refine zAB hC (i:=5) Sg kr (fun K hK=>?_)
 go_simp
 (go_at_call 101;refine (HWh.out _).mono ?_;rintro e w1 ⟨n1,A1,e1,B1,m1,rfl,hn1,hx⟩;have hxN:Ext W11 w1:=Ext.trans Ext.ua hx;have hxA:=hxN;clear hxN;have HN1:=zH hn1;clear hn1;clear hx)
 try go_wp2_with fail
 have hHeldN:=HKeepT.out w1 Ext.ua
 refine hK.out _ _ (fun _ _=>hHeldN) (fun hCn=>?_)
 clear hK K hH hC
 have hH:=hHeldN
 have hC:=hCn
 clear hHeldN hCn
 try simp only [Act.put,sA,sB,sC]
 refine zAB hC (i:=6) Sg kr (fun K hK=>?_)
 go_simp
 (go_at_call 105;with_reducible refine Calls.mono (HSt.out _ _ _ _ _ _ ?_) ?_;exact ⟨HN1.out,hxA⟩;rintro e w2 ⟨b,rfl,hg⟩)
 try go_wp2_with fail
 refine hK.out _ _ (fun h=>by cases h) (fun hCn=>?_)
 clear hK K hC
 have hC:=hCn
 clear hCn
 try simp only [Act.put,sA,sB,sC]
 refine zAD kr ?_ _
 clear hC HKeepT
 try clear hH
 have HG:=zH hg
 clear hg
 go_wp2
 first
 | (refine bodyPost_ret (v:=.tuple #[]) (by simp [results,Tryz.results96,go_sem]) rfl ?_;rw [← HR.out];refine ⟨⟨_,rfl⟩,?_⟩)
 rcases HG.out with ⟨_,x',M,_,_,hM,hj,_⟩|⟨_,hjx⟩
 ·refine Or.inl ⟨X,M.map (told D),?_,?_,hj⟩
  ·have:=HW.out.size;omega
  ·have hBD:InBasis D.n (entry rows) D.f D.U V:=by rw [HD.out.1,HD.out.2.1,HD.out.2.2.1];exact HB.out
   have h:=told_all hBD (x:=fun _=>0) (M:=M) (by rw [HD.out.1];rw [HD.out.1] at hM;exact hM)
   rw [HD.out.1,HD.out.2.2.2] at h
   exact h
 ·exact Or.inr hjx
def lexC:List Int→List Int→Int
 | [],[]=>0
 | [],_ :: _=>-1
 | _ :: _,[]=>1
 | a :: s,b :: t=>if a < b then -1 else if b < a then 1 else lexC s t
def lexL (a b:List Int):Prop:=lexC a b < 0
theorem lexC_self (a:List Int):lexC a a=0:=by
 induction a with
 | nil=>rfl
 | cons x s ih=>unfold lexC;rw [if_neg om,if_neg om,ih]
theorem lexC_zero {a b:List Int} (h:lexC a b=0):a=b:=by
 induction a generalizing b with
 | nil=>cases b with
  | nil=>rfl
  | cons y t=>simp [lexC] at h
 | cons x s ih =>
  cases b with
  | nil=>simp [lexC] at h
  | cons y t =>
   unfold lexC at h
   split at h
   ·omega
   ·split at h
    ·omega
    ·rw [ih h,show x=y by omega]
theorem lexC_swap (a b:List Int):lexC b a = - lexC a b:=by
 induction a generalizing b with
 | nil=>cases b <;> simp [lexC]
 | cons x s ih =>
  cases b with
  | nil=>simp [lexC]
  | cons y t =>
   unfold lexC
   rw [ih t]
   by_cases h1:x < y
   ·rw [if_pos h1,if_neg om,if_pos h1];rfl
   ·by_cases h2:y < x
    ·rw [if_pos h2,if_neg h1,if_pos h2]
    ·rw [if_neg h1,if_neg h2,if_neg h1,if_neg h2]
theorem zCa {a b c:List Int} (h:lexL a b) (k:lexL b c):lexL a c:=by
 unfold lexL at *
 induction a generalizing b c with
 | nil =>
  cases b with
  | nil=>simp [lexC] at h
  | cons y t =>
   cases c with
   | nil=>simp [lexC] at k
   | cons z u=>simp [lexC]
 | cons x s ih =>
  cases b with
  | nil=>simp [lexC] at h
  | cons y t =>
   cases c with
   | nil=>simp [lexC] at k
   | cons z u =>
    unfold lexC at h k ⊢
    by_cases h1:x < y
    ·by_cases h2:y < z
     ·rw [if_pos om];decide
     ·rw [if_neg h2] at k
      by_cases h3:z < y
      ·rw [if_pos h3] at k;simp at k
      ·rw [if_pos om];decide
    ·rw [if_neg h1] at h
     by_cases h2:y < x
     ·rw [if_pos h2] at h;simp at h
     ·rw [if_neg h2] at h
      obtain rfl:x=y:=by omega
      by_cases h3:x < z
      ·rw [if_pos h3];decide
      ·rw [if_neg h3] at k ⊢
       by_cases h4:z < x
       ·rw [if_pos h4] at k;simp at k
       ·rw [if_neg h4] at k ⊢
        exact ih h k
theorem lexL_irr (a:List Int):¬ lexL a a:=by unfold lexL;rw [lexC_self];omega
theorem zCZ {a b:List Int} (h:¬ lexL a b) (k:¬ lexL b a):a=b:=by
 refine lexC_zero ?_
 unfold lexL at h k
 rw [lexC_swap] at k
 omega
def firstP:List Int→Bool
 | []=>false
 | a :: s=>if a=0 then firstP s else decide (0 < a)
structure Shorts (n:Nat) (f:Nat→Nat→Int) (nb:Int) (L:List (List Int × Int)):Prop where
 sorted:L.Pairwise fun a b=>lexL a.1 b.1
 mem:∀ y z,(y,z)∈L↔y.length=n∧z=qf n f (vat y)∧z≤nb∧firstP y=true
theorem Told.shorts {n:Nat} {f:Nat→Nat→Int} {nb:Int} {L M:List (List Int × Int)} (h:Told n f nb L) (hp:M.Perm (L.filter fun p=>firstP p.1)) (hs:M.Pairwise fun a b=>¬ lexL b.1 a.1):Shorts n f nb M:=by
 have hmem:∀ y z,(y,z)∈M↔y.length=n∧z=qf n f (vat y)∧z≤nb∧firstP y=true:=fun y z=>by
  rw [hp.mem_iff,List.mem_filter,h.mem]
  constructor
  ·rintro ⟨⟨h1,h2,h3⟩,h4⟩;exact ⟨h1,h2,h3,h4⟩
  ·rintro ⟨h1,h2,h3,h4⟩;exact ⟨⟨h1,h2,h3⟩,h4⟩
 refine ⟨?_,hmem⟩
 have hn:(M.map Prod.fst).Nodup:=(hp.map Prod.fst).nodup_iff.2 ((List.filter_sublist.map Prod.fst).nodup h.once)
 rw [List.Nodup,List.pairwise_map] at hn
 refine (hs.and hn).imp fun {a b} hab=>?_
 exact Classical.byContradiction fun h1=>hab.2 (zCZ h1 hab.1)
theorem vat_drop {v:List Int} {i:Nat} (h:i < v.length):v.drop i=vat v i :: v.drop (i+1):=by
 rw [List.drop_eq_getElem_cons h]
 congr 1
 unfold vat;rw [List.getElem?_eq_getElem h];rfl
theorem first_any (b n:Nat) (v:List Int) (w:World) (hr:NRow w b n (vat v)) (hv:v.length=n) (hn:n≤100000) :
  Calls Tryz.prog 53 #[.slice (some ⟨b,0,none⟩) n n] w fun e w'=>e = .returned (.bool (firstP v))∧w'=w:=by
 have HR:=zH hr
 have HV:=zH hv
 clear hr hv
 go_enter Tryz.func53,Tryz.ntmps53
 go_wp2
 go_loopg [7] n (fun kk iv wk=>∃ i:Nat,kk+i=n∧iv = .int .i64 i∧wk=w∧firstP v=firstP (v.drop i))
 case atStart=>exact ⟨0,by omega,rfl,rfl,rfl⟩
 obtain ⟨i,hki,rfl,rfl,hf⟩:=hrel
 by_cases hin:i < n
 ·have c:=HR.out.cell i hin
  obtain ⟨z,hz⟩:∃ z,vat v i=z:=⟨_,rfl⟩
  rw [hz] at c
  rw [vat_drop (by rw [HV.out];exact hin),hz] at hf
  have hl:=zAA c
  have HF:=zH hf
  clear hf hz
  by_cases h0:z=0
  ·subst h0
   go_wp2
   go_roundg (n - (i+1))
   case measure=>omega
   case rel=>exact ⟨i+1,by omega,by go_num,rfl,HF.out⟩
  ·go_wp2
   have e:firstP v=decide (0 < z):=by rw [HF.out];unfold firstP;rw [if_neg h0]
   exact bodyPost_ret (v:=.bool (decide (0 < z))) (by simp [results,Tryz.results53,go_sem]) rfl ⟨by rw [e],rfl⟩
 ·obtain rfl:n=i:=by omega
  have e:firstP v=false:=by rw [hf,← HV.out,List.drop_length];rfl
  go_wp2
  exact bodyPost_ret (v:=.bool false) (by simp [results,Tryz.results53,go_sem]) rfl ⟨by rw [e],rfl⟩
theorem zDC (z:Int) (w:World):Calls Tryz.prog 125 #[.int .i64 z] w fun e w'=>e = .returned (.bool false)∧w'=w:=by
 go_enter Tryz.func125,Tryz.ntmps125
 go_wp2
 exact bodyPost_ret (v:=.bool false) (by simp [results,Tryz.results125,go_sem]) rfl ⟨rfl,rfl⟩
def cmpI (x y:Int):Int:=if x < y then -1 else if y < x then 1 else 0
theorem zB2 (x y:Int) (w:World):Calls Tryz.prog 75 #[.int .i64 x,.int .i64 y] w fun e w'=>e = .returned (.int .i64 (cmpI x y))∧w'=w:=by
 go_enter Tryz.func75,Tryz.ntmps75
 by_cases h1:x < y
 ·go_wp2_with (go_at_call 125;refine (zDC _ _).mono ?_;rintro e w' ⟨rfl,rfl⟩)
  exact bodyPost_ret (v:=.int .i64 (-1)) (by simp [results,Tryz.results75,go_sem]) rfl ⟨by unfold cmpI;rw [if_pos h1],rfl⟩
 ·by_cases h2:y < x
  ·go_wp2_with (go_at_call 125;refine (zDC _ _).mono ?_;rintro e w' ⟨rfl,rfl⟩)
   exact bodyPost_ret (v:=.int .i64 1) (by simp [results,Tryz.results75,go_sem]) rfl ⟨by unfold cmpI;rw [if_neg om,if_pos h2],rfl⟩
  ·go_wp2_with (go_at_call 125;refine (zDC _ _).mono ?_;rintro e w' ⟨rfl,rfl⟩)
   exact bodyPost_ret (v:=.int .i64 0) (by simp [results,Tryz.results75,go_sem]) rfl ⟨by unfold cmpI;rw [if_neg om,if_neg om],rfl⟩
theorem lexC_cons (x y:Int) (s t:List Int):lexC (x :: s) (y :: t)=if cmpI x y=0 then lexC s t else cmpI x y:=by
 show (if x < y then -1 else if y < x then 1 else lexC s t)=_
 unfold cmpI
 by_cases h1:x < y
 ·rw [if_pos h1,if_pos h1,if_neg om]
 ·by_cases h2:y < x
  ·rw [if_neg h1,if_pos h2,if_neg h1,if_pos h2,if_neg om]
  ·rw [if_neg h1,if_neg h2,if_neg h1,if_neg h2,if_pos rfl]
set_option maxHeartbeats 1000000 in
theorem zCe (a b n:Nat) (u v:List Int) (w:World) (ha:NRow w a n (vat u)) (hb:NRow w b n (vat v)) (hu:u.length=n) (hv:v.length=n) (hn:n≤100000) :
  Calls Tryz.prog 56 #[.slice (some ⟨a,0,none⟩) n n,.slice (some ⟨b,0,none⟩) n n] w fun e w'=>e = .returned (.int .i64 (lexC u v))∧w'=w:=by
 have HA:=zH ha
 have HB:=zH hb
 have HU:=zH hu
 have HV:=zH hv
 clear ha hb hu hv
 go_enter Tryz.func56,Tryz.ntmps56
 go_wp2
 go_loopg [11] n (fun kk iv wk=>∃ i:Nat,kk+i=n∧iv = .int .i64 i∧wk=w∧Hid (lexC u v=lexC (u.drop i) (v.drop i)))
 case atStart=>exact ⟨0,by omega,rfl,rfl,rfl⟩
 obtain ⟨i,hki,rfl,rfl,HF⟩:=hrel
 by_cases hin:i < n
 ·have c:=HA.out.cell i hin
  have d:=HB.out.cell i hin
  obtain ⟨x,hx⟩:∃ z,vat u i=z:=⟨_,rfl⟩
  obtain ⟨y,hy⟩:∃ z,vat v i=z:=⟨_,rfl⟩
  rw [hx] at c
  rw [hy] at d
  have HF2:=zH (by have h:=HF.out;rw [vat_drop (v:=u) (by rw [HU.out];exact hin),vat_drop (v:=v) (by rw [HV.out];exact hin),hx,hy] at h;exact h:lexC u v=lexC (x :: u.drop (i+1)) (y :: v.drop (i+1)))
  have hl:=zAA c
  have hl2:=zAA d
  clear HF hx hy
  by_cases h0:cmpI x y=0
  ·have HC:=zH (fun W=>zB2 x y W)
   rw [h0] at HC
   go_wp2_with (go_at_call 75;refine (HC.out _).mono ?_;rintro e w' ⟨rfl,rfl⟩)
   go_roundg (n - (i+1))
   case measure=>omega
   case rel=>exact ⟨i+1,by omega,by go_num,rfl,by rw [HF2.out,lexC_cons,if_pos h0];exact zH rfl⟩
  ·have HC:=zH (fun W=>zB2 x y W)
   have e:lexC u v=cmpI x y:=by rw [HF2.out,lexC_cons,if_neg h0]
   obtain ⟨s,hs⟩:∃ s,cmpI x y=s:=⟨_,rfl⟩
   rw [hs] at HC h0 e
   go_wp2_with (go_at_call 75;refine (HC.out _).mono ?_;rintro e w' ⟨rfl,rfl⟩)
   exact bodyPost_ret (v:=.int .i64 s) (by simp [results,Tryz.results56,go_sem]) rfl ⟨by rw [e],rfl⟩
 ·obtain rfl:n=i:=by omega
  have e:lexC u v=0:=by rw [HF.out,List.drop_eq_nil_of_le (by rw [HU.out];omega),List.drop_eq_nil_of_le (by rw [HV.out];omega)];rfl
  go_wp2
  exact bodyPost_ret (v:=.int .i64 0) (by simp [results,Tryz.results56,go_sem]) rfl ⟨by rw [e],rfl⟩
theorem allLess_any (a b n:Nat) (u v:List Int) (y z:Int) (w:World) (ha:NRow w a n (vat u)) (hb:NRow w b n (vat v)) (hu:u.length=n) (hv:v.length=n) (hn:n≤100000) :
  Calls Tryz.prog 55 #[.agg #[.slice (some ⟨a,0,none⟩) n n,.int .i64 y],.agg #[.slice (some ⟨b,0,none⟩) n n,.int .i64 z]] w fun e w'=>e = .returned (.int .i64 (lexC u v))∧∃ q os',w'=Go.Sort.grow (w.drewN q) os':=by
 have HC:=zH (fun W (hx:Ext w W)=>zCe a b n u v W (ha.ext hx) (hb.ext hx) hu hv hn)
 clear ha hb hu hv
 obtain ⟨s,hs⟩:∃ s,lexC u v=s:=⟨_,rfl⟩
 rw [hs] at HC ⊢
 clear hs
 go_enter Tryz.func55,Tryz.ntmps55
 go_wp2_with (go_at_call 56;refine (HC.out _ (((Ext.refl w).alloc _).alloc _)).mono ?_;rintro e w' ⟨rfl,rfl⟩)
 exact bodyPost_ret (v:=.int .i64 s) (by simp [results,Tryz.results55,go_sem]) rfl ⟨rfl,0,_,by rw [Go.Sort.alloc_eq_grow,Go.Sort.alloc_eq_grow,Go.Sort.grow_grow];rfl⟩
end Go.Proofs.YtdkgilioejdmeaaGreat
namespace Go.Proofs
open Go.Shelf
def Tryz.sortShort_ren:Go.Shelf.Ren:=⟨fun|6=>54|15=>111|14=>110|28=>160|29=>161|20=>152|21=>153|22=>154|23=>155|24=>156|25=>157|26=>158|27=>159|46=>193|47=>194|48=>195|49=>196|50=>197|57=>226|n=>n,fun|22=>28|24=>33|25=>95|3=>3|39=>158|0=>0|53=>133|55=>100|4=>4|46=>199|45=>198|50=>203|5=>5|9=>9|66=>245|70=>249|76=>271|77=>125|n=>n,fun|n=>n⟩
theorem Tryz.sortShort:Go.Proofs.SlLaysF0.n6 Tryz.prog Tryz.sortShort_ren:={
 mixed:=by kernel_rfl
 f6:=⟨Tryz.f54.name,by decide,Tryz.func54.trans (congrArg some kr)⟩
 f14:=⟨Tryz.f110.name,by decide,Tryz.func110.trans (congrArg some kr)⟩
 f15:=Tryz.func111.trans (congrArg some kr)
 f20:=⟨Tryz.f152.name,by decide,Tryz.func152.trans (congrArg some kr)⟩
 f21:=⟨Tryz.f153.name,by decide,Tryz.func153.trans (congrArg some kr)⟩
 f22:=⟨Tryz.f154.name,by decide,Tryz.func154.trans (congrArg some kr)⟩
 f23:=⟨Tryz.f155.name,by decide,Tryz.func155.trans (congrArg some kr)⟩
 f24:=⟨Tryz.f156.name,by decide,Tryz.func156.trans (congrArg some kr)⟩
 f25:=⟨Tryz.f157.name,by decide,Tryz.func157.trans (congrArg some kr)⟩
 f26:=⟨Tryz.f158.name,by decide,Tryz.func158.trans (congrArg some kr)⟩
 f27:=⟨Tryz.f159.name,by decide,Tryz.func159.trans (congrArg some kr)⟩
 f28:=Tryz.func160.trans (congrArg some kr)
 f29:=Tryz.func161.trans (congrArg some kr)
 f46:=⟨Tryz.f193.name,by decide,Tryz.func193.trans (congrArg some kr)⟩
 f47:=Tryz.func194.trans (congrArg some kr)
 f48:=Tryz.func195.trans (congrArg some kr)
 f49:=⟨Tryz.f196.name,by decide,Tryz.func196.trans (congrArg some kr)⟩
 f50:=⟨Tryz.f197.name,by decide,Tryz.func197.trans (congrArg some kr)⟩
 f57:=⟨Tryz.f226.name,by decide,Tryz.func226.trans (congrArg some kr)⟩
 t0:=Tryz.underlying0
 a0:=Tryz.isAgg0
 z0:=Tryz.sizeOf0
 v0:=Tryz.zeroValue0
 t3:=Tryz.underlying3
 a3:=Tryz.isAgg3
 z3:=Tryz.sizeOf3
 v3:=Tryz.zeroValue3
 t4:=Tryz.underlying4
 a4:=Tryz.isAgg4
 z4:=Tryz.sizeOf4
 v4:=Tryz.zeroValue4
 t5:=Tryz.underlying5
 a5:=Tryz.isAgg5
 z5:=Tryz.sizeOf5
 v5:=Tryz.zeroValue5
 t9:=Tryz.underlying9
 a9:=Tryz.isAgg9
 z9:=Tryz.sizeOf9
 v9:=Tryz.zeroValue9
 t22:=Tryz.underlying28
 a22:=Tryz.isAgg28
 z22:=Tryz.sizeOf28
 v22:=Tryz.zeroValue28
 t25:=Tryz.underlying95
 a25:=Tryz.isAgg95
 z25:=Tryz.sizeOf95
 v25:=Tryz.zeroValue95
 t39:=Tryz.underlying158
 a39:=Tryz.isAgg158
 z39:=Tryz.sizeOf158
 v39:=Tryz.zeroValue158
 t45:=Tryz.underlying198
 a45:=Tryz.isAgg198
 z45:=Tryz.sizeOf198
 v45:=Tryz.zeroValue198
 t46:=Tryz.underlying199
 a46:=Tryz.isAgg199
 z46:=Tryz.sizeOf199
 v46:=Tryz.zeroValue199
 t50:=Tryz.underlying203
 a50:=Tryz.isAgg203
 z50:=Tryz.sizeOf203
 v50:=Tryz.zeroValue203
 t53:=Tryz.underlying133
 a53:=Tryz.isAgg133
 z53:=Tryz.sizeOf133
 v53:=Tryz.zeroValue133
 t55:=Tryz.underlying100
 a55:=Tryz.isAgg100
 z55:=Tryz.sizeOf100
 v55:=Tryz.zeroValue100
 t66:=Tryz.underlying245
 a66:=Tryz.isAgg245
 z66:=Tryz.sizeOf245
 v66:=Tryz.zeroValue245
 t70:=Tryz.underlying249
 a70:=Tryz.isAgg249
 z70:=Tryz.sizeOf249
 v70:=Tryz.zeroValue249
 t76:=Tryz.underlying271
 a76:=Tryz.isAgg271
 z76:=Tryz.sizeOf271
 v76:=Tryz.zeroValue271
 t77:=Tryz.underlying125
 a77:=Tryz.isAgg125
 z77:=Tryz.sizeOf125
 v77:=Tryz.zeroValue125 }
end Go.Proofs
namespace Go.Proofs.YtdkgilioejdmeaaGreat
open Go.RowKit Go.Sort Go.Shelf
abbrev SV:=Nat × List Int × Int
def encS (n:Nat) (p:SV):List Value:=[.slice (some ⟨p.1,0,none⟩) n n,.int .i64 p.2.2]
structure SRow (w:World) (base n:Nat) (v:Value) (bs:List SV):Prop where
 own:w.ownsRow base 33 2 v bs.length (bs.flatMap (encS n))
 row:∀ p∈bs,NRow w p.1 n (vat p.2.1)∧p.2.1.length=n∧base≤p.1
structure SList (w:World) (base n:Nat) (v:Value) (bs:List SV):Prop where
 val:(bs=[]∧v = .slice none 0 0)∨∃ g cap,v = .slice (some ⟨g,0,none⟩) bs.length cap∧bs.length≤cap∧base≤g∧TB w 33 g ∧
  (∀ i p,bs[i]? = some p→w.cell? ⟨g,i*2,none⟩=some (.slice (some ⟨p.1,0,none⟩) n n)∧w.cell? ⟨g,i*2+1,none⟩=some (.int .i64 p.2.2))∧∀ o,w.frozen? ⟨g,o,none⟩=false
 row:∀ p∈bs,NRow w p.1 n (vat p.2.1)∧p.2.1.length=n∧base≤p.1
theorem flat_get (n:Nat):∀ (bs:List SV) (i:Nat) (p:SV),bs[i]? = some p→(bs.flatMap (encS n))[i*2]? = some (.slice (some ⟨p.1,0,none⟩) n n)∧(bs.flatMap (encS n))[i*2+1]? = some (.int .i64 p.2.2):=by
 intro bs
 induction bs with
 | nil=>intro i p h;simp at h
 | cons a bs ih =>
  intro i p h
  rw [List.flatMap_cons]
  cases i with
  | zero =>
   simp only [List.getElem?_cons_zero,Option.some.injEq] at h
   subst h
   exact ⟨rfl,rfl⟩
  | succ i =>
   rw [List.getElem?_cons_succ] at h
   have:=ih i p h
   rw [show (i+1)*2=i*2+2 by omega,show i*2+2+1=(i*2+1)+2 by omega]
   exact this
theorem SRow.cells {w:World} {base n g c:Nat} {bs:List SV} (h:SRow w base n (.slice (some ⟨g,0,none⟩) bs.length c) bs) {i:Nat} {p:SV} (hi:bs[i]? = some p) :
  w.cell? ⟨g,i*2,none⟩=some (.slice (some ⟨p.1,0,none⟩) n n)∧w.cell? ⟨g,i*2+1,none⟩=some (.int .i64 p.2.2):=by
 have h1:=flat_get n bs i p hi
 have key:∀ j u,(bs.flatMap (encS n))[j]? = some u→w.cell? ⟨g,j,none⟩=some u:=fun j u hu=>by
  rw [← h.own.cells (g:=g) rfl j u hu]
  unfold Addr.add
  split
  ·subst_vars;rfl
  ·simp
 exact ⟨key _ _ h1.1,key _ _ h1.2⟩
theorem zBK {α : Type} [Inhabited α] (enc : α → List Value) (k:Nat) (w:World) (blk off m:Nat) (d:Array α) (os:Array Obj) {b:Nat} (hb:b < w.heap.size) (hne:b≠blk):(sortWorldK enc k w blk off m d os).heap[b]? = w.heap[b]?:=by
 have hsz:(putRowK enc k (Go.Sort.ahead w m) blk off d).heap.size=w.heap.size:=by
  unfold putRowK;rw [size_putRow];rfl
 show ((putRowK enc k (Go.Sort.ahead w m) blk off d).heap ++ os)[b]? = _
 rw [Array.getElem?_append_left (by rw [hsz];exact hb)]
 show ((Go.Sort.ahead w m).heap.modify blk _)[b]? = _
 rw [Array.getElem?_modify,if_neg (Ne.symm hne)]
 rfl
theorem zBq {α : Type} [Inhabited α] (enc : α → List Value) (k:Nat) (w:World) (blk off m:Nat) (d:Array α) (os:Array Obj) {t:TypeId} {cur:Array Value} (hb:w.heap[blk]? = some (.cells cur t (0,0))):∃ cur',(sortWorldK enc k w blk off m d os).heap[blk]? = some (.cells cur' t (0,0)):=by
 have hlt:blk < w.heap.size:=(Array.getElem?_eq_some_iff.1 hb).1
 have hsz:(putRowK enc k (Go.Sort.ahead w m) blk off d).heap.size=w.heap.size:=by
  unfold putRowK;rw [size_putRow];rfl
 show ∃ cur',((putRowK enc k (Go.Sort.ahead w m) blk off d).heap ++ os)[blk]? = some (.cells cur' t (0,0))
 rw [Array.getElem?_append_left (by rw [hsz];exact hlt)]
 show ∃ cur',((Go.Sort.ahead w m).heap.modify blk _)[blk]? = some (.cells cur' t (0,0))
 rw [Array.getElem?_modify,if_pos rfl]
 have e:(Go.Sort.ahead w m).heap[blk]? = some (.cells cur t (0,0)):=hb
 rw [e]
 exact ⟨_,rfl⟩
theorem SList.keep {A B:World} {base n:Nat} {v:Value} {bs:List SV} (h:SList A base n v bs) (k:∀ b t,TB A t b→t=33∨t=2→B.heap[b]? = A.heap[b]?):SList B base n v bs:=by
 refine ⟨h.val.imp id fun ⟨g,cap,h1,h2,h3,h4,h5,h6⟩=>?_,fun p hp=>⟨(h.row p hp).1.keep (k _ _ (h.row p hp).1.typ (Or.inr rfl)),(h.row p hp).2⟩⟩
 have e:=k g _ h4 (Or.inl rfl)
 exact ⟨g,cap,h1,h2,h3,h4.of_eq e,fun i p hi=>⟨(zBB e _).trans (h5 i p hi).1,(zBB e _).trans (h5 i p hi).2⟩,fun o=>(zBp e o).trans (h6 o)⟩
structure Sorts (W W':World) (v:Value):Prop where
 os:W'.os=W.os
 tape:W'.tape=W.tape
 output:W'.output=W.output
 size:W.heap.size≤W'.heap.size
 block:∀ b,b < W.heap.size→v.ownBlock≠some b→W'.heap[b]? = W.heap[b]?
set_option maxHeartbeats 1000000 in
theorem sort_any (n:Nat) (W:World) (base:Nat) (v:Value) (bs:List SV) (hS:SRow W base n v bs) (hlen:bs.length≤100000) (hn:n≤100000) :
  Calls Tryz.prog 54 #[v,.func (.func 55) #[] #[]] W fun e W'=>e = .returned (.tuple #[])∧∃ bs',bs'.Perm bs∧(bs'.Pairwise fun a b=>¬ lexL b.2.1 a.2.1)∧SList W' base n v bs'∧Sorts W W' v:=by
 rcases hS.own.2 with ⟨rfl,h0⟩|⟨g,cap,cur,rfl,hg,hh,hnc,hcm,hcs,hct⟩
 ·have hb:bs=[]:=List.eq_nil_of_length_eq_zero h0
  subst hb
  refine (AnyF.slices_SortFunc_none Tryz.sortShort none 0 _ W).mono ?_
  rintro e W' ⟨rfl,rfl⟩
  exact ⟨rfl,[],List.Perm.refl _,List.Pairwise.nil,⟨Or.inl ⟨rfl,rfl⟩,fun p hp=>absurd hp (by simp)⟩,⟨rfl,rfl,rfl,Nat.le_refl _,fun _ _ _=>rfl⟩⟩
 ·have hglt:g < W.heap.size:=(Array.getElem?_eq_some_iff.1 hh).1
  have hgt:TB W 33 g:=⟨_,_,hh⟩
  rcases Nat.eq_zero_or_pos bs.length with h0|hpos
  ·have hb:bs=[]:=List.eq_nil_of_length_eq_zero h0
   subst hb
   refine (AnyF.slices_SortFunc_none Tryz.sortShort (some ⟨g,0,none⟩) cap _ W).mono ?_
   rintro e W' ⟨rfl,rfl⟩
   exact ⟨rfl,[],List.Perm.refl _,List.Pairwise.nil,⟨Or.inr ⟨g,cap,rfl,Nat.zero_le _,hg,hgt,fun i p hi=>by simp at hi,fun o=>by simp only [World.frozen?,hh];rfl⟩,fun p hp=>absurd hp (by simp)⟩,⟨rfl,rfl,rfl,Nat.le_refl _,fun _ _ _=>rfl⟩⟩
  ·let α := {p:SV // NRow W p.1 n (vat p.2.1)∧p.2.1.length=n}
   obtain ⟨bsA,hA⟩:∃ bsA:List α,bsA.map (·.1)=bs:=⟨bs.attach.map fun p=>⟨p.1,(hS.row p.1 p.2).1,(hS.row p.1 p.2).2.1⟩,by rw [List.map_map];exact List.attach_map_subtype_val bs⟩
   have hAl:bsA.length=bs.length:=by rw [← hA,List.length_map]
   have x0 : α := bsA[0]'om
   haveI:Inhabited α := ⟨x0⟩
   have hsz:bsA.toArray.size=bs.length:=by simp [hAl]
   have hH:HoldsK (fun x : α => encS n x.1) 2 W g 0 bsA.toArray:=by
    intro j hj
    rw [size_flatK] at hj
    refine ⟨?_,by simp only [World.frozen?,hh];rfl⟩
    rw [get_flatK _ _ _ _ hj]
    have hi:j / 2 < bs.length:=by rw [← hsz];omega
    have hp:bs[j / 2]? = some (bsA.toArray[j / 2]!).1:=by
     rw [← hA,List.getElem?_map,List.getElem?_eq_getElem om]
     simp [hAl,hi]
    have h1:=hS.cells hp
    rcases Nat.mod_two_eq_zero_or_one j with e|e
    ·rw [e,show 0+j=j / 2*2 by omega];exact h1.1
    ·rw [e,show 0+j=j / 2*2+1 by omega];exact h1.2
   have hcmp:CmpLays Tryz.prog 55 #[] (fun x : α => encS n x.1) 2 (fun x y : α => lexC x.1.2.1 y.1.2.1) g 0 bsA.toArray.size W:=by
    intro m os dk hdk x y
    have keep:∀ x : α,NRow (sortWorldK (fun x : α => encS n x.1) 2 W g 0 m dk os) x.1.1 n (vat x.1.2.1):=fun x =>
     x.2.1.keep (zBK _ _ _ _ _ _ _ _ x.2.1.typ.lt (x.2.1.typ.ne hgt (by decide)))
    exact allLess_any x.1.1 y.1.1 n x.1.2.1 y.1.2.1 x.1.2.2 y.1.2.2 _ (keep x) (keep y) x.2.2 y.2.2 hn
   have hlt:∀ x y : α,ltOf (fun x y : α => lexC x.1.2.1 y.1.2.1) x y=true↔lexL x.1.2.1 y.1.2.1:=fun x y=>by unfold ltOf lexL;simp
   have hO:SWO (ltOf fun x y : α => lexC x.1.2.1 y.1.2.1):=by
    refine ⟨fun x=>?_,fun x y z h1 h2=>?_,fun x y z h1 h2=>?_⟩
    ·rw [← Bool.not_eq_true,hlt];exact lexL_irr _
    ·rw [hlt] at *;exact zCa h1 h2
    ·rw [← Bool.not_eq_true,hlt] at *
     intro h3
     by_cases h4:lexL y.1.2.1 x.1.2.1
     ·exact h2 (zCa h4 h3)
     ·rw [zCZ h1 h4] at h3;exact h2 h3
   have hs:=AnyQ.slices_SortFunc Tryz.sortShort 2 (fun w=>Tryz.isAgg33 w) (fun w=>Tryz.sizeOf33 w) (fun x : α => encS n x.1) (fun _=>rfl) (fun x u hu=>by simp [encS] at hu;rcases hu with rfl|rfl <;> rfl) (fun x y : α => lexC x.1.2.1 y.1.2.1) hO 55 #[] g 0 cap bsA.toArray W
    (enters_of Tryz.func55 kr rfl) hcmp hH hglt (by rw [hsz];omega)
   rw [hsz] at hs
   refine hs.mono ?_
   rintro e W' ⟨rfl,d',m,os,hp,hso,rfl⟩
   have hd1:d'.size=bs.length:=by rw [hp.1,hsz]
   have hd2:(d'.toList.map (·.1)).Perm bs:=by
    have h1:=hp.2.2
    rw [show d'.extract 0 bs.length=d' by rw [← hd1];simp,show bsA.toArray.extract 0 bs.length=bsA.toArray by rw [← hsz];simp] at h1
    have h2:=h1.map (·.1)
    rw [← hA]
    simpa using h2
   have hl:(d'.toList.map (·.1)).length=bs.length:=by simp [hd1]
   refine ⟨rfl,d'.toList.map (·.1),hd2,?_,⟨Or.inr ⟨g,cap,by rw [hl],by rw [hl];exact hnc,hg,?_,fun i p hi=>?_,?_⟩,fun p hp=>?_⟩,?_⟩
   ·rw [List.pairwise_map,List.pairwise_iff_getElem]
    intro i j hi hj hij
    have h1:=hso i j (Nat.zero_le _) hij (by rw [← hd1];simpa using hj)
    rw [← Bool.not_eq_true,hlt] at h1
    have hi':i < d'.size:=by simpa using hi
    have hj':j < d'.size:=by simpa using hj
    rw [getElem!_pos d' i hi',getElem!_pos d' j hj'] at h1
    simpa using h1
   ·obtain ⟨cur',hc'⟩:=zBq (fun x : α => encS n x.1) 2 W g 0 m d' os hh
    exact ⟨_,_,hc'⟩
   ·have hi':i < d'.size:=by
     rw [hd1,← hl]
     exact (List.getElem?_eq_some_iff.1 hi).1
    have hpi:(d'[i]!).1=p:=by
     rw [getElem!_pos d' i hi']
     rw [List.getElem?_map] at hi
     simp [hi'] at hi
     exact hi
    have hH':=holdsK_sortWorldK (fun x : α => encS n x.1) 2 W g 0 m bsA.toArray d' os hglt hH (by rw [hd1,hsz])
    have h1:=(hH'.cell hi' (show 0 < 2 by omega)).1
    have h2:=(hH'.cell hi' (show 1 < 2 by omega)).1
    rw [show 0+i*2+0=i*2 by omega,hpi] at h1
    rw [show 0+i*2+1=i*2+1 by omega,hpi] at h2
    exact ⟨h1,h2⟩
   ·intro o
    obtain ⟨cur',hc'⟩:=zBq (fun x : α => encS n x.1) 2 W g 0 m d' os hh
    simp only [World.frozen?,hc'];rfl
   ·have hp2:=hS.row p (hd2.mem_iff.1 hp)
    exact ⟨hp2.1.keep (zBK _ _ _ _ _ _ _ _ hp2.1.typ.lt (hp2.1.typ.ne hgt (by decide))),hp2.2⟩
   ·exact ⟨rfl,rfl,rfl,size_sortWorldK_c _ _ _ _ _ _ _ _,fun b hb hne=>zBK _ _ _ _ _ _ _ _ hb fun e=>hne (by rw [e];rfl)⟩
end Go.Proofs.YtdkgilioejdmeaaGreat
namespace Go.Proofs.YtdkgilioejdmeaaGreat
set_option exponentiation.threshold 5000
open Go.RowKit
theorem sorted_ex {α : Type} {lt : α → α → Prop} (irr:∀ a,¬ lt a a) (tr:∀ a b c,lt a b→lt b c→lt a c) (tot:∀ a b,¬ lt a b→¬ lt b a→a=b) (C:List α):∃ L:List α,L.Pairwise lt∧∀ x,x∈L↔x∈C:=by
 induction C with
 | nil=>exact ⟨[],List.Pairwise.nil,fun x=>Iff.rfl⟩
 | cons a C ih =>
  obtain ⟨L,h1,h2⟩:=ih
  by_cases ha:a∈L
  ·refine ⟨L,h1,fun x=>?_⟩
   rw [List.mem_cons,h2]
   constructor
   ·exact Or.inr
   ·rintro (rfl|h)
    ·exact (h2 _).1 ha
    ·exact h
  ·classical
   refine ⟨L.filter (fun x=>decide (lt x a)) ++ a :: L.filter (fun x=>decide (lt a x)),?_,fun x=>?_⟩
   ·rw [List.pairwise_append,List.pairwise_cons]
    refine ⟨h1.sublist List.filter_sublist,⟨fun x hx=>?_,h1.sublist List.filter_sublist⟩,fun x hx y hy=>?_⟩
    ·simpa using (List.mem_filter.1 hx).2
    ·have hxa:lt x a:=by simpa using (List.mem_filter.1 hx).2
     rcases List.mem_cons.1 hy with rfl|hy
     ·exact hxa
     ·exact tr _ _ _ hxa (by simpa using (List.mem_filter.1 hy).2)
   ·rw [List.mem_append,List.mem_cons,List.mem_filter,List.mem_filter,List.mem_cons,h2]
    constructor
    ·rintro (⟨h,_⟩|rfl|⟨h,_⟩)
     ·exact Or.inr h
     ·exact Or.inl rfl
     ·exact Or.inr h
    ·rintro (rfl|h)
     ·exact Or.inr (Or.inl rfl)
     ·by_cases h3:lt x a
      ·exact Or.inl ⟨h,by simpa using h3⟩
      ·by_cases h4:lt a x
       ·exact Or.inr (Or.inr ⟨h,by simpa using h4⟩)
       ·exact Or.inr (Or.inl (tot _ _ h3 h4))
def boxL (B:Nat):Nat→List (List Int)
 | 0=>[[]]
 | n+1=>(List.range (2*B+1)).flatMap fun (i:Nat)=>(boxL B n).map fun v=>((i:Int) - (B:Int)) :: v
theorem mem_boxL {B:Nat}:∀ {n:Nat} {v:List Int},v.length=n→(∀ i,i < n→(vat v i).natAbs≤B)→v∈boxL B n:=by
 intro n
 induction n with
 | zero=>intro v hv _;rw [List.eq_nil_of_length_eq_zero hv];exact List.mem_singleton.2 rfl
 | succ n ih =>
  intro v hv h
  cases v with
  | nil=>simp at hv
  | cons a v =>
   have ha:a.natAbs≤B:=h 0 om
   refine List.mem_flatMap.2 ⟨(a+B).toNat,List.mem_range.2 om,List.mem_map.2 ⟨v,ih (by simpa using hv) fun i hi=>h (i+1) om,?_⟩⟩
   congr 1
   omega
theorem shorts_ex {n:Nat} {f:Nat→Nat→Int} (hS:Start n f) (nb:Int):∃ L,Shorts n f nb L:=by
 obtain ⟨L,h1,h2⟩:=sorted_ex lexL_irr (fun _ _ _=>zCa) (fun _ _=>zCZ) ((boxL (nb.natAbs*2 ^ 112) n).filter fun v=>decide (v.length=n) && (decide (qf n f (vat v)≤nb) && firstP v))
 refine ⟨L.map fun v=>(v,qf n f (vat v)),?_,fun y z=>?_⟩
 ·rw [List.pairwise_map];exact h1
 ·rw [List.mem_map]
  constructor
  ·rintro ⟨v,hv,e⟩
   rw [h2,List.mem_filter] at hv
   simp only [Bool.and_eq_true,decide_eq_true_eq] at hv
   cases e
   exact ⟨hv.2.1,rfl,hv.2.2.1,hv.2.2.2⟩
  ·rintro ⟨hy,hz,hb,hp⟩
   refine ⟨y,(h2 y).2 (List.mem_filter.2 ⟨mem_boxL hy fun i hi=>?_,by simp [hy,hp,← hz,hb]⟩),by rw [hz]⟩
   have h3:=hS.pd.coord (B:=16384) (fun i c hi hc=>hS.small i c hi hc) (vat y) hi
   have h4:=zBm (n:=n) hS.dim
   have h0:=hS.pd.qf_nonneg (vat y)
   have h5:qf n f (vat y)*((fct (n - 1)*16384 ^ (n - 1):Nat):Int)≤nb*((2 ^ 111:Nat):Int) :=
    Int.le_trans (Int.mul_le_mul_of_nonneg_right om (Int.natCast_nonneg _)) (Int.mul_le_mul_of_nonneg_left (Int.ofNat_le.2 h4) om)
   have h6:vat y i*vat y i≤nb*((2 ^ 111:Nat):Int):=Int.le_trans h3 h5
   rcases Nat.lt_or_ge (nb.natAbs*2 ^ 112) (vat y i).natAbs with h7|h7
   ·exfalso
    have h8:(vat y i).natAbs*(vat y i).natAbs=((vat y i*vat y i).natAbs):=(Int.natAbs_mul _ _).symm
    have h9:(nb.natAbs*2 ^ 112+1)*1≤(vat y i).natAbs*(vat y i).natAbs:=Nat.mul_le_mul h7 om
    have h10:(nb*((2 ^ 111:Nat):Int)).natAbs=nb.natAbs*2 ^ 111:=by rw [Int.natAbs_mul];rfl
    have h11:nb.natAbs*2 ^ 111≤nb.natAbs*2 ^ 112:=Nat.mul_le_mul_left _ (Nat.pow_le_pow_right om om)
    have h12:=zAi (vat y i)
    omega
   ·exact h7
theorem nodup_le {α : Type}:∀ (L M:List α),L.Nodup→(∀ x,x∈L→x∈M)→L.length≤M.length:=by
 classical
 intro L
 induction L with
 | nil=>intro M _ _;exact Nat.zero_le _
 | cons a L ih =>
  intro M hL h
  have ha:=h a (List.mem_cons_self ..)
  have hL1:=List.nodup_cons.1 hL
  have h1:=ih (M.erase a) hL1.2 fun x hx=>(List.mem_erase_of_ne (fun e=>hL1.1 (by rw [← e];exact hx))).2 (h x (List.mem_cons_of_mem _ hx))
  rw [List.length_erase_of_mem ha] at h1
  have:=List.length_pos_of_mem ha
  simp only [List.length_cons]
  omega
theorem TellOK.count {n:Nat} {f:Nat→Nat→Int} {nb:Int} {pre L:List (List Int × Int)} (h:TellOK n f nb pre) (hL:Shorts n f nb L):(pre.filter fun p=>firstP p.1).length≤L.length:=by
 have h1:((pre.filter fun p=>firstP p.1).map Prod.fst).Nodup:=(List.filter_sublist.map Prod.fst).nodup h.1
 have h2:=nodup_le _ (L.map Prod.fst) h1 fun y hy=>by
  obtain ⟨p,hp,rfl⟩:=List.mem_map.1 hy
  obtain ⟨h3,h4⟩:=List.mem_filter.1 hp
  obtain ⟨h5,h6,h7⟩:=h.2 p h3
  exact List.mem_map.2 ⟨(p.1,p.2),(hL.mem p.1 p.2).2 ⟨h5,h6,h7,h4⟩,rfl⟩
 simpa using h2
end Go.Proofs.YtdkgilioejdmeaaGreat
namespace Go.Proofs.YtdkgilioejdmeaaGreat
open Go.RowKit
attribute [local go_sem] Oper.semAt_some
theorem walk_any (A:Option Addr) (n c:Nat) (rows:List (List Int)) (nb:Int) (w:World) (hn:n=rows.length) (hr:IsRows w A rows) (hf:Fit64 rows) (hc:chk rows=0) (hnb:0≤nb) (hb:nb≤4096) :
  Calls Tryz.prog 52 #[.slice A n c,.int .i64 nb] w fun e w'=>∃ ba bn,e = .returned (.func (.func 96) #[] #[.pointer (some ⟨ba,0,none⟩),.pointer (some ⟨bn,0,none⟩)])∧WalkOK 96 #[pt ba,pt bn] n (entry rows) nb w'∧Ext w w':=by
 have hmf:∀ (fn:Fn) (first cap:Array Value) (w:World),(Instr.makeFunc fn first cap).run Tryz.prog w = .ok (.func fn first cap) w:=fun _ _ _ _=>rfl
 obtain ⟨W1,hW1⟩:∃ W1,(w.alloc (.cells #[.slice A n c] 22)).alloc (.cells #[.int .i64 nb] 2)=W1:=⟨_,rfl⟩
 have hX:Ext w W1:=by rw [← hW1];exact ((Ext.refl _).alloc _).alloc _
 have ha:Blk W1 w.heap.size 22 #[.slice A n c]:=by rw [← hW1];exact Blk.al (Blk.new _ _ _)
 have hbn:Blk W1 (w.heap.size+1) 2 #[.int .i64 nb]:=by rw [← hW1];exact Blk.at (by simp)
 have HO:=zH (walk1_any A n c rows nb W1 w.heap.size (w.heap.size+1) hn (hr.ext hX) hf hc hnb hb ha hbn)
 clear hr hf hc hnb hb hn ha hbn
 go_enter Tryz.func52,Tryz.ntmps52
 go_wp2
 exact bodyPost_ret (v:=.func (.func 96) #[] #[.pointer (some ⟨w.heap.size,0,none⟩),.pointer (some ⟨w.heap.size+1,0,none⟩)]) (by simp [results,Tryz.results52,go_sem]) rfl ⟨_,_,rfl,HO.out,hX⟩
structure AllI (n:Nat) (f:Nat→Nat→Int) (nb:Int) (w:World) (b4 b5 b7:Nat) (X:Nat) (pre:List (List Int × Int)) (W:World):Prop where
 ext:Ext w W
 k4:Blk W b4 28 #[.slice none 0 0]
 k5:Blk W b5 25 #[.int .i64 0]
 n4:b4≠X
 n5:b5≠X
 n7:b7≠X
 tell:TellOK n f nb pre
 row:∃ v bs,Blk W b7 28 #[v]∧SRow W w.heap.size n v bs∧bs.map (·.2)=pre.filter (fun p=>firstP p.1)∧(∀ p∈bs,p.1≠X)∧bs.length≤8192∧v.ownBlock≠some X
theorem own_tk {N X:Nat} {A B:World} (h:TK N X A B) {base:Nat} {t:TypeId} {size:Nat} {v:Value} {k:Nat} {xs:List Value} (ho:A.ownsRow base t size v k xs) (hv:v.ownBlock≠some X):B.ownsRow base t size v k xs:=by
 rcases ho with ⟨h1,h2|⟨g,cap,cur,rfl,hg,hh,rest⟩⟩
 ·exact ⟨h1,Or.inl h2⟩
 ·exact ⟨h1,Or.inr ⟨g,cap,cur,rfl,hg,(h.block g t ⟨_,_,hh⟩ (fun e=>hv (by rw [e];rfl))).trans hh,rest⟩⟩
theorem AllI.keep {n:Nat} {f:Nat→Nat→Int} {nb:Int} {w:World} {b4 b5 b7 X:Nat} {pre:List (List Int × Int)} {A B:World} (h:AllI n f nb w b4 b5 b7 X pre A) {N:Nat} (k:TK N X A B) (hN:w.heap.size≤N):AllI n f nb w b4 b5 b7 X pre B:=by
 obtain ⟨v,bs,h1,h2,h3,h4,h5,h6⟩:=h.row
 exact ⟨k.ext h.ext hN,k.blk h.k4 h.n4,k.blk h.k5 h.n5,h.n4,h.n5,h.n7,h.tell,v,bs,k.blk h1 h.n7,⟨own_tk k h2.own h6,fun p hp=>⟨k.nrow (h2.row p hp).1 (h4 p hp),(h2.row p hp).2⟩⟩,h3,h4,h5,h6⟩
def AllX (n:Nat) (f:Nat→Nat→Int) (nb:Int) (w:World) (b4 b5:Nat) (c:Code) (W:World):Prop :=
 c = .ret∧Ext w W∧Blk W b4 28 #[.slice none 0 0]∧Blk W b5 25 #[.int .i64 9]∧∃ pre,TellOK n f nb pre∧8192 < (pre.filter fun p=>firstP p.1).length
theorem AllX.keep {n:Nat} {f:Nat→Nat→Int} {nb:Int} {w:World} {b4 b5:Nat} {c:Code} {A B:World} (h:AllX n f nb w b4 b5 c A) {N:Nat} (k:∀ X,TK N X A B) (hN:w.heap.size≤N):AllX n f nb w b4 b5 c B :=
 ⟨h.1,(k 0).ext h.2.1 hN,(k (b4+1)).blk h.2.2.1 om,(k (b5+1)).blk h.2.2.2.1 om,h.2.2.2.2⟩
theorem Tryz.infoSh:(Tryz.prog.info? 33).map (fun i=>(i.zero,i.size,i.bytes))=some (some (.agg #[.slice none 0 0,.int .i64 0]),2,32):=by kernel_rfl
theorem cell_two_new (w:World) (a b:Value) (t:TypeId):∀ (j:Nat) (u:Value),[a,b][j]? = some u→(w.alloc (.cells #[a,b] t)).cell? ((⟨w.heap.size,0,none⟩:Addr).add j)=some u:=by
 intro j u h
 have hk:Blk (w.alloc (.cells #[a,b] t)) w.heap.size t #[a,b]:=Blk.new _ _ _
 match j,h with
 | 0,h=>cases h;exact hk.cell 0 rfl
 | 1,h=>cases h;exact hk.cell 1 rfl
 | j+2,h=>simp at h
theorem Shorts.done {n:Nat} {f:Nat→Nat→Int} {nb:Int} {L:List (List Int × Int)} {bs bs':List SV} (h:Told n f nb L) (h1:bs.map (·.2)=L.filter fun p=>firstP p.1) (h2:bs'.Perm bs) (h3:bs'.Pairwise fun a b=>¬ lexL b.2.1 a.2.1):Shorts n f nb (bs'.map (·.2)) :=
 h.shorts (by rw [← h1];exact h2.map _) (by rw [List.pairwise_map];exact h3)
set_option maxHeartbeats 4000000 in
set_option maxRecDepth 100000 in
theorem all_any (A:Option Addr) (n c:Nat) (rows:List (List Int)) (nb:Int) (w:World) (hn:n=rows.length) (hr:IsRows w A rows) (hf:Fit64 rows) (hb0:-9223372036854775808≤nb) (hb1:nb≤9223372036854775807) :
  Calls Tryz.prog 18 #[.slice A n c,.int .i64 nb] w fun e w'=>Ext w w' ∧
   ((chk rows≠0∧e = .returned (.tuple #[.slice none 0 0,.int .i64 (chk rows)])) ∨
   (chk rows=0∧¬ (0≤nb∧nb≤4096)∧e = .returned (.tuple #[.slice none 0 0,.int .i64 2])) ∨
   (chk rows=0∧0≤nb∧nb≤4096∧∃ L,Shorts n (entry rows) nb L ∧
    ((L.length≤8192∧∃ v bs,e = .returned (.tuple #[v,.int .i64 0])∧SList w' w.heap.size n v bs∧bs.map (·.2)=L)∨(8192 < L.length∧e = .returned (.tuple #[.slice none 0 0,.int .i64 9]))))):=by
 obtain ⟨R,hR⟩:∃ R:Ending→World→Prop,(fun e w'=>Ext w w' ∧
   ((chk rows≠0∧e = .returned (.tuple #[.slice none 0 0,.int .i64 (chk rows)])) ∨
   (chk rows=0∧¬ (0≤nb∧nb≤4096)∧e = .returned (.tuple #[.slice none 0 0,.int .i64 2])) ∨
   (chk rows=0∧0≤nb∧nb≤4096∧∃ L,Shorts n (entry rows) nb L ∧
    ((L.length≤8192∧∃ v bs,e = .returned (.tuple #[v,.int .i64 0])∧SList w' w.heap.size n v bs∧bs.map (·.2)=L)∨(8192 < L.length∧e = .returned (.tuple #[.slice none 0 0,.int .i64 9]))))))=R:=⟨_,rfl⟩
 have HR:=zH hR
 rw [hR]
 clear hR
 obtain ⟨W0,hW0⟩:∃ W0,(w.alloc (.cells #[.slice none 0 0] 28)).alloc (.cells #[.int .i64 0] 25)=W0:=⟨_,rfl⟩
 have HX0:Hid (Ext w W0):=by rw [← hW0];exact ((Ext.refl _).alloc _).alloc _
 obtain ⟨b4,hb4⟩:∃ b,w.heap.size=b:=⟨_,rfl⟩
 obtain ⟨b5,hb5⟩:∃ b,b4+1=b:=⟨_,rfl⟩
 have HK4:Hid (Blk W0 b4 28 #[.slice none 0 0]):=by rw [← hW0,← hb4];exact Blk.al (Blk.new _ _ _)
 have HK5:Hid (Blk W0 b5 25 #[.int .i64 0]):=by rw [← hW0,← hb5,← hb4];exact Blk.at (by simp)
 have hb4w:w.heap.size≤b4:=by omega
 have hb5w:w.heap.size≤b5:=by omega
 obtain ⟨ck,hck⟩:∃ z,chk rows=z:=⟨_,rfl⟩
 have HCh:=zH (zC1 A n c rows W0 hn (hr.ext HX0.out) hf)
 rw [hck] at HCh
 have HCk:=zH hck
 have HN:=zH hn
 have HRo:=zH hr
 have HFt:=zH hf
 have HB4:=zH hb4
 have HB5:=zH hb5
 clear hn hr hf hck
 refine (callsIn_wide (n:=9)).1 ?_
 refine callsIn_of_wp_marks Tryz.func18 rfl trivial ?_ rfl
 simp only [Tryz.ntmps18,List.size_toArray,List.length_cons,List.length_nil,Nat.reduceAdd,Nat.reduceSub,Array.replicate_succ,Array.replicate_zero,List.push_toArray,List.append_toArray,List.nil_append,List.cons_append]
 have hw1:Fence.wide.fn 49:=trivial
 have hw2:Fence.wide.fn 52:=trivial
 have hw3:Fence.wide.fn 53:=trivial
 have hw4:Fence.wide.fn 54:=trivial
 by_cases h0:ck=0
 ·subst h0
  have CHK:=zH HCh
  have hS:=zC2 HCk.out
  rw [← HN.out] at hS
  by_cases hnb:0≤nb∧nb≤4096
  ·have HWk:=zH (fun W (hx:Ext w W)=>walk_any A n c rows nb W HN.out (HRo.out.ext hx) HFt.out HCk.out hnb.1 hnb.2)
   have hn1:=hnb.1
   have hn2:=hnb.2
   clear hnb
   gi_wp2_with (first
    | (gi_at_call 49;refine (callsIn_wide.2 HCh.out).mono ?_;rintro e w1 ⟨rfl,hx⟩;have HX1:=zH (HX0.out.trans hx);have HK41:=zH (HK4.out.ext hx);have HK51:=zH (HK5.out.ext hx);clear hx)
    | (gi_at_call 52;refine (callsIn_wide.2 (HWk.out _ (HX1.out.alloc _))).mono ?_;rintro e w2 ⟨ba,bn,rfl,hwk,hx⟩;have HWK:=zH hwk;have HX2:=zH hx;clear hx hwk))
   obtain ⟨b7,hb7⟩:∃ b,w1.heap.size=b:=⟨_,rfl⟩
   have HX27:=zH ((HX1.out.alloc _).trans HX2.out)
   have HI0:Hid (∀ X,w2.heap.size≤X→AllI n (entry rows) nb w b4 b5 b7 X [] w2):=by
    intro X hX
    have h42:=(HK41.out.ext ((Ext.refl w1).alloc _)).ext HX2.out
    have h52:=(HK51.out.ext ((Ext.refl w1).alloc _)).ext HX2.out
    have h72:Blk w2 b7 28 #[.slice none 0 0]:=by rw [← hb7];exact (Blk.new _ _ _).ext HX2.out
    have l4:=h42.lt
    have l5:=h52.lt
    have l7:=h72.lt
    exact ⟨HX27.out,h42,h52,by omega,by omega,by omega,⟨List.nodup_nil,fun p hp=>absurd hp (by simp)⟩,.slice none 0 0,[],h72,⟨World.ownsRow_nil _ _ _ _,fun p hp=>absurd hp (by simp)⟩,rfl,fun p hp=>absurd hp (by simp),by decide,by simp [Value.ownBlock]⟩
   have hww:=HX27.out.size
   have HHS:=zH hS
   rw [hb7]
   have h47:b4≠b7:=by have:=HK41.out.lt;omega
   have h57:b5≠b7:=by have:=HK51.out.lt;omega
   have hb7w:w.heap.size≤b7:=by have:=HX1.out.size;omega
   clear hb7 HCh HWk HX0 HK4 HK5 HX1 HK41 HK51 HX2 HX27 CHK hW0 hb5 hb4 hS
   refine wpIn_rangeY (m:=9) (gf:=96) (lb:=#[pt ba,pt bn]) rfl (enters_of Tryz.func96 kr rfl) HWK.out rfl (AllI n (entry rows) nb w b4 b5 b7) (AllX n (entry rows) nb w b4 b5)
    (fun X pre A B h k=>h.keep k hww) (fun c A B h k=>h.keep k hww) HI0.out
    (fun b z=>{ tmps:=#[.slice A n c,.int .i64 nb,undef,undef,.pointer (some ⟨b4,0,none⟩),.pointer (some ⟨b5,0,none⟩),.int .i64 0,.pointer (some ⟨b7,0,none⟩),.slice (some ⟨b,0,none⟩) n n,.int .i64 z,.slice A n c,.int .i64 0,.int .i64 0,.bool false,undef,.int .i64 nb,.bool (decide (nb < 0)),.bool (decide (nb < 0)),.int .i64 nb,.bool (decide (4096 < nb)),.bool (decide (nb < 0) || decide (4096 < nb)),.slice A n c,.int .i64 nb,.func (.func 96) #[] #[.pointer (some ⟨ba,0,none⟩),.pointer (some ⟨bn,0,none⟩)],.slice (some ⟨b,0,none⟩) n n,.int .i64 z,undef,undef,undef,undef,undef,undef,undef,undef,undef,undef,undef,undef,undef,undef,undef],defers:=[] }) ?assign ?body ?done ?stop
   case assign =>
    intro l b z W K hK
    clear HI0 HWK
    gi_wp2
    exact hK
   case body =>
    rintro l X pre v z b w0 W hX hG hI htk hbs hrow hbX htX hv hz0 hz1
    clear HI0 HWK
    obtain ⟨v0,bs,k7a,hsa,hmap,hbX2,hlen,hv0⟩:=hI.row
    have hk7:=htk.blk k7a hI.n7
    have hown:W.ownsRow w.heap.size 33 2 v0 bs.length (bs.flatMap (encS n)):=own_tk htk hsa.own hv0
    have hrows:∀ p∈bs,NRow W p.1 n (vat p.2.1)∧p.2.1.length=n∧w.heap.size≤p.1:=fun p hp=>⟨htk.nrow (hsa.row p hp).1 (hbX2 p hp),(hsa.row p hp).2⟩
    have hk4:=htk.blk hI.k4 hI.n4
    have hk5:=htk.blk hI.k5 hI.n5
    have hXW:=htk.ext hI.ext hww
    have hbw:w.heap.size≤b:=Nat.le_trans hI.ext.size hbs
    have HII:=zH hI
    have HtX:=zH htX
    have HFi:=zH (first_any b n v W hrow hv (by have:=HHS.out.dim;omega))
    have HGG:=zH hG
    have HOwn:=zH hown
    have HRows:=zH hrows
    have HRow:=zH hrow
    have HMap:=zH hmap
    have HbX:=zH hbX2
    have HV:=zH hv
    have HXW:=zH hXW
    have HK4:=zH hk4
    have HK5:=zH hk5
    have HK7:=zH hk7
    obtain ⟨fp,hfp⟩:∃ x,firstP v=x:=⟨_,rfl⟩
    rw [hfp] at HFi
    have HFp:=zH hfp
    obtain ⟨Av,cv,rfl⟩:∃ A c,v0 = .slice A bs.length c:=by
     rcases hown.2 with ⟨h,h0⟩|⟨g,cap,cur,h,_⟩
     ·exact ⟨none,0,by rw [h,h0]⟩
     ·exact ⟨_,_,h⟩
    have HV0:=zH hv0
    have c7:=hk7.one.1
    have f7:=hk7.one.2
    have l7:=hk7.lt
    clear htX hG hown hrows hrow hmap hbX2 hv hXW hk4 hk5 hk7 hfp hI htk k7a hsa hv0
    cases fp with
    | false =>
     gi_wp2_with (gi_at_call 53;refine (CallsIn.inRound l (callsIn_wide.2 HFi.out)).mono ?_;rintro e w' ⟨rfl,rfl⟩)
     refine ⟨KeepsOthers.refl _,⟨Nat.le_refl _,fun _ _ _ _ _=>rfl⟩,HXW.out,HK4.out,HK5.out,HII.out.n4,HII.out.n5,HII.out.n7,HGG.out,_,bs,HK7.out,⟨HOwn.out,HRows.out⟩,?_,HbX.out,hlen,HV0.out⟩
     rw [HMap.out,List.filter_append,List.filter_cons_of_neg (by simp [HFp.out]),List.filter_nil,List.append_nil]
    | true =>
     by_cases h8:bs.length=8192
     ·have c4:=HK4.out.one.1
      have f4:=HK4.out.one.2
      have l4:=HK4.out.lt
      have c5:=HK5.out.one.1
      have f5:=HK5.out.one.2
      have l5:=HK5.out.lt
      have hne:b4≠b5:=by have:=HB5.out;omega
      have h8i:(bs.length:Int)=8192:=by omega
      gi_wp2_with (gi_at_call 53;refine (CallsIn.inRound l (callsIn_wide.2 HFi.out)).mono ?_;rintro e w' ⟨rfl,rfl⟩)
      refine ⟨(KeepsOthers.setCell _ _ _).trans (KeepsOthers.setCell _ _ _),rfl,(HXW.out.setCell (p:=⟨b4,0,none⟩) hb4w _).setCell (p:=⟨b5,0,none⟩) hb5w _,(HK4.out.set 0 _).far2 hne,(HK5.out.far2 (Ne.symm hne)).set 0 _,_,HGG.out,?_⟩
      rw [List.filter_append,List.filter_cons_of_pos (by simp [HFp.out]),List.filter_nil,← HMap.out]
      simp only [List.length_append,List.length_map,List.length_cons,List.length_nil]
      omega
     ·have h8i:¬ (bs.length:Int)=8192:=by omega
      obtain ⟨ii,hii,hz0',hz1',hz2'⟩:=info_parts Tryz.infoSh
      have hws:=HXW.out.size
      gi_wp2_with (first
       | (gi_at_call 53;refine (CallsIn.inRound l (callsIn_wide.2 HFi.out)).mono ?_;rintro e w' ⟨rfl,rfl⟩)
       | (gi_at_builtin;refine wpListIn_append_own _ rfl _ _ 28 rfl w.heap.size 33 ii (.agg #[.slice none 0 0,.int .i64 0]) 2 32 Tryz.underlying28 hii hz0' hz1' hz2' rfl (by decide) _ _ _ rfl (HOwn.out.alloc _) ⟨w'.heap.size,0,none⟩ 1 1 [.slice (some ⟨b,0,none⟩) n n,.int .i64 z] rfl rfl ?c1 ?c2 ?c3 ?c4 ?c5 ?_))
      case c1=>exact cell_two_new _ _ _ _
      case c2=>intro u hu;simp at hu;rcases hu with rfl|rfl <;> rfl
      case c3=>unfold maxLen;omega
      case c4=>omega
      case c5=>simp only [World.size_alloc];omega
      intro v' w5 hown' hgrow _
      obtain ⟨WA,hWA⟩:∃ WA,w'.alloc (.cells #[.slice (some ⟨b,0,none⟩) n n,.int .i64 z] 33)=WA:=⟨_,rfl⟩
      have hA:Ext w' WA:=by rw [← hWA];exact (Ext.refl _).alloc _
      have hoA:WA.ownsRow w.heap.size 33 2 (.slice Av bs.length cv) bs.length (bs.flatMap (encS n)):=by rw [← hWA];exact HOwn.out.alloc _
      rw [hWA] at hgrow
      have ek:∀ (b':Nat) (t':TypeId),TB w' t' b'→t'≠33→w5.heap[b']? = w'.heap[b']?:=fun b' t' hb' hne'=>(zAR hoA hgrow (hb'.of_eq (hA.block _ hb'.lt)) hne').trans (hA.block _ hb'.lt)
      have hk75:Blk w5 b7 28 #[.slice Av bs.length cv]:=(ek _ _ HK7.out.typ (by decide)).trans HK7.out
      have hX5:Ext w w5:=(HXW.out.trans hA).grown hgrow (fun k hk=>(hoA.lt k hk).1)
      have hko:KeepsOthers w' w5:=by
       have h1:KeepsOthers w' WA:=by rw [← hWA];exact KeepsOthers.alloc _ _
       refine h1.trans (KeepsOthers.of_grownBy hgrow fun j o hj ho=>?_)
       rcases hoA.2 with ⟨e1,_⟩|⟨g,cap,cur,e1,_,hh,_⟩
       ·rw [e1] at hj;simp [Value.ownBlock] at hj
       ·rw [e1] at hj
        simp only [Value.ownBlock,Option.some.injEq] at hj
        subst hj
        rw [hh] at ho
        cases ho;rfl
      obtain ⟨A5,c5,rfl⟩:∃ A c,v' = .slice A (bs.length+1) c:=by
       rcases hown'.2 with ⟨h,h0⟩|⟨g,cap,cur,h,_⟩
       ·omega
       ·exact ⟨_,_,h⟩
      have hv5:(Value.slice A5 (bs.length+1) c5).ownBlock≠some X:=by
       intro e
       have h1:TB w5 2 X:=HtX.out.of_eq (ek _ _ HtX.out (by decide))
       rcases hown'.2 with ⟨h,h0⟩|⟨g,cap,cur,h,_,hh,_⟩
       ·omega
       ·rw [h] at e
        simp only [Value.ownBlock,Option.some.injEq] at e
        subst e
        exact (TB.ne (b:=g) (b':=g) ⟨_,_,hh⟩ h1 (by decide)) rfl
      have HOwn5:=zH hown'
      have HK75:=zH hk75
      have HX5:=zH hX5
      have HKo:=zH hko
      have HEk:=zH ek
      have HV5:=zH hv5
      clear hown' hgrow hWA hA hoA ek hk75 hX5 hko hv5 hii hz0' hz1' hz2' c7 f7 l7
      obtain ⟨c7,f7⟩:=HK75.out.one
      have l7:=HK75.out.lt
      gi_wp2
      refine ⟨HKo.out.trans (KeepsOthers.setCell _ _ _),?_,?_⟩
      ·refine ⟨Nat.le_trans HKo.out.size (KeepsOthers.setCell _ _ _).size,fun b' t' hb' h1 h2=>?_⟩
       have hne:b'≠b7:=hb'.ne HK7.out.typ h2
       exact (Below.heap_setCell _ _ _ _ hne).trans (HEk.out b' t' hb' h1)
      ·have hEx:Ext w (w5.setCell ⟨b7,0,none⟩ (.slice A5 (bs.length+1) c5)):=HX5.out.setCell (p:=⟨b7,0,none⟩) hb7w _
       have keep:∀ b' t',TB w' t' b'→t'≠33→b'≠b7→(w5.setCell ⟨b7,0,none⟩ (.slice A5 (bs.length+1) c5)).heap[b']? = w'.heap[b']?:=fun b' t' hb' h1 h2=>(Below.heap_setCell _ _ _ _ h2).trans (HEk.out b' t' hb' h1)
       refine ⟨hEx,(keep _ _ HK4.out.typ (by decide) h47).trans HK4.out,(keep _ _ HK5.out.typ (by decide) h57).trans HK5.out,HII.out.n4,HII.out.n5,HII.out.n7,HGG.out,_,bs ++ [(b,v,z)],HK75.out.set 0 _,⟨?_,fun p hp=>?_⟩,?_,fun p hp=>?_,?_,HV5.out⟩
       ·have h:=HOwn5.out
        rw [List.flatMap_append,List.flatMap_cons,List.flatMap_nil,List.append_nil,List.length_append]
        rcases h with ⟨h1,⟨h2,h3⟩|⟨g,cap,cur,h2,h3,hh,rest⟩⟩
        ·omega
        ·have hgb:g≠b7:=fun e=>by
          subst e
          exact (TB.ne (b:=g) (b':=g) ⟨_,_,hh⟩ HK75.out.typ (by decide)) rfl
         exact ⟨h1,Or.inr ⟨g,cap,cur,h2,h3,(Below.heap_setCell _ _ _ _ hgb).trans hh,rest⟩⟩
       ·rcases List.mem_append.1 hp with h|h
        ·have hr:=HRows.out p h
         exact ⟨hr.1.keep (keep _ _ hr.1.typ (by decide) (hr.1.typ.ne HK7.out.typ (by decide))),hr.2⟩
        ·rw [List.mem_singleton] at h
         subst h
         exact ⟨HRow.out.keep (keep _ _ HRow.out.typ (by decide) (HRow.out.typ.ne HK7.out.typ (by decide))),HV.out,hbw⟩
       ·rw [List.map_append,HMap.out,List.filter_append,List.filter_cons_of_pos (by simp [HFp.out])]
        rfl
       ·rcases List.mem_append.1 hp with h|h
        ·exact HbX.out p h
        ·rw [List.mem_singleton] at h
         subst h
         exact hbX
       ·rw [List.length_append]
        show bs.length+1≤8192
        omega
   case done =>
    rintro D X L W hD hT hI hK
    obtain ⟨v0,bs,hk7,hsr,hmap,_,hlen,_⟩:=hI.row
    obtain ⟨Av,cv,rfl⟩:∃ A c,v0 = .slice A bs.length c:=by
     rcases hsr.own.2 with ⟨h,h0⟩|⟨g,cap,cur,h,_⟩
     ·exact ⟨none,0,by rw [h,h0]⟩
     ·exact ⟨_,_,h⟩
    have HSo:=zH (sort_any n W w.heap.size _ bs hsr om (by have:=HHS.out.dim;omega))
    have HSr:=zH hsr
    have HII:=zH hI
    have HT:=zH hT
    have HMap:=zH hmap
    have HDK:=zH hK
    have HK7:=zH hk7
    have c7:=hk7.one.1
    have l7:=hk7.lt
    have hDw:w2.heap.size≤D:=by omega
    have h45:b4≠b5:=by have:=HB5.out;omega
    have h54:b5≠b4:=Ne.symm h45
    clear hI hK hT hsr hmap hk7 HI0 HWK hD
    gi_wp2_with (gi_at_call 54;refine (callsIn_wide.2 HSo.out).mono ?_;rintro e w3 ⟨rfl,bs',hp,hso,hl,hsr⟩;have HP:=zH hp;have HPW:=zH hso;have HSL:=zH hl;have HSS:=zH hsr;have keep:∀ b' t',TB W t' b'→t'≠33→w3.heap[b']? = W.heap[b']?:=(fun b' t' hb' hne=>hsr.block b' hb'.lt (fun e=>by
       rcases HSr.out.own.2 with ⟨h,h0⟩|⟨g,cap,cur,h,_,hh,_⟩
       ·rw [h] at e;simp [Value.ownBlock] at e
       ·rw [h] at e
        simp only [Value.ownBlock,Option.some.injEq] at e
        subst e
        exact (TB.ne (b:=g) (b':=g) ⟨_,_,hh⟩ hb' (fun e=>hne e.symm)) rfl));have HKp:=zH keep;have K7:=(keep _ _ HK7.out.typ (by decide)).trans HK7.out;have K4:=(keep _ _ HII.out.k4.typ (by decide)).trans HII.out.k4;have K5:=(keep _ _ HII.out.k5.typ (by decide)).trans HII.out.k5;have HK43:=zH (show Blk w3 b4 28 #[.slice none 0 0] from K4);have HK53:=zH (show Blk w3 b5 25 #[.int .i64 0] from K5);obtain ⟨c73,f73⟩:=Blk.one (show Blk w3 b7 28 #[.slice Av bs.length cv] from K7);obtain ⟨c43,f43⟩:=HK43.out.one;obtain ⟨c53,f53⟩:=HK53.out.one;have l43:=HK43.out.lt;have l53:=HK53.out.lt;have l73:=Blk.lt (show Blk w3 b7 28 #[.slice Av bs.length cv] from K7);clear hp hso hl hsr keep K7 K4 K5)
    obtain ⟨V,hV⟩:∃ V,(w3.setCell ⟨b4,0,none⟩ (.slice Av bs.length cv)).setCell ⟨b5,0,none⟩ (.int .i64 0)=V:=⟨_,rfl⟩
    have hDlt:D < W.heap.size:=(Array.getElem?_eq_some_iff.1 HDK.out).1
    have hD3:w3.heap[D]? = some (.deferred (some [])):=(HSS.out.block D hDlt fun e=>by
     rcases HSr.out.own.2 with ⟨h,h0⟩|⟨g,cap,cur,h,_,hh,_⟩
     ·rw [h] at e;simp [Value.ownBlock] at e
     ·rw [h] at e
      simp only [Value.ownBlock,Option.some.injEq] at e
      subst e
      rw [HDK.out] at hh
      cases hh).trans HDK.out
    have hD4:D≠b4:=fun e=>by
     have:=HK43.out
     unfold Blk at this
     rw [← e,hD3] at this
     cases this
    have hD5:D≠b5:=fun e=>by
     have:=HK53.out
     unfold Blk at this
     rw [← e,hD3] at this
     cases this
    have hDV:V.heap[D]? = some (.deferred (some [])):=by rw [← hV];exact (Below.heap_setCell _ _ _ _ hD5).trans ((Below.heap_setCell _ _ _ _ hD4).trans hD3)
    have k4:Blk V b4 28 #[.slice Av bs.length cv]:=by rw [← hV];exact (HK43.out.set 0 _).far2 h45
    have k5:Blk V b5 25 #[.int .i64 0]:=by rw [← hV];exact (HK53.out.far2 h54).set 0 _
    have hXV:Ext w V:=by
     rw [← hV]
     refine Ext.setCell (p:=⟨b5,0,none⟩) (Ext.setCell (p:=⟨b4,0,none⟩) ?_ hb4w _) hb5w _
     have hx:=HII.out.ext
     exact show Below w.heap.size w w3 from ⟨HSS.out.os.trans (Below.os hx),HSS.out.tape.trans (Below.tape hx),HSS.out.output.trans (Below.output hx),Nat.le_trans hx.size HSS.out.size,fun i hi=>(HSS.out.block i (Nat.lt_of_lt_of_le hi hx.size) fun e=>by
      have:=(HSr.out.own.lt i e).1
      omega).trans (hx.block i hi)⟩
    have hSV:SList V w.heap.size n (.slice Av bs.length cv) bs':=by
     rw [← hV]
     refine HSL.out.keep fun b' t' hb' ht=>?_
     have e4:b'≠b4:=hb'.ne HK43.out.typ (by rcases ht with rfl|rfl <;> decide)
     have e5:b'≠b5:=hb'.ne HK53.out.typ (by rcases ht with rfl|rfl <;> decide)
     exact (Below.heap_setCell _ _ _ _ e5).trans (Below.heap_setCell _ _ _ _ e4)
    rw [hV]
    have htk:∀ X,TK w2.heap.size X V (V.putObj D (.deferred none)):=fun X=>TK.putObj hDV rfl om
    obtain ⟨r4,_⟩:=((htk (b4+1)).blk k4 om).one
    obtain ⟨r5,_⟩:=((htk (b5+1)).blk k5 om).one
    have hbl:(bs'.map (·.2)).length≤8192:=by rw [List.length_map,HP.out.length_eq];exact hlen
    refine ⟨by simp,.inl ⟨_,_,rfl,run_takeDeferred hDV,?_⟩⟩
    refine ⟨.tuple #[.slice Av bs.length cv,.int .i64 0],?_,?_⟩
    ·simp [results,Tryz.results18,go_sem,r4,r5]
    ·rw [← HR.out]
     refine ⟨(htk 0).ext hXV hww,Or.inr (Or.inr ⟨HCk.out,hn1,hn2,bs'.map (·.2),Shorts.done HT.out HMap.out HP.out HPW.out,Or.inl ⟨hbl,_,bs',rfl,?_,rfl⟩⟩)⟩
     exact hSV.keep fun b' t' hb' _=>(htk (b'+1)).block b' t' hb' om
   case stop =>
    rintro D c W hD hX hK
    obtain ⟨rfl,hx,hk4,hk5,pre,hte,hcnt⟩:=hX
    clear HI0 HWK
    have HX:=zH hx
    have HTe:=zH hte
    obtain ⟨e4,g4⟩:=hk4.one
    obtain ⟨e5,g5⟩:=hk5.one
    have hDw:w.heap.size≤D:=by omega
    have HK4e:=zH hk4
    have HK5e:=zH hk5
    have HDK:=zH hK
    clear hx hte hk4 hk5 hK
    gi_wp2
    refine ⟨by simp,.inl ⟨_,_,rfl,run_takeDeferred HDK.out,?_⟩⟩
    have htk:∀ X,TK w2.heap.size X W (W.putObj D (.deferred none)):=fun X=>TK.putObj HDK.out rfl om
    have k4:=(htk (b4+1)).blk HK4e.out om
    have k5:=(htk (b5+1)).blk HK5e.out om
    obtain ⟨r4,_⟩:=k4.one
    obtain ⟨r5,_⟩:=k5.one
    refine ⟨.tuple #[.slice none 0 0,.int .i64 9],?_,?_⟩
    ·simp [results,Tryz.results18,go_sem,r4,r5]
    ·rw [← HR.out]
     obtain ⟨L,hL⟩:=shorts_ex HHS.out nb
     refine ⟨(htk 0).ext HX.out hww,Or.inr (Or.inr ⟨HCk.out,hn1,hn2,L,hL,Or.inr ⟨?_,rfl⟩⟩)⟩
     exact Nat.lt_of_lt_of_le hcnt (HTe.out.count hL)
  ·rcases Int.lt_or_le nb 0 with h|h
   all_goals
    gi_wp2_with (gi_at_call 49;refine (callsIn_wide.2 HCh.out).mono ?_;rintro e w1 ⟨rfl,hx⟩;have HX1:=zH hx;have HK41:=zH (HK4.out.ext hx);have HK51:=zH (HK5.out.ext hx);obtain ⟨c4,f4⟩:=HK41.out.one;obtain ⟨c5,f5⟩:=HK51.out.one;have l4:=HK41.out.lt;have l5:=HK51.out.lt;clear hx)
    obtain ⟨V,hV⟩:∃ V,(w1.setCell ⟨b4,0,none⟩ (.slice none 0 0)).setCell ⟨b5,0,none⟩ (.int .i64 2)=V:=⟨_,rfl⟩
    have hne:b4≠b5:=by omega
    have HV4:Blk V b4 28 #[.slice none 0 0]:=by rw [← hV];exact (HK41.out.set 0 _).far2 hne
    have HV5:Blk V b5 25 #[.int .i64 2]:=by rw [← hV];exact (HK51.out.far2 (Ne.symm hne)).set 0 _
    have HXV:Hid (Ext w V):=by rw [← hV];exact ((HX0.out.trans HX1.out).setCell (p:=⟨b4,0,none⟩) hb4w _).setCell (p:=⟨b5,0,none⟩) hb5w _
    rw [hV]
    obtain ⟨e4,g4⟩:=HV4.one
    obtain ⟨e5,g5⟩:=HV5.one
    exact ⟨.tuple #[.slice none 0 0,.int .i64 2],by simp [results,Tryz.results18,go_sem,e4,e5],by
     rw [← HR.out]
     exact ⟨HXV.out,Or.inr (Or.inl ⟨HCk.out,hnb,rfl⟩)⟩⟩
 ·gi_wp2_with (gi_at_call 49;refine (callsIn_wide.2 HCh.out).mono ?_;rintro e w1 ⟨rfl,hx⟩;have HX1:=zH hx;have HK41:=zH (HK4.out.ext hx);have HK51:=zH (HK5.out.ext hx);obtain ⟨c4,f4⟩:=HK41.out.one;obtain ⟨c5,f5⟩:=HK51.out.one;have l4:=HK41.out.lt;have l5:=HK51.out.lt;clear hx)
  obtain ⟨V,hV⟩:∃ V,(w1.setCell ⟨b4,0,none⟩ (.slice none 0 0)).setCell ⟨b5,0,none⟩ (.int .i64 ck)=V:=⟨_,rfl⟩
  have hne:b4≠b5:=by omega
  have HV4:Blk V b4 28 #[.slice none 0 0]:=by rw [← hV];exact (HK41.out.set 0 _).far2 hne
  have HV5:Blk V b5 25 #[.int .i64 ck]:=by rw [← hV];exact (HK51.out.far2 (Ne.symm hne)).set 0 _
  have HXV:Hid (Ext w V):=by rw [← hV];exact ((HX0.out.trans HX1.out).setCell (p:=⟨b4,0,none⟩) hb4w _).setCell (p:=⟨b5,0,none⟩) hb5w _
  rw [hV]
  obtain ⟨e4,g4⟩:=HV4.one
  obtain ⟨e5,g5⟩:=HV5.one
  exact ⟨.tuple #[.slice none 0 0,.int .i64 ck],by simp [results,Tryz.results18,go_sem,e4,e5],by
   rw [← HR.out]
   exact ⟨HXV.out,Or.inl ⟨by rw [HCk.out];exact h0,by rw [HCk.out]⟩⟩⟩
end Go.Proofs.YtdkgilioejdmeaaGreat
