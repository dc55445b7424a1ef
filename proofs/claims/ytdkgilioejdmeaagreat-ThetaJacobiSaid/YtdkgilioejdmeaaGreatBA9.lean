/- YtdkgilioejdmeaaGreatBA9: what is proved here stands in the theorems' own rows. -/
import Derived.Deep.DeepCutAuto
import Derived.RangeFuncKeeps
import Derived.Test.YtdkgilioejdmeaaGreatBA1
import Derived.Test.YtdkgilioejdmeaaGreatBA8
set_option linter.unusedVariables false
set_option linter.unusedSimpArgs false
namespace Go.Proofs.YtdkgilioejdmeaaGreat
open Go.RowKit
set_option maxHeartbeats 8000000 in
set_option maxRecDepth 100000 in
theorem try_any (D:ItD) (J:List (List Int × Int)→World→Prop) (Jx:World→Prop) (r:Nat) (hS:Start D.n D.f) (hr:r < D.n) (hb:D.nb≤4096) (hnb:0≤D.nb) (hJ:∀ pre w w',J pre w→ExtBut (fun x=>x=D.X) w w'→J pre w') (hSt:StepOK D J Jx r):TryOK D J Jx r:=by
 intro P x na nb A B C E k m j l w hgd hI hx hj hq hxr hc hl
 have HGd:=zH hgd
 unfold pt
 obtain ⟨R,hR⟩:∃ R:Ending→World→Prop,(fun e w'=>(Qr D.n D.f r x≤D.nb*det r D.f∧∃ b,e = .returned (.tuple #[.bool true,.bool b])∧Goes D J Jx P r x w b w')∨(¬ Qr D.n D.f r x≤D.nb*det r D.f∧e = .returned (.tuple #[.bool false,.bool true])∧Ext w w'))=R:=⟨_,rfl⟩
 have HR:=zH hR
 rw [hR]
 clear hR
 obtain ⟨D0,hD0⟩:∃ D0:ItD,D0=D:=⟨_,rfl⟩
 have hn8:=hS.dim
 have HI:=zH hI
 have HW:=zH (fun z0 z1 (W:World)=>zDN (x r) W z0 z1)
 have HAdd:=zH (fun (W:World)=>sh_add hS hr hq hb hnb hxr W)
 have HSq:=zH (fun (W:World)=>sh_sq hS hr hq hb hnb hxr W)
 have HD:=zH (fun (W:World)=>sh_d hS hr hq hb hnb hxr W)
 have HRest:=zH (fun (W:World)=>sh_rest hS hr hq hb hnb hxr W)
 have HPos:=zH (sh_pos hS hr x D.nb)
 have z0:-9223372036854775808≤x r:=by omega
 have z1:x r≤9223372036854775807:=by omega
 have HSt:=zH hSt
 have HJ:=zH hj
 have HJJ:=zH hJ
 have HXn:=zH hx
 have HC:=zH hc
 have HL:=zH hl
 obtain ⟨bx,ebx⟩:∃ b,D.bx=b:=⟨_,rfl⟩
 obtain ⟨bd,ebd⟩:∃ b,D.bd=b:=⟨_,rfl⟩
 obtain ⟨bs,ebs⟩:∃ b,D.bs=b:=⟨_,rfl⟩
 obtain ⟨n,en⟩:∃ b,D.n=b:=⟨_,rfl⟩
 obtain ⟨X,eX⟩:∃ b,D.X=b:=⟨_,rfl⟩
 obtain ⟨hd,ehd⟩:∃ b,D.hd=b:=⟨_,rfl⟩
 have c1:=hI.vx.one.1
 have c2:=hI.vd.one.1
 have c3:=hI.vs.one.1
 have c4:=hx.cell r hr
 obtain ⟨nd,Ad,kd,Bd,md,cd1,cd2,cd3,id⟩:=hI.row.cells r hr
 rw [(zBx D.f hr).1,(zBx D.f hr).2] at id
 have HId:=zH id
 rw [ebx,en,eX] at c1
 rw [ebd,en,ehd] at c2
 rw [ebs] at c3
 rw [eX] at c4
 rw [ehd] at cd1 cd2 cd3
 obtain ⟨xr,hxre⟩:∃ z,x r=z:=⟨_,rfl⟩
 rw [hxre] at c4 z0 z1 HW
 have HXr:=zH hxre
 rw [en] at hr hn8
 have HEn:=zH en
 have HEx:=zH eX
 rw [ebx,ebd,ebs]
 have HD0:=zH ehd
 have HE:=zH (show D.bx=bx∧D.bd=bd∧D.bs=bs from ⟨ebx,ebd,ebs⟩)
 clear hgd hI hx hj hq hxr hc hl hS hb hnb hJ hSt id ebx ebd ebs en eX ehd hxre hD0 D0
 go_enter Tryz.func99,Tryz.ntmps99
 go_upto_region 1 with (fail)
 obtain ⟨b7,hb7⟩:∃ b,w.heap.size=b:=⟨_,rfl⟩
 obtain ⟨b8,hb8⟩:∃ b,w.heap.size+1=b:=⟨_,rfl⟩
 obtain ⟨W1,hW1⟩:∃ W1,(w.alloc (.cells #[.bool na,.slice A k k,.slice B m m] 144)).alloc (.cells #[.bool nb,.slice C j j,.slice E l l] 144)=W1:=⟨_,rfl⟩
 have HX1:Hid (Ext w W1):=by rw [← hW1];exact ((Ext.refl w).alloc _).alloc _
 have HK7:Hid (Blk W1 b7 144 #[.bool na,.slice A k k,.slice B m m]):=by rw [← hW1,← hb7];exact Blk.al (Blk.new _ _ _)
 have HK8:Hid (Blk W1 b8 144 #[.bool nb,.slice C j j,.slice E l l]):=by rw [← hW1,← hb8];exact Blk.at (by simp)
 have h78:b7≠b8:=by omega
 have hs1:w.heap.size≤b7:=by omega
 rw [hW1,hb8,hb7]
 clear hW1 hb7 hb8
 obtain ⟨c7a,f7a,c7b,f7b,c7c,f7c⟩:=HK7.out.three
 obtain ⟨c8a,f8a,c8b,f8b,c8c,f8c⟩:=HK8.out.three
 replace HC:=zH (HC.out.ext HX1.out)
 replace HL:=zH (HL.out.ext HX1.out)
 replace HId:=zH (HId.out.ext HX1.out)
 have l7:=HK7.out.lt
 have l8:=HK8.out.lt
 replace c1:=HX1.out.cell c1
 replace c2:=HX1.out.cell c2
 replace c3:=HX1.out.cell c3
 replace c4:=HX1.out.cell c4
 replace cd1:=HX1.out.cell cd1
 replace cd2:=HX1.out.cell cd2
 replace cd3:=HX1.out.cell cd3
 have HX:=HX1
 have HAd1:=zH (fun W n1 A1 e1 B1 m1 (h:IsQ W n1 A1 e1 B1 m1 (x r) 1∧Ext W1 W)=>HAdd.out W n1 na A1 B1 A B e1 m1 k m h.1 (HC.out.ext h.2))
 have HWh:=zH (fun W=>HW.out z0 z1 W)
 clear HAdd HW
 go_upto_region 1 with (fail)
 go_cut [11] (fun s11 wx=>∃ b11,s11 = .pointer (some ⟨b11,0,none⟩)∧W1.heap.size≤b11∧Hid (QB wx b11 (Yr D.n D.f r x) (det (r+1) D.f).natAbs)∧Hid (Ext W1 wx))
 case first =>
  have HKeepT:=zH (fun (w':World) (hx:Ext W1 w')=>(show w'.cell? ⟨bx,0,none⟩=some (.slice (some ⟨X,0,none⟩) n n)∧w'.cell? ⟨X,r,none⟩=some (.int .i64 xr)∧w'.cell? ⟨b7,0,none⟩=some (.bool na)∧w'.cell? ⟨b7,1,none⟩=some (.slice A k k)∧w'.cell? ⟨b7,2,none⟩=some (.slice B m m) from ⟨hx.cell c1,hx.cell c4,hx.cell c7a,hx.cell c7b,hx.cell c7c⟩))
  have hxA:Ext W1 W1:=Ext.refl _
  refine rU HKeepT [11,12] [9] 13 (fun hH hC=>?_)
  revert hC
  refine tk 0 13 hH ?_
  refine tk 1 13 hH ?_
  refine tk 2 13 hH ?_
  refine tk 3 13 hH ?_
  refine tk 5 13 hH ?_
  intro hC
  refine zAj (al:=10) (d:=11) (c:=4) (T:=144) (zs:=#[.bool false,.slice none 0 0,.slice none 0 0]) (fuel:=6) (L:=fun l11=>#[true,true,true,true,false,true,false,false,false,false,l11,false,false]) W1 W1.heap.size hxA.size Sg Sg (by intro l11;cases l11 <;> kernel_rfl) (by intro l11;cases l11 <;> kernel_rfl) (by rfl) (by intro l11;cases l11 <;> kernel_rfl) ?_ (fun w' hx=>HKeepT.out _ (hxA.trans hx)) ?_ false W1.drew (Ext.refl _).drew AlOK.no
  ·intro v1 w' K' hK'
   try simp only [Act.put,sA,sB,sC]
   try simp only [Act.put,sA,sB,sC] at hK'
   go_simp
   exact hK'
  intro l11 v11 y hxy hal11 hct K hK
  (try clear hH)
  (try clear hC)
  try simp only [Act.put,sA,sB,sC]
  replace hxA:=hxA.trans hxy
  go_simp
  (go_at_call 101;refine (HWh.out _).mono ?_;rintro e w1 ⟨n1,A1,e1,B1,m1,rfl,hn1,hx⟩;have hxN:Ext W1 w1:=Ext.trans (by repeat (first|with_reducible exact hxA)) hx;clear hxA;have hxA:=hxN;clear hxN;have HN1:=zH hn1;clear hn1;replace hal11:=AlOK.ext hal11 (Ext.trans (by repeat (first|with_reducible exact Ext.refl _)) hx);clear hx)
  try go_wp2_with fail
  have hHeldN:=HKeepT.out w1 hxA
  refine hK.out _ _ (fun _ _=>hHeldN) (fun hCn=>?_)
  clear hK K
  (try clear hct)
  have hH:=hHeldN
  have hC:=hCn
  clear hHeldN hCn
  try simp only [Act.put,sA,sB,sC]
  refine zAj (al:=10) (d:=11) (c:=6) (T:=144) (zs:=#[.bool false,.slice none 0 0,.slice none 0 0]) (fuel:=5) (L:=fun l11=>#[true,true,true,true,true,true,false,false,false,false,l11,false,false]) w1 W1.heap.size hxA.size Sg Sg (by intro l11;cases l11 <;> kernel_rfl) (by intro l11;cases l11 <;> kernel_rfl) (by rfl) (by intro l11;cases l11 <;> kernel_rfl) ?_ (fun w' hx=>HKeepT.out _ (hxA.trans hx)) ?_ l11 w1 (Ext.refl _) hal11
  ·intro v1 w' K' hK'
   try simp only [Act.put,sA,sB,sC]
   try simp only [Act.put,sA,sB,sC] at hK'
   go_simp
   exact hK'
  intro l11 v11 y hxy hal11 hct K hK
  (try clear hH)
  (try clear hC)
  try simp only [Act.put,sA,sB,sC]
  replace hxA:=hxA.trans hxy
  (try replace HN1:=zH (HN1.out.ext hxy))
  go_simp
  (go_at_call 100;with_reducible refine Calls.mono (HAd1.out _ _ _ _ _ _ ?_) ?_;exact ⟨by rw [HXr.out];exact HN1.out.ext Ext.ub,(by repeat (first|with_reducible exact hxA))⟩;rintro e w2 ⟨n2,A2,e2,B2,m2,rfl,hn2,hx⟩;have hxN:Ext W1 w2:=Ext.trans (by repeat (first|with_reducible exact hxA)) hx;clear hxA;have hxA:=hxN;clear hxN;have HN2:=zH hn2;clear hn2;(first|(have hh:=zH (HN1.out.ext (Ext.trans Ext.ub hx));clear HN1;have HN1:=hh;clear hh));replace hal11:=AlOK.ext hal11 (Ext.trans (by repeat (first|with_reducible exact Ext.refl _)) hx);clear hx)
  try go_wp2_with fail
  have hHeldN:=HKeepT.out w2 hxA
  refine hK.out _ _ (fun _ _=>hHeldN) (fun hCn=>?_)
  clear hK K
  (try clear hct)
  have hH:=hHeldN
  have hC:=hCn
  clear hHeldN hCn
  try simp only [Act.put,sA,sB,sC]
  refine zAN hC hH (i:=7) (f:=13) (v:=?_) Sg kr (by cases l11 <;> kernel_rfl) (by cases l11 <;> kernel_rfl) kr Iq (by rfl) ?_ (fun hCn=>?_)
  rotate_left
  ·intro w' hSw;go_simp;(try with_reducible rfl)
  clear hC
  have hC:=hCn
  clear hCn
  try simp only [Act.put,sA,sB,sC]
  refine zAN hC hH (i:=8) (f:=13) (v:=?_) Sg kr (by cases l11 <;> kernel_rfl) (by cases l11 <;> kernel_rfl) kr Iq (by rfl) ?_ (fun hCn=>?_)
  rotate_left
  ·intro w' hSw;go_simp;(try with_reducible rfl)
  clear hC
  have hC:=hCn
  clear hCn
  try simp only [Act.put,sA,sB,sC]
  refine zAF hC (i:=9) (v:=?_) Sg kr (by cases l11 <;> kernel_rfl) (by cases l11 <;> kernel_rfl) kr Iq (by rfl) ?_ (fun hCn=>?_)
  rotate_left
  ·intro w';go_simp;(try with_reducible rfl)
  clear hC
  have hC:=hCn
  clear hCn
  try simp only [Act.put,sA,sB,sC]
  refine zAj (al:=10) (d:=11) (c:=11) (T:=144) (zs:=#[.bool false,.slice none 0 0,.slice none 0 0]) (fuel:=1) (L:=fun l11=>#[true,true,true,true,true,true,true,true,true,true,l11,false,false]) w2 W1.heap.size hxA.size Sg Sg (by intro l11;cases l11 <;> kernel_rfl) (by intro l11;cases l11 <;> kernel_rfl) (by rfl) (by intro l11;cases l11 <;> kernel_rfl) ?_ (fun w' hx=>HKeepT.out _ (hxA.trans hx)) ?_ l11 w2 (Ext.refl _) hal11
  ·intro v1 w' K' hK'
   try simp only [Act.put,sA,sB,sC]
   try simp only [Act.put,sA,sB,sC] at hK'
   go_simp
   exact hK'
  intro l11 v11 y hxy hal11 hct K hK
  (try clear hH)
  (try clear hC)
  try simp only [Act.put,sA,sB,sC]
  replace hxA:=hxA.trans hxy
  (try replace HN1:=zH (HN1.out.ext hxy))
  (try replace HN2:=zH (HN2.out.ext hxy))
  obtain rfl:l11=true:=by
   cases l11 with
   | false=>exact absurd (Eq.trans (Eq.symm hct) kr) (show ¬ (true=false) by decide)
   | true=>rfl
  obtain ⟨b11,rfl,hb11,k11⟩:=hal11 rfl
  clear hal11
  have zl11:=k11.lt
  obtain ⟨zc11a,zf11a,zc11b,zf11b,zc11c,zf11c⟩:=k11.three
  clear hct
  go_simp
  refine hK.out _ _ (fun h=>by cases h) (fun hCn=>?_)
  clear hK K
  have hC:=hCn
  clear hCn
  try simp only [Act.put,sA,sB,sC]
  refine zAB hC (i:=12) Sg kr (fun K hK=>?_)
  go_simp
  refine hK.out _ _ (fun h=>by cases h) (fun hCn=>?_)
  clear hK K hC
  have hC:=hCn
  clear hCn
  try simp only [Act.put,sA,sB,sC]
  refine zAD kr ?_ _
  clear hC HKeepT
  skip
  go_wp2
  refine Met.intro ?_
  go_step
  (repeat apply Exists.intro)
  refine And.symm ⟨?_,?_⟩
  ·first|with_reducible rfl
  first
  | exact ⟨_,rfl,(by first|assumption),zH (QB.mk2 (by (with_reducible repeat (first|(refine Blk.put3 ?_;· (repeat (first|exact BlkN.of k11 rfl)))))) (by (with_reducible repeat (first|exact HN2.out|(refine IsQ.setN ?_ ?_;· (repeat (first|exact NB.of k11 (by decide)|refine NB.set ?_))))))),zH Ext.ua⟩
 obtain ⟨b11,rfl,hb11,HB11,HX2⟩:=hcut
 obtain ⟨W2,hWn⟩:∃ W2,wc=W2:=⟨_,rfl⟩
 rw [hWn] at HB11 HX2 ⊢
 clear hWn wc
 replace c1:=HX2.out.cell c1
 replace c2:=HX2.out.cell c2
 replace c3:=HX2.out.cell c3
 replace c4:=HX2.out.cell c4
 replace cd1:=HX2.out.cell cd1
 replace cd2:=HX2.out.cell cd2
 replace cd3:=HX2.out.cell cd3
 replace f7a:=HX2.out.free f7a (zAA c7a)
 replace c7a:=HX2.out.cell c7a
 replace f7b:=HX2.out.free f7b (zAA c7b)
 replace c7b:=HX2.out.cell c7b
 replace f7c:=HX2.out.free f7c (zAA c7c)
 replace c7c:=HX2.out.cell c7c
 replace f8a:=HX2.out.free f8a (zAA c8a)
 replace c8a:=HX2.out.cell c8a
 replace f8b:=HX2.out.free f8b (zAA c8b)
 replace c8b:=HX2.out.cell c8b
 replace f8c:=HX2.out.free f8c (zAA c8c)
 replace c8c:=HX2.out.cell c8c
 replace HL:=zH (HL.out.ext HX2.out)
 replace HId:=zH (HId.out.ext HX2.out)
 replace HX:=zH (HX.out.trans HX2.out)
 have hszW2:=HX2.out.size
 obtain ⟨n11,A11,k11,B11,m11,q11,hn11⟩:=HB11.out.box
 obtain ⟨c11a,f11a,c11b,f11b,c11c,f11c⟩:=q11.three
 have HQ11:=HB11
 have hl11:=q11.lt
 have HN11:=zH hn11
 clear hn11 q11 HB11
 have h711:b7≠b11:=by omega
 have h811:b8≠b11:=by omega
 clear HAd1 HWh HK7 HC
 go_upto_region 3 with (go_at_call 102;refine (HSq.out _ _ _ _ _ _ HN11.out).mono ?_;rintro e v1 ⟨n5,A5,k5,B5,m5,rfl,hq5,hx⟩;have HX4:=zH hx;have HQ5:=zH hq5;have d0a:=hx.cell c11a;have d0b:=hx.cell c11b;have d0c:=hx.cell c11c;have g0a:=hx.free f11a (zAA c11a);have g0b:=hx.free f11b (zAA c11b);have g0c:=hx.free f11c (zAA c11c);clear hx hq5)
 obtain ⟨V5,hV5⟩:∃ V5,setQ v1 b11 0 n5 A5 k5 B5 m5=V5:=⟨_,rfl⟩
 have hT4:TB v1 144 b11:=HQ11.out.typ.of_eq (HX4.out.block _ HQ11.out.typ.lt)
 have HX5:Hid (Ext W1 V5):=by rw [← hV5];exact zBg (HX2.out.trans HX4.out) hb11
 have HB5:Hid (QB V5 b11 (Yr D.n D.f r x*Yr D.n D.f r x) ((det (r+1) D.f).natAbs*(det (r+1) D.f).natAbs)):=by rw [← hV5];exact (HQ11.out.ext HX4.out).setQ HQ5.out
 replace HL:=zH (show IsQ V5 nb C j E l (D.nb*det (r+1) D.f - Qr D.n D.f (r+1) x) (det (r+1) D.f).natAbs by rw [← hV5];exact (HL.out.ext HX4.out).setQ hT4 (by decide))
 replace HId:=zH (show IsQ V5 nd Ad kd Bd md (det (r+1) D.f) (det r D.f).natAbs by rw [← hV5];exact (HId.out.ext HX4.out).setQ hT4 (by decide))
 have eV:((v1.setCell ⟨b11,0,none⟩ (.bool n5)).setCell ⟨b11,1,none⟩ (.slice A5 k5 k5)).setCell ⟨b11,2,none⟩ (.slice B5 m5 m5)=V5:=hV5
 rw [eV]
 clear eV hV5 hT4 HX4 HQ5 d0a d0b d0c g0a g0b g0c c11a c11b c11c f11a f11b f11c c7a c7b c7c f7a f7b f7c HSq HQ11 HN11 c4 c8a c8b c8c f8a f8b f8c c1 c2 cd1 cd2 cd3 c3
 have HI5:=zH (HI.out.ext (HX1.out.trans HX5.out))
 have c2:=HI5.out.vd.one.1
 have cds:=HI5.out.row.cells r (by rw [HEn.out];exact hr)
 obtain ⟨x5,A5,k5,B5,m5,q5,i5⟩:=HB5.out.box
 obtain ⟨c5a,f5a,c5b,f5b,c5c,f5c⟩:=q5.three
 have HQ5:=zH i5
 clear i5 q5
 obtain ⟨nd,Ad,kd,Bd,md,cd1,cd2,cd3,id⟩:=cds
 rw [(zBx D.f (by rw [HEn.out];exact hr)).1,(zBx D.f (by rw [HEn.out];exact hr)).2] at id
 have HId:=zH id
 clear id
 rw [HE.out.2.1,HEn.out] at c2
 have HM:=zH (fun W (hx:Ext V5 W)=>HD.out W x5 nd A5 B5 Ad Bd k5 m5 kd md (HQ5.out.ext hx) (HId.out.ext hx))
 have l5a:=zAA c5a
 have l2a:=zAA c2
 have ld1:=zAA cd1
 simp only at l5a l2a ld1
 rw [HD0.out] at cd1 cd2 cd3 c2
 go_upto_region 3 with (fail)
 have HKeepT:=zH (fun (w':World) (hx:Ext V5 w')=>(show w'.cell? ⟨bd,0,none⟩=some (.slice (some ⟨hd,0,none⟩) n n)∧w'.cell? ⟨hd,r*3,none⟩=some (.bool nd)∧w'.cell? ⟨hd,r*3+1,none⟩=some (.slice Ad kd kd)∧w'.cell? ⟨hd,r*3+2,none⟩=some (.slice Bd md md)∧w'.cell? ⟨b11,0,none⟩=some (.bool x5)∧w'.cell? ⟨b11,1,none⟩=some (.slice A5 k5 k5)∧w'.cell? ⟨b11,2,none⟩=some (.slice B5 m5 m5) from ⟨hx.cell c2,hx.cell cd1,hx.cell cd2,hx.cell cd3,hx.cell c5a,hx.cell c5b,hx.cell c5c⟩))
 refine rU HKeepT [9] [8] 10 (fun hH hC=>?_)
 revert hC
 refine tk 0 10 hH ?_
 refine tk 1 10 hH ?_
 refine tk 2 10 hH ?_
 refine tk 3 10 hH ?_
 refine tk 4 10 hH ?_
 intro hC
 refine zAB hC (i:=5) Sg kr (fun K hK=>?_)
 go_simp
 (go_at_call 102;with_reducible refine Calls.mono (HM.out _ ?_) ?_;exact Ext.ua;rintro e w1 ⟨n1,A1,e1,B1,m1,rfl,hn1,hx⟩;have hxN:Ext V5 w1:=Ext.trans Ext.ua hx;have hxA:=hxN;clear hxN;have HN1:=zH hn1;clear hn1;have tc5a:=hxA.cell c5a;have uc5a:=hxA.free f5a (zAA c5a);have tc5b:=hxA.cell c5b;have uc5b:=hxA.free f5b (zAA c5b);have tc5c:=hxA.cell c5c;have uc5c:=hxA.free f5c (zAA c5c);clear hx)
 try go_wp2_with fail
 have hHeldN:=HKeepT.out w1 Ext.ua
 refine hK.out _ _ (fun _ _=>hHeldN) (fun hCn=>?_)
 clear hK K hH hC
 have hH:=hHeldN
 have hC:=hCn
 clear hHeldN hCn
 try simp only [Act.put,sA,sB,sC]
 revert hC
 refine tk 6 10 hH ?_
 refine tk 7 10 hH ?_
 intro hC
 refine zAF hC (i:=8) (v:=?_) Sg kr kr kr kr Iq (by rfl) ?_ (fun hCn=>?_)
 rotate_left
 ·intro w';go_simp;(try with_reducible rfl)
 clear hC
 have hC:=hCn
 clear hCn
 try simp only [Act.put,sA,sB,sC]
 refine zAB hC (i:=9) Sg kr (fun K hK=>?_)
 go_simp
 refine hK.out _ _ (fun h=>by cases h) (fun hCn=>?_)
 clear hK K hC
 have hC:=hCn
 clear hCn
 try simp only [Act.put,sA,sB,sC]
 refine zAD kr ?_ _
 clear hC HKeepT
 try clear hH
 obtain ⟨V6,hV6⟩:∃ V6,setQ w1 b11 0 n1 A1 e1 B1 m1=V6:=⟨_,rfl⟩
 have hT6:TB w1 144 b11:=HB5.out.typ.of_eq (hxA.block _ HB5.out.typ.lt)
 have HX6:Hid (Ext W1 V6):=by rw [← hV6];exact zBg (HX5.out.trans hxA) hb11
 have HB6:Hid (QB V6 b11 (Yr D.n D.f r x*Yr D.n D.f r x) ((det (r+1) D.f).natAbs*(det r D.f).natAbs)):=by rw [← hV6];exact (HB5.out.ext hxA).setQ HN1.out
 have HL6:=zH (show IsQ V6 nb C j E l (D.nb*det (r+1) D.f - Qr D.n D.f (r+1) x) (det (r+1) D.f).natAbs by rw [← hV6];exact (HL.out.ext hxA).setQ hT6 (by decide))
 have eV:((w1.setCell ⟨b11,0,none⟩ (.bool n1)).setCell ⟨b11,1,none⟩ (.slice A1 e1 e1)).setCell ⟨b11,2,none⟩ (.slice B1 m1 m1)=V6:=hV6
 rw [eV]
 clear eV hV6 hT6 hxA HN1 HL HB5 HX5 HM HD HId HQ5 HI5 c2 cd1 cd2 cd3 c5a c5b c5c f5a f5b f5c tc5a tc5b tc5c uc5a uc5b uc5c l5a l2a ld1
 obtain ⟨x6,A6,k6,B6,m6,q6,i6⟩:=HB6.out.box
 obtain ⟨c6a,f6a,c6b,f6b,c6c,f6c⟩:=q6.three
 have HQ6:=zH i6
 have HK6:=zH (HK8.out.ext HX6.out)
 obtain ⟨c8a,f8a,c8b,f8b,c8c,f8c⟩:=HK6.out.three
 have HCmp:=zH (cmpV x6 nb A6 B6 C E k6 m6 j l _ _ _ _ V6 HQ6.out HL6.out)
 obtain ⟨sg,hsg⟩:∃ sg,signZ (Yr D.n D.f r x*Yr D.n D.f r x*((det (r+1) D.f).natAbs:Int) - (D.nb*det (r+1) D.f - Qr D.n D.f (r+1) x)*(((det (r+1) D.f).natAbs*(det r D.f).natAbs:Nat):Int))=sg:=⟨_,rfl⟩
 rw [hsg] at HCmp
 have HSg:=zH ((by rw [← hsg];exact (signZ_pos _).trans (HPos.out.trans Int.not_le.symm)):0 < sg↔¬ Qr D.n D.f r x≤D.nb*det r D.f)
 clear hsg HPos i6 q6
 have HXw:=zH (HX1.out.trans HX6.out)
 by_cases hp:0 < sg
 ·skip
  go_wp2_with (go_at_call 103;refine HCmp.out.mono ?_;rintro e v2 ⟨rfl,hx⟩;have HXe:=zH (HXw.out.trans hx);clear hx)
  rw [← HR.out]
  exact Or.inr ⟨HSg.out.1 hp,rfl,HXe.out⟩
 ·skip
  have HQle:=zH (Classical.not_not.1 fun h=>hp (HSg.out.2 h))
  go_upto_region 6 with (go_at_call 103;refine HCmp.out.mono ?_;rintro e v2 ⟨rfl,hx⟩;have HXe:=zH hx;have d6a:=hx.cell c6a;have g6a:=hx.free f6a (zAA c6a);have d6b:=hx.cell c6b;have g6b:=hx.free f6b (zAA c6b);have d6c:=hx.cell c6c;have g6c:=hx.free f6c (zAA c6c);have d8a:=hx.cell c8a;have g8a:=hx.free f8a (zAA c8a);have d8b:=hx.cell c8b;have g8b:=hx.free f8b (zAA c8b);have d8c:=hx.cell c8c;have g8c:=hx.free f8c (zAA c8c);clear hx)
  have HRe:=zH (HRest.out v2 nb x6 C E A6 B6 j l k6 m6 (HL6.out.ext HXe.out) (HQ6.out.ext HXe.out))
  clear HCmp HRest HQ6 HL6 HB6 HK6 HK8 HX6 HSg hp
  go_upto_region 7 with (go_at_call 104;refine HRe.out.mono ?_;rintro e v3 ⟨n7,A7,k7,B7,m7,rfl,hq,hx⟩;have HX7:=zH (HXw.out.trans (HXe.out.trans hx));have HQ7:=zH hq;clear hx hq)
  obtain ⟨b13,hb13⟩:∃ b,v3.heap.size=b:=⟨_,rfl⟩
  obtain ⟨V7,hV7⟩:∃ V7,v3.alloc (.cells #[.bool n7,.slice A7 k7 k7,.slice B7 m7 m7] 144)=V7:=⟨_,rfl⟩
  have HK9:Hid (Blk V7 b13 144 #[.bool n7,.slice A7 k7 k7,.slice B7 m7 m7]):=by rw [← hV7,← hb13];exact Blk.new _ _ _
  have HX9:Hid (Ext w V7):=by rw [← hV7];exact HX7.out.alloc _
  have HQ9:Hid (IsQ V7 n7 A7 k7 B7 m7 (D.nb*det r D.f - Qr D.n D.f r x) (det r D.f).natAbs):=by rw [← hV7];exact HQ7.out.ext ((Ext.refl _).alloc _)
  rw [hb13,hV7]
  clear hV7 hb13 HQ7 HX7 HXe HXw HRe
  have HI9:=zH (HI.out.ext HX9.out)
  have HJ9:=zH (HJJ.out _ w V7 HJ.out (HX9.out.toBut _))
  have HX10:=zH (HXn.out.ext HX9.out)
  have c3:=HI9.out.vs.one.1
  rw [HE.out.2.2] at c3
  obtain ⟨c9a,f9a,c9b,f9b,c9c,f9c⟩:=HK9.out.three
  unfold pt at c3
  have HGo:=zH (HSt.out P x n7 A7 B7 k7 m7 V7 HGd.out HI9.out HX10.out HJ9.out HQle.out HQ9.out)
  unfold pt at HGo
  clear HSt
  go_wp2_with (go_at_call 105;refine HGo.out.mono ?_;rintro e v9 ⟨b,rfl,hg⟩;have HG:=zH hg;clear hg)
  rw [← HR.out]
  refine Or.inl ⟨HQle.out,b,rfl,?_⟩
  rcases HG.out with ⟨h1,x',L,h2,h3,h4,h5,h6⟩|h
  ·exact Or.inl ⟨h1,x',L,h2,h3,h4,h5,(SK.of_ext HX9.out).trans h6⟩
  ·exact Or.inr h
theorem YieldAt.wide {m m':Nat} {P:Program} {l:Nat} {args:Array Value} {W:World} {R:Ending→World→Prop} (h:YieldAt Fence.wide m P l args W R):YieldAt Fence.wide m' P l args W R:=by
 obtain ⟨fn,tmps,assign,body,hy,hF,hR⟩:=h
 exact ⟨fn,tmps,assign,body,hy,hF,fun c cs _=>hR c cs (room_wide _)⟩
structure TK (N X:Nat) (w w':World):Prop where
 os:w'.os=w.os
 tape:w'.tape=w.tape
 output:w'.output=w.output
 size:w.heap.size≤w'.heap.size
 low:∀ b,b < N→b < w.heap.size→w'.heap[b]? = w.heap[b]?
 block:∀ b t,TB w t b→b≠X→w'.heap[b]? = w.heap[b]?
theorem TK.trans {N X:Nat} {a b c:World} (h:TK N X a b) (k:TK N X b c):TK N X a c :=
 ⟨k.os.trans h.os,k.tape.trans h.tape,k.output.trans h.output,Nat.le_trans h.size k.size,fun i hi h1=>(k.low i hi (Nat.lt_of_lt_of_le h1 h.size)).trans (h.low i hi h1),fun i t hi h1=>(k.block i t (hi.of_eq (h.block i t hi h1)) h1).trans (h.block i t hi h1)⟩
theorem TK.of_but {N X:Nat} {a b:World} (h:ExtBut (fun x=>x=X) a b) (hX:N≤X):TK N X a b:=⟨h.os,h.tape,h.output,h.size,fun i hi h1=>h.block i h1 om,fun i t hi h1=>h.block i hi.lt h1⟩
theorem TK.of_ext {N X:Nat} {a b:World} (h:Ext a b):TK N X a b :=
 have k:=h.toBut (fun _=>False)
 ⟨k.os,k.tape,k.output,k.size,fun i hi h1=>k.block i h1 (fun h=>h),fun i t hi h1=>k.block i hi.lt (fun h=>h)⟩
theorem TK.typ {N X:Nat} {a b:World} (h:TK N X a b) {i:Nat} {t:TypeId} (hi:TB a t i) (h3:i≠X):TB b t i:=hi.of_eq (h.block i t hi h3)
theorem TK.blk {N X:Nat} {a b:World} (h:TK N X a b) {i:Nat} {t:TypeId} {cs:Array Value} (hi:Blk a i t cs) (h3:i≠X):Blk b i t cs:=(h.block i t hi.typ h3).trans hi
theorem TK.nrow {N X:Nat} {a b:World} (h:TK N X a b) {c n:Nat} {f:Nat→Int} (r:NRow a c n f) (h3:c≠X):NRow b c n f:=r.keep (h.block c _ r.typ h3)
theorem TK.ext {N X:Nat} {w0 a b:World} (h:TK N X a b) (hx:Ext w0 a) (hN:w0.heap.size≤N):Ext w0 b :=
 show Below w0.heap.size w0 b from ⟨h.os.trans (Below.os hx),h.tape.trans (Below.tape hx),h.output.trans (Below.output hx),Nat.le_trans hx.size h.size,fun i hi=>(h.low i om (Nat.lt_of_lt_of_le hi hx.size)).trans (hx.block i hi)⟩
theorem TK.putObj {N X:Nat} {W:World} {l:Nat} {o o':Obj} (hl:W.heap[l]? = some o) (ho:o.isCells=false) (hN:N≤l):TK N X W (W.putObj l o') :=
 ⟨rfl,rfl,rfl,by simp,fun b hb _=>World.putObj_heap_other (fun e=>by omega),fun b t hb _=>World.putObj_heap_other (fun e=>by
  subst e
  obtain ⟨cs,fz,h⟩:=hb
  rw [hl] at h
  cases h
  cases ho)⟩
structure Told (n:Nat) (f:Nat→Nat→Int) (nb:Int) (L:List (List Int × Int)):Prop where
 once:(L.map Prod.fst).Nodup
 mem:∀ y z,(y,z)∈L↔y.length=n∧z=qf n f (vat y)∧z≤nb
def TellOK (n:Nat) (f:Nat→Nat→Int) (nb:Int) (pre:List (List Int × Int)):Prop:=(pre.map Prod.fst).Nodup∧∀ p,p∈pre→p.1.length=n∧p.2=qf n f (vat p.1)∧p.2≤nb
def WalkOK (gf:Nat) (lb:Array Value) (n:Nat) (f:Nat→Nat→Int) (nb:Int) (w0:World):Prop :=
 ∀ (l:Nat) (J:Nat→List (List Int × Int)→World→Prop) (Jx:World→Prop) (W:World),Ext w0 W→(∀ X,W.heap.size≤X→Cons (TellOK n f nb) l X n (J X) Jx)→(∀ X,W.heap.size≤X→J X [] W) →
  Calls Tryz.prog gf (#[.func (.yield l) #[] #[]] ++ lb) W fun e W'=>(∃ v,e = .returned v)∧((∃ X L,w0.heap.size≤X∧Told n f nb L∧J X L W')∨Jx W')
def ownPostY (I:List (List Int × Int)→World→Prop) (Ix:Code→World→Prop) (xs:List (List Int × Int)) (W:World):Exit→Act→World→Prop
 | .normal,_,W'=>KeepsOthers W W'∧YK W W'∧I xs W'
 | .ret,_,W'=>KeepsOthers W W'∧Ix .ret W'
 | .exit id,_,W'=>KeepsOthers W W'∧Ix (.exit id) W'
 | .goto t,_,W'=>KeepsOthers W W'∧Ix (.goto t) W'
 | .panic _,_,_=>False
 | .outgrown,_,_=>False
theorem YK.of_tk {N:Nat} {W W':World} (h:∀ X,TK N X W W'):YK W W':=⟨(h 0).size,fun b t hb _ _=>(h (b+1)).block b t hb om⟩
theorem YK.trans {a b c:World} (h:YK a b) (k:YK b c):YK a c :=
 ⟨Nat.le_trans h.size k.size,fun i t hi h1 h2=>(k.block i t (hi.of_eq (h.block i t hi h1 h2)) h1 h2).trans (h.block i t hi h1 h2)⟩
theorem wpIn_rangeY {m:Nat} {g:Operand} {ps:Array Tmp} {assign body:Code} {Q:Exit→Act→World→Prop} {a:Act} {w:World}
  {gf:Nat} {lb:Array Value} (hg:a.eval g = .func (.func gf) #[] lb) (eg:∀ args w,(callFunc gf args).run Tryz.prog w = .ok (.enter gf args) w)
  {n:Nat} {f:Nat→Nat→Int} {nb:Int} (hseq:WalkOK gf lb n f nb w) (hps:ps.size=2)
  (I:Nat→List (List Int × Int)→World→Prop) (Ix:Code→World→Prop)
  (hI:∀ X pre A B,I X pre A→TK w.heap.size X A B→I X pre B) (hIx:∀ c A B,Ix c A→(∀ X,TK w.heap.size X A B)→Ix c B) (h0:∀ X,w.heap.size≤X→I X [] w) (a₁ : Nat→Int→Act)
  (hassign:∀ (l:Nat) (b:Nat) (z:Int) (W:World) (K:Act→World→Prop),K (a₁ b z) W →
   assign.wpIn (Fence.wide.inRound l) m Tryz.prog (Exit.then K (fun _ _ _=>False)) { tmps:=(ps.zip #[.slice (some ⟨b,0,none⟩) n n,.int .i64 z]).foldl (fun t (p,v)=>t.setIfInBounds p v) a.tmps,defers:=[] } W)
  (hbody:∀ (l X:Nat) (pre:List (List Int × Int)) (v:List Int) (z:Int) (b:Nat) (w0 W:World),w.heap.size≤X→TellOK n f nb (pre ++ [(v,z)])→I X pre w0→TK w.heap.size X w0 W→w0.heap.size≤b→NRow W b n (vat v)→b≠X→TB W 2 X→v.length=n→0≤z→z≤4096 →
   body.wpIn (Fence.wide.inRound l) m Tryz.prog (ownPostY (I X) Ix (pre ++ [(v,z)]) W) (a₁ b z) W)
  (hdone:∀ (D X:Nat) (L:List (List Int × Int)) (W:World),D=w.heap.size→Told n f nb L→I X L W→W.heap[D]? = some (.deferred (some []))→Q .normal { a with defers:={ target:=.collected D,args:=#[] } :: a.defers } W)
  (hstop:∀ (D:Nat) (c:Code) (W:World),D=w.heap.size→Ix c W→W.heap[D]? = some (.deferred (some []))→c.wpIn Fence.wide m Tryz.prog Q { a with defers:={ target:=.collected D,args:=#[] } :: a.defers } W) :
  (Code.rangeFunc g ps assign body).wpIn Fence.wide m Tryz.prog Q a w:=by
 refine wpIn_rangeFunc ?_
 intro fn hfn
 show ∃ _,_
 obtain ⟨rec,hrec⟩:∃ rec:LoopState→Option Code→Loop,rec=fun st pe=>{ state:=st,pending:=pe,fn,tmps:=a.tmps,params:=ps,assign,body,defers:=w.heap.size } := ⟨_,rfl⟩
 obtain ⟨W1,hW1⟩:∃ W1,(w.alloc (.deferred (some []))).alloc (.loop (rec .ready none))=W1:=⟨_,rfl⟩
 have hL1:W1.heap[w.heap.size+1]? = some (.loop (rec .ready none)):=by
  rw [← hW1];have:=World.alloc_heap_new (w.alloc (.deferred (some []))) (.loop (rec .ready none));rwa [World.size_alloc] at this
 have hK1:W1.heap[w.heap.size]? = some (.deferred (some [])):=by
  rw [← hW1];exact (Below.heap_alloc _ _ _ (by simp)).trans (World.alloc_heap_new w _)
 have hX1:Ext w W1:=by rw [← hW1];exact ((Ext.refl w).alloc _).alloc _
 have hs1:w.heap.size+1 < W1.heap.size:=(Array.getElem?_eq_some_iff.1 hL1).1
 refine ⟨w.heap.size+1,[{ target:=.collected w.heap.size,args:=#[] }],W1,{ target:=.fn (.func gf) lb,args:=#[.func (.yield (w.heap.size+1)) #[] #[]] },W1,gf,
  #[.func (.yield (w.heap.size+1)) #[] #[]] ++ lb,W1,?_,?_,?_,?_,(fun h=>by cases h),?_⟩
 ·rw [← hW1,hrec];exact run_enterLoop_outer _ _ _ _ _
 ·simp only [resolve,hg]
  simp [go_sem]
 ·intro f' hf';exact trivial
 ·simp [invoke,go_sem,eg]
 ·have keepL:∀ {X:Nat} {A B:World} {o:Obj} {k:Nat},W1.heap.size≤X→k < W1.heap.size→ExtBut (fun x=>x=X) A B→A.heap[k]? = some o→B.heap[k]? = some o:=fun hX hk hx h=>(hx.block _ (Array.getElem?_eq_some_iff.1 h).1 om).trans h
  refine (callsIn_wide.2 (hseq (w.heap.size+1)
   (fun X pre W=>I X pre W∧W.heap[w.heap.size+1]? = some (.loop (rec .ready none))∧W.heap[w.heap.size]? = some (.deferred (some [])))
   (fun W=>∃ c,Ix c W∧W.heap[w.heap.size+1]? = some (.loop (rec .done (some c)))∧W.heap[w.heap.size]? = some (.deferred (some [])))
   W1 hX1 (fun X hX=>⟨?_,?_,?_⟩)
   (fun X hX=>⟨hI X _ _ _ (h0 X (Nat.le_trans hX1.size hX)) (TK.of_ext hX1),hL1,hK1⟩))).mono ?_
  ·rintro pre A B ⟨h1,h2,h3⟩ hx
   exact ⟨hI X pre A B h1 (TK.of_but hx om),keepL hX hs1 hx h2,keepL hX om hx h3⟩
  ·
   rintro m' pre v z b w0 W hG ⟨hi,hl0,hk0⟩ hx hbs hrow hbX htX hv hz0 hz1
   refine YieldAt.wide (m:=m) ?_
   have hl:=keepL hX hs1 hx hl0
   have hk:=keepL hX om hx hk0
   have hlt:w.heap.size+1 < W.heap.size:=(Array.getElem?_eq_some_iff.1 hl).1
   have hy:=run_yield (P:=Tryz.prog) (args:=#[.slice (some ⟨b,0,none⟩) n n,.int .i64 z]) hl (by rw [hrec];exact hps.symm)
   rw [hrec] at hy
   refine ⟨fn,_,assign,body,hy,roundIn_of_wpIn hfn (hassign _ b z W _ ⟨_,run_beginRound hl (by rw [hrec]),?_⟩)⟩
   have hl2:(W.putObj (w.heap.size+1) (.loop { rec .ready none with state:=.busy })).heap[w.heap.size+1]? = some (.loop { rec .ready none with state:=.busy }):=World.putObj_heap_same hlt
   have hk2:(W.putObj (w.heap.size+1) (.loop { rec .ready none with state:=.busy })).heap[w.heap.size]? = some (.deferred (some [])):=(World.putObj_heap_other om).trans hk
   have ht:∀ X,TK w.heap.size X W (W.putObj (w.heap.size+1) (.loop { rec .ready none with state:=.busy })):=fun X=>TK.putObj hl rfl om
   refine wpIn_mono (hbody _ X pre v z b w0 _ om hG hi ((TK.of_but hx om).trans (ht X)) hbs ((ht X).nrow hrow hbX) hbX ((ht (X+1)).typ htX om) hv hz0 hz1) ?_
   have fin:∀ (jump:Option Code) (W3:World),KeepsOthers (W.putObj (w.heap.size+1) (.loop { rec .ready none with state:=.busy })) W3 →
     (Instr.endRound (w.heap.size+1) jump).run Tryz.prog W3 = .ok (.bool jump.isNone) (W3.putObj (w.heap.size+1) (.loop (rec (if jump.isNone then .ready else .done) jump))) ∧
     W3.heap[w.heap.size+1]? = some (.loop { rec .ready none with state:=.busy }) ∧
     (W3.putObj (w.heap.size+1) (.loop (rec (if jump.isNone then .ready else .done) jump))).heap[w.heap.size+1]? = some (.loop (rec (if jump.isNone then .ready else .done) jump)) ∧
     (W3.putObj (w.heap.size+1) (.loop (rec (if jump.isNone then .ready else .done) jump))).heap[w.heap.size]? = some (.deferred (some [])):=fun jump W3 hk3=>by
    have hl3:=hk3.same _ _ hl2 rfl
    have:=run_endRound (P:=Tryz.prog) jump hl3
    rw [hrec] at this ⊢
    exact ⟨this,by rw [hrec] at hl3;exact hl3,World.putObj_heap_same (Array.getElem?_eq_some_iff.1 hl3).1,(World.putObj_heap_other om).trans (hk3.same _ _ hk2 rfl)⟩
   rintro e a3 W3 hp
   cases e with
   | normal =>
    obtain ⟨hk3,hy3,hi3⟩:=hp
    obtain ⟨hr,hl3,hl4,hk4⟩:=fin none W3 hk3
    have ht3:∀ X,TK w.heap.size X W3 (W3.putObj (w.heap.size+1) (.loop (rec .ready none))):=fun X=>TK.putObj hl3 rfl om
    exact ⟨_,_,hr,.inl ⟨rfl,⟨hI X _ _ _ hi3 (ht3 X),hl4,hk4⟩,((YK.of_tk ht).trans hy3).trans (YK.of_tk ht3)⟩⟩
   | ret =>
    obtain ⟨hk3,hi3⟩:=hp
    obtain ⟨hr,hl3,hl4,hk4⟩:=fin (some .ret) W3 hk3
    exact ⟨_,_,hr,.inr ⟨rfl,.ret,hIx _ _ _ hi3 (fun X=>TK.putObj hl3 rfl om),hl4,hk4⟩⟩
   | exit id =>
    obtain ⟨hk3,hi3⟩:=hp
    obtain ⟨hr,hl3,hl4,hk4⟩:=fin (some (.exit id)) W3 hk3
    exact ⟨_,_,hr,.inr ⟨rfl,.exit id,hIx _ _ _ hi3 (fun X=>TK.putObj hl3 rfl om),hl4,hk4⟩⟩
   | goto t =>
    obtain ⟨hk3,hi3⟩:=hp
    obtain ⟨hr,hl3,hl4,hk4⟩:=fin (some (.goto t)) W3 hk3
    exact ⟨_,_,hr,.inr ⟨rfl,.goto t,hIx _ _ _ hi3 (fun X=>TK.putObj hl3 rfl om),hl4,hk4⟩⟩
   | panic ch=>exact hp.elim
   | outgrown=>exact hp.elim
  ·rintro A B ⟨c,h1,h2,h3⟩ hx
   exact ⟨c,hIx c A B h1 (fun X=>TK.of_ext hx),(hx.block _ (Array.getElem?_eq_some_iff.1 h2).1).trans h2,(hx.block _ (Array.getElem?_eq_some_iff.1 h3).1).trans h3⟩
  ·
   rintro e W2 ⟨⟨v,rfl⟩,(⟨X,L,hX,hT,hi,hl,hk⟩|⟨c,hi,hl,hk⟩)⟩
   ·exact ⟨none,_,by have:=run_endLoop (P:=Tryz.prog) hl (by rw [hrec];simp);rw [hrec] at this;exact this,hdone _ X L _ rfl hT (hI X _ _ _ hi (TK.putObj hl rfl om)) ((World.putObj_heap_other om).trans hk)⟩
   ·exact ⟨some c,_,by have:=run_endLoop (P:=Tryz.prog) hl (by rw [hrec];simp);rw [hrec] at this;exact this,hstop _ c _ rfl (hIx c _ _ hi (fun X=>TK.putObj hl rfl om)) ((World.putObj_heap_other om).trans hk)⟩
end Go.Proofs.YtdkgilioejdmeaaGreat
