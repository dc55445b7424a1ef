/- YtdkgilioejdmeaaGreatBA7: what is proved here stands in the theorems' own rows. -/
import Derived.Deep.DeepCutAuto
import Derived.Test.YtdkgilioejdmeaaGreatBA1
import Derived.Test.YtdkgilioejdmeaaGreatBA5
import Derived.Test.YtdkgilioejdmeaaGreatBA6
set_option linter.unusedVariables false
set_option linter.unusedSimpArgs false
namespace Go.Proofs.YtdkgilioejdmeaaGreat
open Go.RowKit
set_option maxHeartbeats 4000000 in
set_option maxRecDepth 100000 in
theorem positive_any (A:Option Addr) (n c:Nat) (rows:List (List Int)) (w:World) (hn:n=rows.length) (hn1:1≤n) (hn8:n≤100) (hr:IsRows w A rows) (hf:Fit64 rows) (hsq:∀ l∈rows,l.length=n) :
  Calls Tryz.prog 95 #[.slice A n c] w fun e w'=>e = .returned (.bool (posB n (entry rows)))∧Ext w w':=by
 obtain ⟨W0,HWW0,hXW0,hsW0,c0,f0⟩:=bx1 w 22 (.slice A n c)
 have HSq:=zH (square_any A n c rows w.heap.size W0 hn hn1 hn8 c0 (hr.ext hXW0) hf hsq)
 have HX:=zH hXW0
 have HOne:=zH (fun W=>zBi 1 W om om)
 have hmf:∀ (fn:Fn) (first cap:Array Value) (w:World),(Instr.makeFunc fn first cap).run Tryz.prog w = .ok (.func fn first cap) w:=fun _ _ _ _=>rfl
 clear hr hf hsq hn hXW0
 go_enter Tryz.func95,Tryz.ntmps95
 go_wp2_with fail
 rw [HWW0.out]
 refine HSq.out.mono ?_
 rintro e w1 ⟨g,cap,h,rfl,hnc,hM,hx⟩
 have HX1:=zH (HX.out.trans hx)
 have HM:=zH hM
 clear hx hM HWW0 HSq HX c0 f0
 go_wp2_with fail
 refine (HOne.out _).mono ?_
 rintro e w2 ⟨A1,k1,rfl,hi,hx⟩
 have HX2:=zH (HX1.out.trans hx)
 have HM2:=zH (HM.out.ext hx)
 have HL2:=zH hi
 clear hx hi HX1 HM HOne
 go_wp2
 have hlow1:w.heap.size+1≤W0.heap.size:=hsW0
 obtain ⟨bl,hbl⟩:∃ bl,w2.heap.size=bl:=⟨_,rfl⟩
 obtain ⟨W3,hW3⟩:∃ W3,w2.alloc (.cells #[.bool false,.slice A1 k1 k1] 49)=W3:=⟨_,rfl⟩
 have HP:Hid (PosInv w W3 W0.heap.size n 0 g bl h 1 (entry rows) (posB n (entry rows))):=by
  have hX3:Ext w2 W3:=by rw [← hW3];exact (Ext.refl w2).alloc _
  have hh:=zA7 w2 (.cells #[.bool false,.slice A1 k1 k1] 49)
  rw [hW3,hbl] at hh
  refine ⟨HM2.out.ext hX3,⟨fun j hj=>?_,fun o=>?_,⟨_,_,hh⟩⟩,fun i hi=>?_,?_,HX2.out.trans hX3,rfl⟩
  ·obtain rfl:j=0:=by omega
   exact ⟨false,A1,k1,by rw [cell_of_row _ _ _ _ _ _ hh];rfl,by rw [cell_of_row _ _ _ _ _ _ hh];rfl,HL2.out.ext hX3⟩
  ·simp only [World.frozen?,hh];rfl
  ·have:=(HM2.out.row i hi).lt;omega
  ·have:=HX2.out.size;omega
 rw [hW3,hbl]
 clear hW3 HL2 HM2 HX2 hbl
 go_loopg [22] n (fun kk rv wr=>∃ (r:Nat) (last:Int) (m:Nat→Nat→Int),kk+r=n∧rv = .int .i64 r∧Hid (PosInv w wr W0.heap.size n r g bl h last m (posB n (entry rows))))
 case atStart=>exact ⟨0,1,_,by omega,rfl,HP⟩
 clear HP
 obtain ⟨r,last,m,hkr,rfl,HI⟩:=hrel
 by_cases hrn:r < n
 ·obtain ⟨nrr,Arr,krr,crr1,crr2,irr⟩:=(HI.out.mat.row r hrn).cells r hrn
  have cR:=HI.out.mat.rows r hrn
  have HSg:=zH (zBa nrr Arr krr (m r r) wr irr)
  obtain ⟨sg,hsg⟩:∃ sg,signZ (m r r)=sg:=⟨_,rfl⟩
  rw [hsg] at HSg
  have hsg2:(sg≤0↔m r r≤0):=by rw [← hsg];unfold signZ;split <;> (try split) <;> omega
  have hpos:=HI.out.pos
  rw [show n - r=(n - (r+1))+1 by omega,barPos] at hpos
  by_cases hle:m r r≤0
  ·have hs0:sg≤0:=hsg2.2 hle
   rw [if_pos hle] at hpos
   have HPs:=zH hpos
   have HXr:=zH HI.out.ext
   clear hsg hsg2 hle hpos irr
   go_wp2_with fail
   refine HSg.out.mono ?_
   rintro e w3 ⟨rfl,hx⟩
   go_wp2
   go_ret
   rw [← HPs.out]
   exact ⟨rfl,HXr.out.trans hx⟩
  ·have hs0:1≤sg:=by omega
   rw [if_neg hle] at hpos
   have HPs:=zH hpos
   have HLe:=zH hle
   clear hsg hsg2 hle hpos irr
   go_wp2_with fail
   refine HSg.out.mono ?_
   rintro e w3 ⟨rfl,hx⟩
   have HM3:=zH (HI.out.mat.ext hx)
   have HB3:=zH (HI.out.box.ext hx)
   have HX3:=zH (HI.out.ext.trans hx)
   have HNe:=zH HI.out.ne
   have HLw:=zH HI.out.low
   clear hx HSg HI crr1 crr2 cR
   go_wp2
   go_loopg [7] (n - (r+1)) (fun kk iv wi=>∃ i:Nat,kk+i=n∧r < i∧iv = .int .i64 i∧Hid (MatZ wi W0.heap.size g n h (rowsTo n r i last m))∧Hid (MRow wi bl 1 (fun _=>last))∧Hid (Ext w wi))
   case atStart=>exact ⟨r+1,by omega,by omega,by go_num,by rw [rowsTo_start];exact HM3,HB3,HX3⟩
   obtain ⟨i,hki,hri,rfl,HMi,HBi,HXi⟩:=hrel
   by_cases hin:i < n
   ·go_wp2
    go_loopg [8] (n - (r+1)) (fun kk kv wk=>∃ k:Nat,kk+k=n∧r < k∧kv = .int .i64 k∧Hid (MatZ wk W0.heap.size g n h (colsTo n r i k last m))∧Hid (MRow wk bl 1 (fun _=>last))∧Hid (Ext w wk))
    case atStart=>exact ⟨r+1,by omega,by omega,by go_num,by rw [colsTo_start];exact HMi,HBi,HXi⟩
    obtain ⟨k,hkk,hrk,rfl,HMk,HBk,HXk⟩:=hrel
    by_cases hkn:k < n
    ·have hreads:=colsTo_reads n r i k last m hri hrk
     obtain ⟨nrr,Arr,krr,crr1,crr2,irr⟩:=(HMk.out.row r hrn).cells r hrn
     obtain ⟨nik,Aik,kik,cik1,cik2,iik⟩:=(HMk.out.row i hin).cells k hkn
     obtain ⟨nir,Air,kir,cir1,cir2,iir⟩:=(HMk.out.row i hin).cells r hrn
     obtain ⟨nrk,Ark,krk,crk1,crk2,irk⟩:=(HMk.out.row r hrn).cells k hkn
     rw [hreads.1] at irr
     rw [hreads.2.1] at iik
     rw [hreads.2.2.1] at iir
     rw [hreads.2.2.2] at irk
     have cR:=HMk.out.rows r hrn
     have cI:=HMk.out.rows i hin
     have HRR:=zH irr
     have HIK:=zH iik
     have HIR:=zH iir
     have HRK:=zH irk
     clear hreads irr iik iir irk
     have HMul1:=zH (fun W (hx:Ext wr W)=>zCW nrr nik Arr Aik krr kik (m r r) (m i k) W (HRR.out.ext hx) (HIK.out.ext hx))
     go_upto_region 15 with (fail)
     go_cut [9] (fun s wx=>∃ bx,s = .pointer (some ⟨bx,0,none⟩)∧wr.heap.size≤bx∧Hid (MRow wx bx 1 (fun _=>fitZ (m r r*m i k)))∧Hid (Ext wr wx))
     case first =>
      have HKeep:=zH (fun (w':World) (hx:Ext wr w')=>(show w'.cell? ⟨g,r,none⟩=some (.slice (some ⟨h r,0,none⟩) n n)∧w'.cell? ⟨g,i,none⟩=some (.slice (some ⟨h i,0,none⟩) n n)∧w'.cell? ⟨h r,r*2,none⟩=some (.bool nrr)∧w'.cell? ⟨h r,r*2+1,none⟩=some (.slice Arr krr krr)∧w'.cell? ⟨h i,k*2,none⟩=some (.bool nik)∧w'.cell? ⟨h i,k*2+1,none⟩=some (.slice Aik kik kik) from ⟨hx.cell cR,hx.cell cI,hx.cell crr1,hx.cell crr2,hx.cell cik1,hx.cell cik2⟩))
      go_region_held3 (fun w'=>w'.cell? ⟨g,r,none⟩=some (.slice (some ⟨h r,0,none⟩) n n)∧w'.cell? ⟨g,i,none⟩=some (.slice (some ⟨h i,0,none⟩) n n)∧w'.cell? ⟨h r,r*2,none⟩=some (.bool nrr)∧w'.cell? ⟨h r,r*2+1,none⟩=some (.slice Arr krr krr)∧w'.cell? ⟨h i,k*2,none⟩=some (.bool nik)∧w'.cell? ⟨h i,k*2+1,none⟩=some (.slice Aik kik kik)) (exact HKeep.out _ Ext.uc)
       (first
        | (go_at_call 66;refine (HMul1.out _ Ext.uc).mono ?_;rintro e w4 ⟨nx,Ax,kx,rfl,hix,hx⟩;have hxA:Ext wr w4:=Ext.trans Ext.uc hx;have hsz:=hxA.size;have HIx:=zH hix;clear hix;try (have dd:=newbox hx;obtain ⟨d1,d2,d3,d4,d5⟩:=dd)))
      all_goals
       go_wp2
       go_meet
       first
       | exact ⟨w4.heap.size,rfl,hsz,MRow.new1 HIx.out,hxA.alloc _⟩
       | exact ⟨wr.heap.size,rfl,Nat.le_refl _,MRow.put1 HIx.out d1 d2 d5,(hxA.setCell (p:=⟨_,0,none⟩) (Nat.le_refl _) _).setCell (p:=⟨_,1,none⟩) (Nat.le_refl _) _⟩
     obtain ⟨b9,rfl,hb9,HM9,HX9⟩:=hcut
     obtain ⟨wa,hwa⟩:∃ wa,wc=wa:=⟨_,rfl⟩
     rw [hwa] at HM9 HX9 ⊢
     clear hwa wc HMul1 crr1 crr2 HRR
     replace cR:=HX9.out.cell cR
     replace cI:=HX9.out.cell cI
     replace cir1:=HX9.out.cell cir1
     replace cir2:=HX9.out.cell cir2
     replace crk1:=HX9.out.cell crk1
     replace crk2:=HX9.out.cell crk2
     have HMul2:=zH (fun W (hx:Ext wa W)=>zCW nir nrk Air Ark kir krk (m i r) (m r k) W ((HIR.out.ext HX9.out).ext hx) ((HRK.out.ext HX9.out).ext hx))
     go_upto_region 16 with (fail)
     go_cut [11] (fun s wx=>∃ bx,s = .pointer (some ⟨bx,0,none⟩)∧wa.heap.size≤bx∧Hid (MRow wx bx 1 (fun _=>fitZ (m i r*m r k)))∧Hid (Ext wa wx))
     case first =>
      have HKeep:=zH (fun (w':World) (hx:Ext wa w')=>(show w'.cell? ⟨g,r,none⟩=some (.slice (some ⟨h r,0,none⟩) n n)∧w'.cell? ⟨g,i,none⟩=some (.slice (some ⟨h i,0,none⟩) n n)∧w'.cell? ⟨h i,r*2,none⟩=some (.bool nir)∧w'.cell? ⟨h i,r*2+1,none⟩=some (.slice Air kir kir)∧w'.cell? ⟨h r,k*2,none⟩=some (.bool nrk)∧w'.cell? ⟨h r,k*2+1,none⟩=some (.slice Ark krk krk) from ⟨hx.cell cR,hx.cell cI,hx.cell cir1,hx.cell cir2,hx.cell crk1,hx.cell crk2⟩))
      go_region_held3 (fun w'=>w'.cell? ⟨g,r,none⟩=some (.slice (some ⟨h r,0,none⟩) n n)∧w'.cell? ⟨g,i,none⟩=some (.slice (some ⟨h i,0,none⟩) n n)∧w'.cell? ⟨h i,r*2,none⟩=some (.bool nir)∧w'.cell? ⟨h i,r*2+1,none⟩=some (.slice Air kir kir)∧w'.cell? ⟨h r,k*2,none⟩=some (.bool nrk)∧w'.cell? ⟨h r,k*2+1,none⟩=some (.slice Ark krk krk)) (exact HKeep.out _ Ext.uc)
       (first
        | (go_at_call 66;refine (HMul2.out _ Ext.uc).mono ?_;rintro e w4 ⟨nx,Ax,kx,rfl,hix,hx⟩;have hxA:Ext wa w4:=Ext.trans Ext.uc hx;have hsz:=hxA.size;have HIx:=zH hix;clear hix;try (have dd:=newbox hx;obtain ⟨d1,d2,d3,d4,d5⟩:=dd)))
      all_goals
       go_wp2
       go_meet
       first
       | exact ⟨w4.heap.size,rfl,hsz,MRow.new1 HIx.out,hxA.alloc _⟩
       | exact ⟨wa.heap.size,rfl,Nat.le_refl _,MRow.put1 HIx.out d1 d2 d5,(hxA.setCell (p:=⟨_,0,none⟩) (Nat.le_refl _) _).setCell (p:=⟨_,1,none⟩) (Nat.le_refl _) _⟩
     obtain ⟨b11,rfl,hb11,HM11,HX11⟩:=hcut
     obtain ⟨wb,hwb⟩:∃ wb,wc=wb:=⟨_,rfl⟩
     rw [hwb] at HM11 HX11 ⊢
     clear hwb wc HMul2 cir1 cir2 crk1 crk2 HIR HRK
     obtain ⟨n9,A9,k9,c91,c92,i9⟩:=(HM9.out.ext HX11.out).one
     obtain ⟨n11,A11,k11,c111,c112,i11⟩:=HM11.out.one
     have HSub:=zH (zSub_any n9 n11 A9 A11 k9 k11 _ _ wb i9 i11)
     have HXb:=zH (HX9.out.trans HX11.out)
     clear i9 i11 cR cI cik1 cik2
     go_wp2_with fail
     refine HSub.out.mono ?_
     rintro e w5 ⟨n13,A13,k13,rfl,hi13,hx5⟩
     have HXc:=zH (HXb.out.trans hx5)
     have HI13:=zH hi13
     clear hi13 hx5 HSub HXb HX11 c91 c92 c111 c112
     go_upto_region 18 with (fail)
     obtain ⟨b13,hb13⟩:∃ b13,w5.heap.size=b13:=⟨_,rfl⟩
     have hne2:h i≠b13:=by have:=(HMk.out.row i hin).lt;have:=HXc.out.size;omega
     obtain ⟨wd,hwd⟩:∃ wd,w5.alloc (.cells #[.bool n13,.slice A13 k13 k13] 49)=wd:=⟨_,rfl⟩
     have HM13:=zH (MRow.new1 HI13.out)
     have HXd:=zH (HXc.out.alloc (.cells #[.bool n13,.slice A13 k13 k13] 49))
     rw [hwd,hb13] at HM13
     rw [hwd] at HXd
     rw [hwd,hb13]
     clear hwd HI13 HXc hb13
     obtain ⟨n13',A13',k13',c131,c132,i13⟩:=HM13.out.one
     obtain ⟨n5,A5,k5,c51,c52,i5⟩:=(HBk.out.ext HXd.out).one
     have HMd:=zH (HMk.out.ext HXd.out)
     have HBd:=zH (HBk.out.ext HXd.out)
     obtain ⟨nik',Aik',kik',cik1,cik2,_⟩:=(HMd.out.row i hin).cells k hkn
     have fik:=(HMd.out.row i hin).free
     have fik1:=fik (k*2)
     have fik2:=fik (k*2+1)
     have cI:=HMd.out.rows i hin
     have HEx:=zH (fun W (hx:Ext wd W)=>zCg n13' n5 A13' A5 k13' k5 _ _ W (i13.ext hx) (i5.ext hx))
     clear fik i13 i5
     have hne0:h i≠g:=HMd.out.ne hin
     have hne1:h i≠bl:=HNe.out i hin
     have HKeep2:=zH (fun (w':World) (hx:Ext wd w') (u v:Value)=>(show ((w'.setCell ⟨h i,k*2,none⟩ u).setCell ⟨h i,k*2+1,none⟩ v).cell? ⟨g,i,none⟩=some (.slice (some ⟨h i,0,none⟩) n n)∧((w'.setCell ⟨h i,k*2,none⟩ u).setCell ⟨h i,k*2+1,none⟩ v).cell? ⟨b13,0,none⟩=some (.bool n13')∧((w'.setCell ⟨h i,k*2,none⟩ u).setCell ⟨h i,k*2+1,none⟩ v).cell? ⟨b13,1,none⟩=some (.slice A13' k13' k13')∧((w'.setCell ⟨h i,k*2,none⟩ u).setCell ⟨h i,k*2+1,none⟩ v).cell? ⟨bl,0,none⟩=some (.bool n5)∧((w'.setCell ⟨h i,k*2,none⟩ u).setCell ⟨h i,k*2+1,none⟩ v).cell? ⟨bl,1,none⟩=some (.slice A5 k5 k5) from ⟨by rw [World.cell?_setCell_other _ _ _ _ (by intro e;injection e with e1 e2;exact hne0 e1),World.cell?_setCell_other _ _ _ _ (by intro e;injection e with e1 e2;exact hne0 e1)];exact hx.cell cI,by rw [World.cell?_setCell_other _ _ _ _ (by intro e;injection e with e1 e2;exact hne2 e1),World.cell?_setCell_other _ _ _ _ (by intro e;injection e with e1 e2;exact hne2 e1)];exact hx.cell c131,by rw [World.cell?_setCell_other _ _ _ _ (by intro e;injection e with e1 e2;exact hne2 e1),World.cell?_setCell_other _ _ _ _ (by intro e;injection e with e1 e2;exact hne2 e1)];exact hx.cell c132,by rw [World.cell?_setCell_other _ _ _ _ (by intro e;injection e with e1 e2;exact hne1 e1),World.cell?_setCell_other _ _ _ _ (by intro e;injection e with e1 e2;exact hne1 e1)];exact hx.cell c51,by rw [World.cell?_setCell_other _ _ _ _ (by intro e;injection e with e1 e2;exact hne1 e1),World.cell?_setCell_other _ _ _ _ (by intro e;injection e with e1 e2;exact hne1 e1)];exact hx.cell c52⟩))
     have HKeepd:=zH (fun (w':World) (hx:Ext wd w')=>(show w'.cell? ⟨g,i,none⟩=some (.slice (some ⟨h i,0,none⟩) n n)∧w'.cell? ⟨b13,0,none⟩=some (.bool n13')∧w'.cell? ⟨b13,1,none⟩=some (.slice A13' k13' k13')∧w'.cell? ⟨bl,0,none⟩=some (.bool n5)∧w'.cell? ⟨bl,1,none⟩=some (.slice A5 k5 k5) from ⟨hx.cell cI,hx.cell c131,hx.cell c132,hx.cell c51,hx.cell c52⟩))
     go_region_held3 (fun w'=>w'.cell? ⟨g,i,none⟩=some (.slice (some ⟨h i,0,none⟩) n n)∧w'.cell? ⟨b13,0,none⟩=some (.bool n13')∧w'.cell? ⟨b13,1,none⟩=some (.slice A13' k13' k13')∧w'.cell? ⟨bl,0,none⟩=some (.bool n5)∧w'.cell? ⟨bl,1,none⟩=some (.slice A5 k5 k5)) (first|exact HKeep2.out _ hxA _ _|exact HKeepd.out _ hxA|exact HKeepd.out _ ((Ext.refl wd).drew))
      (first
       | (go_at_call 130;refine (HEx.out _ Ext.uc).mono ?_;rintro e w4 ⟨nx,Ax,kx,rfl,hix,hx⟩;have hxA:Ext wd w4:=Ext.trans Ext.uc hx;have hsz:=hxA.size;have HIx:=zH hix;clear hix;have q1:=hxA.cell cik1;have q2:=hxA.cell cik2;have q3:=hxA.free fik1 (zAA cik1);have q4:=hxA.free fik2 (zAA cik2)))
     all_goals
      have HMe:Hid (MatZ ((w4.setCell ⟨h i,k*2,none⟩ (.bool nx)).setCell ⟨h i,k*2+1,none⟩ (.slice Ax kx kx)) W0.heap.size g n h (colsTo n r i (k+1) last m)) :=
       ((HMd.out.ext hxA).set_ hin hkn HIx.out).congr fun a b _ _=>colsTo_step n r i k last m hrk a b
      have HBe:Hid (MRow ((w4.setCell ⟨h i,k*2,none⟩ (.bool nx)).setCell ⟨h i,k*2+1,none⟩ (.slice Ax kx kx)) bl 1 (fun _=>last)):=(HBd.out.ext hxA).far hne1 q1 q2
      have HXe:Hid (Ext w ((w4.setCell ⟨h i,k*2,none⟩ (.bool nx)).setCell ⟨h i,k*2+1,none⟩ (.slice Ax kx kx))):=zAO ((HXk.out.trans HXd.out).trans hxA) (by have:=HMd.out.low i hin;omega)
      clear HIx hx hxA hsz q1 q2 q3 q4 HMd HBd HXd
      go_wp2
      go_roundg (gk - 1)
      case measure=>omega
      case rel=>exact ⟨k+1,by omega,by omega,by go_num,HMe,HBe,HXe⟩
    ·obtain rfl:n=k:=by omega
     have HMe:Hid (MatZ wr W0.heap.size g n h (rowsTo n r (i+1) last m)):=HMk.out.congr fun a b _ hb=>colsTo_end n r i last m hri a b hb
     clear HMk
     go_wp2
     go_roundg (n - (i+1))
     case measure=>omega
     case rel=>exact ⟨i+1,by omega,by omega,by go_num,HMe,HBk,HXk⟩
   ·obtain rfl:n=i:=by omega
    have HMe:Hid (MatZ wr W0.heap.size g n h (barStep n r last m)):=by have:=HMi.out;rwa [rowsTo_end] at this
    have hst:barStep n r last m r r=m r r:=by unfold barStep;rw [if_neg om]
    obtain ⟨nrr,Arr,krr,crr1,crr2,irr⟩:=(HMe.out.row r hrn).cells r hrn
    rw [hst] at irr
    have cR:=HMe.out.rows r hrn
    obtain ⟨n5,A5,k5,c51,c52,i5⟩:=HBi.out.one
    have f51:=HBi.out.free 0
    have f52:=HBi.out.free 1
    have HIrr:=zH irr
    clear HMi hst irr i5
    go_wp2
    have HP:Hid (PosInv w ((wr.setCell ⟨bl,0,none⟩ (.bool nrr)).setCell ⟨bl,1,none⟩ (.slice Arr krr krr)) W0.heap.size n (r+1) g bl h (m r r) (barStep n r last m) (posB n (entry rows))):=by
     refine ⟨⟨fun a ha=>?_,fun a ha=>?_,HMe.out.inj,HMe.out.low,HMe.out.glow,(HMe.out.typ.set_ _ _).set_ _ _⟩,MRow.put1 HIrr.out c51 c52 ⟨HBi.out.typ,HBi.out.free⟩,HNe.out,HLw.out,zAO HXi.out HLw.out,HPs.out⟩
     ·have hgb:g≠bl:=HMe.out.typ.ne HBi.out.typ (by decide)
      rw [World.cell?_setCell_other _ _ _ _ (by intro e;injection e with e1 e2;exact hgb e1.symm),World.cell?_setCell_other _ _ _ _ (by intro e;injection e with e1 e2;exact hgb e1.symm)]
      exact HMe.out.rows a ha
     ·exact (HMe.out.row a ha).far (fun e=>HNe.out a ha e.symm) c51 c52
    clear crr1 crr2 cR c51 c52 f51 f52 HIrr
    go_wp2
    go_roundg (n - (r+1))
    case measure=>omega
    case rel=>exact ⟨r+1,_,_,by omega,by go_num,HP⟩
 ·obtain rfl:n=r:=by omega
  have hpos:=HI.out.pos
  rw [Nat.sub_self] at hpos
  have HPs:Hid (true=posB n (entry rows)):=hpos
  have HX:=zH HI.out.ext
  clear hpos HI
  go_wp2
  go_ret
  rw [← HPs.out];exact ⟨rfl,HX.out⟩
def chk (rows:List (List Int)):Int :=
 if rows.length < 1∨8 < rows.length then 5
 else if ∃ l∈rows,l.length≠rows.length then 5
 else if eachB smallP rows=false then 3
 else if eachB (mirrorB rows) rows=false then 6
 else if posB rows.length (entry rows)=false then 6
 else 0
theorem check_size (A:Option Addr) (n c:Nat) (w:World) (hn:n < 1∨8 < n) (hm:n≤140737488351232) :
  Calls Tryz.prog 49 #[.slice A n c] w fun e w'=>e = .returned (.int .i64 5)∧Ext w w':=by
 rcases Nat.eq_zero_or_pos n with h0|h0
 ·subst h0
  go_enter Tryz.func49,Tryz.ntmps49
  go_wp2
  go_ret
  exact ⟨rfl,(Ext.refl w).alloc _⟩
 ·have h8:8 < n:=by omega
  have d1:decide ((n:Int) < 1)=false:=by simp;omega
  have d2:decide ((8:Int) < n)=true:=by simp;omega
  clear hn
  go_enter Tryz.func49,Tryz.ntmps49
  go_wp2
  go_ret
  exact ⟨rfl,(Ext.refl w).alloc _⟩
set_option maxHeartbeats 1000000 in
theorem check_rest (A:Option Addr) (n c:Nat) (rows:List (List Int)) (w:World) (hn:n=rows.length) (hn1:1≤n) (hn8:n≤8) (hr:IsRows w A rows) (hf:Fit64 rows) :
  Calls Tryz.prog 49 #[.slice A n c] w fun e w'=>e = .returned (.int .i64 (chk rows))∧Ext w w':=by
 have d1:decide ((n:Int) < 1)=false:=by simp;omega
 have d2:decide ((8:Int) < n)=false:=by simp;omega
 obtain ⟨W0,HWW0,hXW0,hsW0,c0,f0⟩:=bx1 w 22 (.slice A n c)
 have HN:=zH hn
 have HR:=zH (hr.ext hXW0)
 have HF:=zH hf
 have HX:=zH hXW0
 have hmf:∀ (fn:Fn) (first cap:Array Value) (w:World),(Instr.makeFunc fn first cap).run Tryz.prog w = .ok (.func fn first cap) w:=fun _ _ _ _=>rfl
 clear hn hr hf hXW0
 go_enter Tryz.func49,Tryz.ntmps49
 go_wp2
 rw [HWW0.out]
 go_loopg [15] n (fun kk iv wr=>∃ i:Nat,kk+i=n∧iv = .int .i64 i∧W0=wr∧Hid (∀ i' l,i' < i→rows[i']? = some l→l.length=n))
 case atStart=>exact ⟨0,by omega,rfl,rfl,fun i' l h=>by omega⟩
 obtain ⟨i,hki,rfl,rfl,HA⟩:=hrel
 by_cases hin:i < n
 ·obtain ⟨l,hl⟩:∃ l,rows[i]? = some l:=⟨_,List.getElem?_eq_getElem (by have:=HN.out;omega)⟩
  obtain ⟨b,off,R,c',rfl,hb,h1,h2,h3⟩:=HR.out.at_ hl
  have HL:=zH hl
  clear hl h3
  by_cases hne:l.length=n
  ·have HE:=zH hne
   have hb1:((l.length:Int) != n)=false:=by rw [bne_eq_false_iff_eq];omega
   obtain ⟨len,hlen⟩:∃ len,l.length=len:=⟨_,rfl⟩
   rw [hlen] at h1 h2 hb1
   clear hne hlen
   go_wp2
   go_roundg (gk - 1)
   case measure=>omega
   case rel=>exact ⟨i+1,by omega,by go_num,rfl,fun i' l' hi' hl'=>by
    rcases Nat.lt_or_ge i' i with h|h
    ·exact HA.out i' l' h hl'
    ·obtain rfl:i'=i:=by omega
     have e:l'=l:=by have:=HL.out;rw [hl'] at this;exact Option.some.inj this
     rw [e];exact HE.out⟩
  ·have HC:Hid (chk rows=5):=by
    unfold chk Hid
    rw [if_neg (by have:=HN.out;omega),if_pos]
    exact ⟨l,by obtain ⟨q,rfl⟩:=List.getElem?_eq_some_iff.1 HL.out;exact List.getElem_mem q,by rw [← HN.out];exact hne⟩
   have hb1:((l.length:Int) != n)=true:=by rw [bne_iff_ne];omega
   obtain ⟨len,hlen⟩:∃ len,l.length=len:=⟨_,rfl⟩
   rw [hlen] at h1 h2 hb1
   clear hne hlen
   go_wp2
   go_ret
   rw [HC.out];exact ⟨rfl,HX.out⟩
 ·obtain rfl:n=i:=by omega
  have hsq:∀ l∈rows,l.length=n:=by
   intro l hl
   obtain ⟨q,hq,rfl⟩:=List.getElem_of_mem hl
   exact HA.out q _ (by have:=HN.out;omega) (List.getElem?_eq_getElem hq)
  have HSq:=zH hsq
  have H1:=zH (each1_any A n c rows W0 HN.out HR.out HF.out)
  have HC0:Hid (chk rows=if eachB smallP rows=false then 3 else if eachB (mirrorB rows) rows=false then 6 else if posB n (entry rows)=false then 6 else 0):=by
   unfold chk Hid
   rw [if_neg (by have:=HN.out;omega),if_neg (by rintro ⟨l,hl,h⟩;exact h (by rw [← HN.out];exact hsq l hl)),← HN.out]
  clear hsq HA
  cases h1:eachB smallP rows
  ·rw [h1] at H1 HC0
   have HC:=HC0.out
   rw [if_pos rfl] at HC
   have HCC:=zH HC
   clear h1 HC HC0
   go_wp2_with fail
   refine H1.out.mono ?_
   rintro e w' ⟨rfl,rfl⟩
   go_wp2
   go_ret
   rw [HCC.out];exact ⟨rfl,HX.out⟩
  ·rw [h1] at H1 HC0
   have HC:=HC0.out
   rw [if_neg (by simp)] at HC
   have HCC:=zH HC
   have H2:=zH (each2_any A n c rows w.heap.size W0 HN.out HR.out HF.out c0 om HSq.out)
   clear h1 HC HC0
   go_wp2_with fail
   refine H1.out.mono ?_
   rintro e w' ⟨rfl,rfl⟩
   clear H1
   cases h2:eachB (mirrorB rows) rows
   ·rw [h2] at H2 HCC
    have HC:=HCC.out
    rw [if_pos rfl] at HC
    have HCD:=zH HC
    clear h2 HC HCC
    go_wp2_with fail
    refine H2.out.mono ?_
    rintro e w' ⟨rfl,rfl⟩
    go_wp2
    go_ret
    rw [HCD.out];exact ⟨rfl,HX.out⟩
   ·rw [h2] at H2 HCC
    have HC:=HCC.out
    rw [if_neg (by simp)] at HC
    have HCD:=zH HC
    have H3:=zH (positive_any A n c rows W0 HN.out hn1 om HR.out HF.out HSq.out)
    clear h2 HC HCC
    go_wp2_with fail
    refine H2.out.mono ?_
    rintro e w' ⟨rfl,rfl⟩
    clear H2
    cases h3:posB n (entry rows)
    ·rw [h3] at H3 HCD
     have HC:=HCD.out
     rw [if_pos rfl] at HC
     have HCE:=zH HC
     clear h3 HC HCD
     go_wp2_with fail
     refine H3.out.mono ?_
     rintro e w3 ⟨rfl,hx⟩
     have hX3:=zH (HX.out.trans hx)
     clear hx
     go_wp2
     go_ret
     rw [HCE.out];exact ⟨rfl,hX3.out⟩
    ·rw [h3] at H3 HCD
     have HC:=HCD.out
     rw [if_neg (by simp)] at HC
     have HCE:=zH HC
     clear h3 HC HCD
     go_wp2_with fail
     refine H3.out.mono ?_
     rintro e w3 ⟨rfl,hx⟩
     have hX3:=zH (HX.out.trans hx)
     clear hx
     go_wp2
     go_ret
     rw [HCE.out];exact ⟨rfl,hX3.out⟩
theorem zC1 (A:Option Addr) (n c:Nat) (rows:List (List Int)) (w:World) (hn:n=rows.length) (hr:IsRows w A rows) (hf:Fit64 rows) :
  Calls Tryz.prog 49 #[.slice A n c] w fun e w'=>e = .returned (.int .i64 (chk rows))∧Ext w w':=by
 by_cases h:n < 1∨8 < n
 ·have e:chk rows=5:=by unfold chk;rw [if_pos om]
  rw [e];exact check_size A n c w h (by rw [hn];exact hf.1)
 ·exact check_rest A n c rows w hn om om hr hf
end Go.Proofs.YtdkgilioejdmeaaGreat
namespace Go.Proofs.YtdkgilioejdmeaaGreat
open Go
section
variable {P:Program} {ops:Array Oper} {Q:Exit→Act→World→Prop} {md:Region.Mode} {S:World→Prop} {n:List Nat}
theorem lead_not_ready {i f t:Nat} {listed:Array Bool} (inv:Closed md ops listed) (hl:leads md ops t f i=true) (hu:listed.getD i true=false):t ∉ Region.ready md ops listed:=by
 intro hr
 obtain ⟨_,ot,hot,hall⟩:=mem_ready.1 hr
 have key:∀ (f i:Nat),leads md ops t f i=true→listed.getD i false=true:=by
  intro f
  induction f with
  | zero=>intro i h;cases h
  | succ f ih =>
   intro i h
   obtain ⟨j,_,hj⟩:=List.any_eq_true.1 h
   simp only [Bool.and_eq_true,Bool.or_eq_true,beq_iff_eq] at hj
   obtain ⟨oj,hoj,e,he,hb,hon⟩:=Region.waitsFor_spec hj.1.2
   rcases hj.2 with e2|e2
   ·subst e2
    obtain rfl:oj=ot:=Option.some.inj (hoj.symm.trans hot)
    have:=hall e he hb
    rwa [hon] at this
   ·have:=inv j oj hoj (ih j e2) e he hb
    rwa [hon] at this
 have hu':=getD_both hu
 rw [key f i hl] at hu'
 cases hu'
def owed (n F:List Nat) (S:World→Prop) (i:Nat) (w w':World):Prop:=n.contains i=false→(F.contains i=true→S w)→S w'
def wpAnyU (P:Program) (md:Region.Mode) (ops:Array Oper) (Q:Exit→Act→World→Prop) (S:World→Prop) (n F:List Nat):Nat→Array Bool→Act→World→Prop
 | 0,listed,a,w=>Region.ready md ops listed=[]∧Q .normal a w
 | fuel+1,listed,a,w =>
  (Region.ready md ops listed=[]→Q .normal a w) ∧
  ∀ i∈Region.ready md ops listed,wpOp P ops Q i (fun a' w'=>owed n F S i w w'∧wpAnyU P md ops Q S n F fuel (listed.setIfInBounds i true) a' w') a w
theorem wpAny_of_U {F:List Nat}:∀ (fuel:Nat) (listed:Array Bool) (a:Act) (w:World),wpAnyU P md ops Q S n F fuel listed a w→wpAny P md ops Q fuel listed a w
 | 0,_,_,_,h=>h
 | fuel+1,_,_,_,h=>⟨h.1,fun i hi=>wpOp_mono (fun a' w' h'=>wpAny_of_U fuel _ a' w' h'.2) (h.2 i hi)⟩
theorem wpAnyU_first {F:List Nat} {i f:Nat} {oi:Oper} {v:Value} (hi:ops[i]? = some oi) (hsel:∀ (j:Nat) (o:Oper) cs b,ops[j]? = some o→o.op ≠ .select cs b)
  (hQ:∀ c a w,Q (.panic c) (a.put oi.dst v) w→Q (.panic c) a w) (hl:(n.all fun t=>leads md ops t f i)=true) :
  ∀ (fuel:Nat) (listed:Array Bool) (a:Act) (w:World),Closed md ops listed →
   (∀ j oj,ops[j]? = some oj→j≠i→listed.getD j true=false→(∀ e∈oj.after,Region.binds md e=true→e.on≠i)→oi.apart ops oj=true) →
   i∈Region.ready md ops listed→YieldsIf P ops S oi v a→S w →
   wpAnyU P md ops Q S n F fuel (listed.setIfInBounds i true) (a.put oi.dst v) w→wpAnyU P md ops Q S n F (fuel+1) listed a w:=by
 intro fuel
 induction fuel with
 | zero =>
  intro listed a w _ _ hr hy hS H
  refine ⟨fun h=>(by rw [h] at hr;cases hr),fun j hj=>?_⟩
  by_cases hji:j=i
  ·subst hji;exact hy.wpOp hi hS ⟨fun _ _=>hS,H⟩
  ·have:=ready_mono hj hji
   rw [H.1] at this
   cases this
 | succ fuel ih =>
  intro listed a w inv hfree hr hy hS H
  refine ⟨fun h=>(by rw [h] at hr;cases hr),fun j hj=>?_⟩
  by_cases hji:j=i
  ·subst hji;exact hy.wpOp hi hS ⟨fun _ _=>hS,H⟩
  ·have h1:=H.2 j (ready_mono hj hji)
   obtain ⟨hjun,oj,hoj,hall⟩:=mem_ready.1 hj
   have hjn:n.contains j=false:=by
    cases hcn:n.contains j with
    | false=>rfl
    | true=>exact absurd hj (lead_not_ready inv (List.all_eq_true.1 hl j (by simpa using hcn)) (mem_ready.1 hr).1)
   have hnot:∀ e∈oj.after,Region.binds md e=true→e.on≠i:=fun e he hb heq=>by
    have h1:=hall e he hb
    have h0:=(mem_ready.1 hr).1
    rw [heq,getD_both h0] at h1
    cases h1
   have h2:=wpOp_putIf hoj (hfree j oj hoj hji hjun hnot) (fun cs b=>hsel i oi cs b hi) (fun cs b=>hsel j oj cs b hoj) hQ hy h1
   have hfree':∀ k ok,ops[k]? = some ok→k≠i→(listed.setIfInBounds j true).getD k true=false →
     (∀ e∈ok.after,Region.binds md e=true→e.on≠i)→oi.apart ops ok=true:=fun k ok hk hki hun hno=>by
    refine hfree k ok hk hki ?_ hno
    by_cases hjk:j=k
    ·subst hjk;exact hjun
    ·rw [getD_set_ne true hjk] at hun;exact hun
   refine wpOp_mono (fun a' w' h3=>⟨h3.2.1,ih (listed.setIfInBounds j true) a' w' (inv.set hj) hfree' (ready_mono hr (Ne.symm hji)) h3.1 (h3.2.1 hjn (fun _=>hS)) ?_⟩) h2
   rw [Array.setIfInBounds_comm _ _ hji]
   exact h3.2.2
theorem wpAnyU_free {F:List Nat} {i:Nat} {oi:Oper} {v:Value} (hi:ops[i]? = some oi) (hsel:∀ (j:Nat) (o:Oper) cs b,ops[j]? = some o→o.op ≠ .select cs b) (hin:F.contains i=true)
  (hQ:∀ c a w,Q (.panic c) (a.put oi.dst v) w→Q (.panic c) a w) :
  ∀ (fuel:Nat) (listed:Array Bool) (a:Act) (w:World),
   (∀ j oj,ops[j]? = some oj→j≠i→listed.getD j true=false→(∀ e∈oj.after,Region.binds md e=true→e.on≠i)→oi.apart ops oj=true) →
   i∈Region.ready md ops listed→YieldsIf P ops (fun _=>True) oi v a →
   wpAnyU P md ops Q S n F fuel (listed.setIfInBounds i true) (a.put oi.dst v) w→wpAnyU P md ops Q S n F (fuel+1) listed a w:=by
 intro fuel
 induction fuel with
 | zero =>
  intro listed a w _ hr hy H
  refine ⟨fun h=>(by rw [h] at hr;cases hr),fun j hj=>?_⟩
  by_cases hji:j=i
  ·subst hji;exact hy.wpOp hi trivial ⟨fun _ h=>h hin,H⟩
  ·have:=ready_mono hj hji
   rw [H.1] at this
   cases this
 | succ fuel ih =>
  intro listed a w hfree hr hy H
  refine ⟨fun h=>(by rw [h] at hr;cases hr),fun j hj=>?_⟩
  by_cases hji:j=i
  ·subst hji;exact hy.wpOp hi trivial ⟨fun _ h=>h hin,H⟩
  ·have h1:=H.2 j (ready_mono hj hji)
   obtain ⟨hjun,oj,hoj,hall⟩:=mem_ready.1 hj
   have hnot:∀ e∈oj.after,Region.binds md e=true→e.on≠i:=fun e he hb heq=>by
    have h1:=hall e he hb
    have h0:=(mem_ready.1 hr).1
    rw [heq,getD_both h0] at h1
    cases h1
   have h2:=wpOp_putIf hoj (hfree j oj hoj hji hjun hnot) (fun cs b=>hsel i oi cs b hi) (fun cs b=>hsel j oj cs b hoj) hQ hy h1
   have hfree':∀ k ok,ops[k]? = some ok→k≠i→(listed.setIfInBounds j true).getD k true=false →
     (∀ e∈ok.after,Region.binds md e=true→e.on≠i)→oi.apart ops ok=true:=fun k ok hk hki hun hno=>by
    refine hfree k ok hk hki ?_ hno
    by_cases hjk:j=k
    ·subst hjk;exact hjun
    ·rw [getD_set_ne true hjk] at hun;exact hun
   refine wpOp_mono (fun a' w' h3=>⟨h3.2.1,ih (listed.setIfInBounds j true) a' w' hfree' (ready_mono hr (Ne.symm hji)) h3.1 ?_⟩) h2
   rw [Array.setIfInBounds_comm _ _ hji]
   exact h3.2.2
theorem zAF {F:List Nat} {i:Nat} {oi:Oper} {v:Value} {fuel:Nat} {listed:Array Bool} {a:Act} {w:World} (hC:Closed md ops listed) (hi:ops[i]? = some oi)
  (hs:Region.noSelect ops=true) (hf:Region.free md ops listed i=true) (hr:(Region.ready md ops listed).contains i=true) (hin:F.contains i=true)
  (hQ:∀ c a w,Q (.panic c) (a.put oi.dst v) w→Q (.panic c) a w) (hw:Region.wanted oi (yielded ops a.tmps)=true) (hy:∀ w,(execOp a.eval oi).run P w = .ok (.value v) w)
  (h:Closed md ops (listed.setIfInBounds i true)→wpAnyU P md ops Q S n F fuel (listed.setIfInBounds i true) (a.put oi.dst v) w):wpAnyU P md ops Q S n F (fuel+1) listed a w :=
 wpAnyU_free hi (Region.noSelect_spec hs) hin hQ fuel listed a w (Region.free_spec hi hf) (by simpa using hr) (Or.inl ⟨hw,fun w _=>hy w⟩) (h (hC.set (by simpa using hr)))
theorem zAN {F:List Nat} {i f:Nat} {oi:Oper} {v:Value} {fuel:Nat} {listed:Array Bool} {a:Act} {w:World} (hC:Closed md ops listed) (hS:S w) (hi:ops[i]? = some oi)
  (hs:Region.noSelect ops=true) (hf:Region.free md ops listed i=true) (hr:(Region.ready md ops listed).contains i=true) (hl:(n.all fun t=>leads md ops t f i)=true)
  (hQ:∀ c a w,Q (.panic c) (a.put oi.dst v) w→Q (.panic c) a w) (hw:Region.wanted oi (yielded ops a.tmps)=true) (hy:∀ w,S w→(execOp a.eval oi).run P w = .ok (.value v) w)
  (h:Closed md ops (listed.setIfInBounds i true)→wpAnyU P md ops Q S n F fuel (listed.setIfInBounds i true) (a.put oi.dst v) w):wpAnyU P md ops Q S n F (fuel+1) listed a w :=
 wpAnyU_first hi (Region.noSelect_spec hs) hQ hl fuel listed a w hC (Region.free_spec hi hf) (by simpa using hr) (Or.inl ⟨hw,hy⟩) hS (h (hC.set (by simpa using hr)))
theorem tk {P:Program} {ops:Array Oper} {Q:Exit→Act→World→Prop} {md:Region.Mode} {S:World→Prop} {n:List Nat} {F:List Nat} (i f:Nat) {oi:Oper} {v:Value} {fuel:Nat} {listed L':Array Bool} {a a':Act} {w:World} (hS:S w)
  (h:Closed md ops L'→wpAnyU P md ops Q S n F fuel L' a' w) (hi:ops[i]? = some oi:=by (simp only [List.getElem?_toArray,List.getElem?_cons_succ,List.getElem?_cons_zero]);rfl)
  (hs:Region.noSelect ops=true:=by kernel_rfl) (hf:Region.free md ops listed i=true:=by kernel_rfl) (hr:(Region.ready md ops listed).contains i=true:=by kernel_rfl) (hl:(n.all fun t=>leads md ops t f i)=true:=by kernel_rfl)
  (hL:listed.setIfInBounds i true=L':=by (simp only [sA,sB,sC]);rfl) (hw:Region.wanted oi (yielded ops a.tmps)=true:=by rfl) (hy:∀ w,S w→(execOp a.eval oi).run P w = .ok (.value v) w:=by intro w' hSw;(try dsimp only at hSw);go_simp;(try with_reducible rfl))
  (ha:a.put oi.dst v=a':=by (try simp only [Act.put,sA,sB,sC]);rfl) (hQ:∀ c a w,Q (.panic c) (a.put oi.dst v) w→Q (.panic c) a w:=by exact fun _ _ _ h=>h):Closed md ops listed→wpAnyU P md ops Q S n F (fuel+1) listed a w:=fun hC=>by
 subst hL;subst ha
 exact zAN hC hS hi hs hf hr hl hQ hw hy h
theorem zAB {F:List Nat} {i:Nat} {o:Oper} {fuel:Nat} {listed:Array Bool} {a:Act} {w:World} (hC:Closed md ops listed) (ho:ops[i]? = some o) (hr:Region.ready md ops listed=[i])
  (h:∀ K':Act→World→Prop,Shut (∀ a w',owed n F S i w w'→(Closed md ops (listed.setIfInBounds i true)→wpAnyU P md ops Q S n F fuel (listed.setIfInBounds i true) a w')→K' a w')→if Region.wanted o (yielded ops a.tmps)=true then Oper.wp P o a w K' Q else K' (a.put o.dst undef) w) :
  wpAnyU P md ops Q S n F (fuel+1) listed a w:=by
 have hC2:=hC.set (i:=i) (by rw [hr];exact List.mem_singleton.2 rfl)
 refine ⟨fun h0=>(by rw [hr] at h0;cases h0),fun j hj=>?_⟩
 rw [hr] at hj
 obtain rfl:=List.mem_singleton.1 hj
 exact wpOp_step ho (fun K' hK=>h K' (fun a w hS hW=>hK a w ⟨hS,hW hC2⟩))
theorem zBZ {F:List Nat} {i j:Nat} {oi oj:Oper} {fuel:Nat} {listed:Array Bool} {a:Act} {w:World} (hC:Closed md ops listed) (hoi:ops[i]? = some oi) (hoj:ops[j]? = some oj) (hr:Region.ready md ops listed=[i,j])
  (hi:∀ K':Act→World→Prop,Shut (∀ a w',owed n F S i w w'→(Closed md ops (listed.setIfInBounds i true)→wpAnyU P md ops Q S n F fuel (listed.setIfInBounds i true) a w')→K' a w')→if Region.wanted oi (yielded ops a.tmps)=true then Oper.wp P oi a w K' Q else K' (a.put oi.dst undef) w)
  (hj:∀ K':Act→World→Prop,Shut (∀ a w',owed n F S j w w'→(Closed md ops (listed.setIfInBounds j true)→wpAnyU P md ops Q S n F fuel (listed.setIfInBounds j true) a w')→K' a w')→if Region.wanted oj (yielded ops a.tmps)=true then Oper.wp P oj a w K' Q else K' (a.put oj.dst undef) w) :
  wpAnyU P md ops Q S n F (fuel+1) listed a w:=by
 refine ⟨fun h0=>(by rw [hr] at h0;cases h0),fun k hk=>?_⟩
 rw [hr] at hk
 rcases List.mem_cons.1 hk with rfl|hk
 ·have hC2:=hC.set (i:=k) (by rw [hr];exact List.mem_cons_self)
  exact wpOp_step hoi (fun K' hK=>hi K' (fun a w hS hW=>hK a w ⟨hS,hW hC2⟩))
 ·obtain rfl:=List.mem_singleton.1 hk
  have hC2:=hC.set (i:=k) (by rw [hr];exact List.mem_cons_of_mem _ (List.mem_singleton.2 rfl))
  exact wpOp_step hoj (fun K' hK=>hj K' (fun a w hS hW=>hK a w ⟨hS,hW hC2⟩))
theorem zAD {F:List Nat} {listed:Array Bool} {a:Act} {w:World} (hr:Region.ready md ops listed=[]) (h:Q .normal a w):∀ fuel,wpAnyU P md ops Q S n F fuel listed a w
 | 0=>⟨hr,h⟩
 | _+1=>⟨fun _=>h,by rw [hr];simp⟩
theorem wp_region_U (S:World→Prop) (n F:List Nat) (N:Nat) (L:Array Bool) {id:Nat} {a:Act} {w:World} (hm:P.follows .mixedOrders=true) (hN:ops.size=N) (hL:Array.replicate N false=L) (hS:S w.drew)
  (h:S w.drew→Closed .any ops L→wpAnyU P .any ops Q S n F N L a w.drew):(Code.region id ops true).wp P Q a w:=by
 subst hN
 subst hL
 exact wp_region_any hm (wpAny_of_U _ _ _ _ (h hS (fun j oj _ hl=>(by rw [getD_replicate_false] at hl;cases hl))))
end
theorem rU {P:Program} {ops:Array Oper} {Q:Exit→Act→World→Prop} {S:World→Prop} {B:World} {L:Array Bool} {id:Nat} {a:Act} {w:World} (H:RowKit.Hid (∀ w',Ext B w'→S w')) (n F:List Nat) (N:Nat) (h:S w.drew→Closed .any ops L→wpAnyU P .any ops Q S n F N L a w.drew)
  (hm:P.follows .mixedOrders=true:=by kernel_rfl) (hN:ops.size=N:=by kernel_rfl) (hL:Array.replicate N false=L:=by (simp only [Array.replicate,List.replicate];exact rq rfl)) (hx:Ext B w.drew:=by repeat (first|with_reducible exact Ext.refl _|with_reducible exact hxA|refine Ext.drew ?_|refine Ext.drewN ?_ _|refine Ext.setCell ?_ (by first|exact Nat.le_refl _|(simp only [];omega)) _|refine Ext.alloc ?_ _)):(Code.region id ops true).wp P Q a w:=wp_region_U S n F N L hm hN hL (H.out _ hx) h
end Go.Proofs.YtdkgilioejdmeaaGreat
namespace Go.Proofs.YtdkgilioejdmeaaGreat
open Go.RowKit
set_option maxHeartbeats 8000000 in
set_option maxRecDepth 100000 in
theorem parts_any (lo p n f gA gU gL cA cU:Nat) (bl:Nat→Nat) (ct:Nat→Nat→Int) (fr:Nat) (w0 w:World) (h:IsLat w lo p n f gA gU gL cA cU bl ct) (hx0:Ext w0 w) (hlo:w0.heap.size≤lo) (hn:n≤100) (hfr:fr≤f) (hfn:f≤n) :
  Calls Tryz.prog 242 #[.pointer (some ⟨p,0,none⟩),.int .i64 fr] w fun e w'=>e = .returned (.tuple #[])∧(∃ bl',IsLat w' lo p n n gA gU gL cA cU bl' (partsP n ct fr (n - fr)))∧Ext w0 w':=by
 have c2:w.cell? ⟨p,2,none⟩=some (.slice (some ⟨bl (2*n),0,none⟩) (n+1) (n+1)):=h.box.cell 2 rfl
 have hr:=h.rows.row (2*n) (Or.inl om)
 obtain ⟨nd,Ad,kd,cd1,cd2,_⟩:=hr.cells 0 (by rw [zAu];omega)
 replace cd1:w.cell? ⟨bl (2*n),0,none⟩=some (.bool nd):=cd1
 replace cd2:w.cell? ⟨bl (2*n),1,none⟩=some (.slice Ad kd kd):=cd2
 have fd1:=hr.free 0
 have fd2:=hr.free 1
 have hlb:=h.rows.low (2*n) (Or.inl om)
 have hlp:=h.lowp
 have hpl:=h.box.lt
 have HH:=zH h
 have HX0:=zH hx0
 have HOne:=zH (fun W=>zBi 1 W om om)
 have hmf:∀ (fn:Fn) (first cap:Array Value) (w:World),(Instr.makeFunc fn first cap).run Tryz.prog w = .ok (.func fn first cap) w:=fun _ _ _ _=>rfl
 have l2:=zAA c2
 have l3:=zAA cd1
 simp only at l2 l3
 clear h hx0 hr
 go_enter Tryz.func242,Tryz.ntmps242
 go_upto_region 0 with (fail)
 have HKeepT:=zH (fun (w':World) (hx:Ext w w')=>(show w'.cell? ⟨p,2,none⟩=some (.slice (some ⟨bl (2*n),0,none⟩) (n+1) (n+1)) from hx.cell c2))
 refine rU HKeepT [6] [] 7 (fun hH hC=>?_)
 revert hC
 refine tk 0 7 hH ?_
 refine tk 1 7 hH ?_
 refine tk 2 7 hH ?_
 refine tk 3 7 hH ?_
 intro hC
 refine zAB hC (i:=4) Sg kr (fun K hK=>?_)
 go_simp
 (go_at_call 24;refine (HOne.out _).mono ?_;rintro e w1 ⟨A1,k1,rfl,hn1,hx⟩;have hxN:Ext w w1:=Ext.trans Ext.ua hx;have hxA:=hxN;clear hxN;have HN1:=zH hn1;clear hn1;have tcd1:=hxA.cell cd1;have tcd2:=hxA.cell cd2;have tfd1:=hxA.free fd1 (zAA cd1);have tfd2:=hxA.free fd2 (zAA cd2);clear hx)
 try go_wp2_with fail
 have hHeldN:=HKeepT.out w1 Ext.ua
 refine hK.out _ _ (fun _ _=>hHeldN) (fun hCn=>?_)
 clear hK K hH hC
 have hH:=hHeldN
 have hC:=hCn
 clear hHeldN hCn
 try simp only [Act.put,sA,sB,sC]
 revert hC
 refine tk 5 7 hH ?_
 intro hC
 refine zAB hC (i:=6) Sg kr (fun K hK=>?_)
 go_simp
 refine hK.out _ _ (fun h=>by cases h) (fun hCn=>?_)
 clear hK K hC
 have hC:=hCn
 clear hCn
 try simp only [Act.put,sA,sB,sC]
 refine zAD kr ?_ _
 clear hC HKeepT
 try clear hH
 obtain ⟨W1,hW1⟩:∃ W1,(w1.setCell ⟨bl (2*n),0,none⟩ (.bool false)).setCell ⟨bl (2*n),1,none⟩ (.slice A1 k1 k1)=W1:=⟨_,rfl⟩
 have HX1:Hid (Ext w0 W1):=by rw [← hW1];exact zAO (h:=bl (2*n)) (o:=0) (HX0.out.trans hxA) om
 have HL1:Hid (IsLat W1 lo p n f gA gU gL cA cU bl (put ct (2*n) 0 1)):=by rw [← hW1];exact (HH.out.ext hxA).setZ (s:=2*n) (j:=0) (Or.inl om) (by rw [zAu];omega) HN1.out
 rw [hW1]
 clear hW1 HH HX0 c2 cd1 cd2 fd1 fd2 l2 l3 tcd1 tcd2 tfd1 tfd2 HN1 hlb hpl hxA HOne
 go_wp2
 go_loopg [4] (n - fr) (fun kk kv wk=>∃ (m k:Nat) (bk:Nat→Nat),kk+m=n - fr∧k=fr+m∧kv = .int .i64 k∧Hid (IsLat wk lo p n (max f k) gA gU gL cA cU bk (partsP n ct fr m))∧Hid (Ext w0 wk))
 case atStart=>exact ⟨0,fr,bl,by omega,by omega,rfl,by rw [show max f fr=f by omega];exact HL1,HX1⟩
 clear HL1 HX1
 obtain ⟨m,k,bk,hkm,hkf,rfl,HL,HX⟩:=hrel
 have HKf:=zH hkf
 clear hkf
 have c0:wr.cell? ⟨p,0,none⟩=some (.slice (some ⟨gA,0,none⟩) n cA):=HL.out.box.cell 0 rfl
 by_cases hkn:k < n
 ·skip
  obtain ⟨cs,hmk,hrow⟩:=zAs (k:Int) k rfl om wr.drew
  have HMk:Hid (MRow (wr.drew.alloc (.cells cs 49)) wr.heap.size k (fun _=>0)):=hrow
  have c3:wr.cell? ⟨p,3,none⟩=some (.slice (some ⟨gL,0,none⟩) n n):=HL.out.box.cell 3 rfl
  obtain ⟨al,nl,ml,cl⟩:∃ a k' c,wr.cell? ⟨gL,k,none⟩=some (.slice a k' c):=by
   by_cases e:k < max f k
   ·exact ⟨_,_,_,HL.out.cellL k e⟩
   ·exact HL.out.restL k om hkn
  have fl:=HL.out.freeL k
  obtain ⟨ck,hck⟩:∃ c,partsP n ct fr m=c:=⟨_,rfl⟩
  have HPs:Hid (partsP n ct fr (m+1)=rowP n ck k):=by rw [← hck,HKf.out];rfl
  rw [hck] at HL
  have l3:=zAA c3
  have l4:=zAA cl
  simp only at l3 l4
  clear hck hrow
  go_upto_region 4 with (fail)
  have HKeepT:=zH (fun (w':World) (hx:Ext wr w')=>(show w'.cell? ⟨p,3,none⟩=some (.slice (some ⟨gL,0,none⟩) n n)∧w'.cell? ⟨gL,k,none⟩=some (.slice al nl ml) from ⟨hx.cell c3,hx.cell cl⟩))
  refine rU HKeepT [8] [] 9 (fun hH hC=>?_)
  revert hC
  refine tk 0 9 hH ?_
  refine tk 1 9 hH ?_
  refine tk 2 9 hH ?_
  refine tk 3 9 hH ?_
  refine tk 4 9 hH ?_
  refine tk 5 9 hH ?_
  intro hC
  refine zAB hC (i:=6) Sg kr (fun K hK=>?_)
  go_simp
  go_wp2_with fail
  have hHeldN:(fun w'=>w'.cell? ⟨p,3,none⟩=some (.slice (some ⟨gL,0,none⟩) n n)∧w'.cell? ⟨gL,k,none⟩=some (.slice al nl ml)) (wr.drew.alloc (.cells cs 49)):=by
   (try dsimp only)
   exact HKeepT.out _ Ext.ua
  refine hK.out _ _ (fun _ _=>hHeldN) (fun hCn=>?_)
  clear hK K hH hC
  have hH:=hHeldN
  have hC:=hCn
  clear hHeldN hCn
  try simp only [Act.put,sA,sB,sC]
  revert hC
  refine tk 7 9 hH ?_
  intro hC
  refine zAB hC (i:=8) Sg kr (fun K hK=>?_)
  go_simp
  refine hK.out _ _ (fun h=>by cases h) (fun hCn=>?_)
  clear hK K hC
  have hC:=hCn
  clear hCn
  try simp only [Act.put,sA,sB,sC]
  refine zAD kr ?_ _
  clear hC HKeepT
  try clear hH
  have e4:((wr.setCell ⟨gL,k,none⟩ (.slice (some ⟨wr.heap.size,0,none⟩) k k)).alloc (.cells cs 49)).drew=(wr.drew.alloc (.cells cs 49)).setCell ⟨gL,k,none⟩ (.slice (some ⟨wr.heap.size,0,none⟩) k k):=by
   rw [World.setCell_alloc_past _ _ _ _ (show gL < wr.drew.heap.size from l4)];rfl
  rw [e4]
  obtain ⟨W4,hW4⟩:∃ W4,(wr.drew.alloc (.cells cs 49)).setCell ⟨gL,k,none⟩ (.slice (some ⟨wr.heap.size,0,none⟩) k k)=W4:=⟨_,rfl⟩
  have hwl:w0.heap.size≤wr.heap.size:=HX.out.size
  have hll:lo≤wr.heap.size:=by have:=HL.out.lowp;have:=HL.out.box.lt;omega
  have HX4:Hid (Ext w0 W4):=by rw [← hW4];exact (HX.out.drew.alloc _).setCell (p:=⟨gL,k,none⟩) (by have:=HL.out.lowL;simp only [];omega) _
  have HL4:Hid (IsLat W4 lo p n (max f (k+1)) gA gU gL cA cU (blN bk (2*n+1+k) wr.heap.size) (colP n ck k 0)):=by
   rw [← hW4]
   have:=IsLat.newL HL.out ((Ext.refl wr).drew.alloc _) hkn om (Nat.le_refl _) hll HMk.out
   rw [show max (max f k) (k+1)=max f (k+1) by omega] at this
   exact this
  rw [hW4]
  clear hW4 e4 HL HX c0 c3 cl fl l3 l4 hmk HMk hwl hll
  generalize blN bk (2*n+1+k) wr.heap.size=bj at HL4
  clear bk
  go_wp2
  go_loopg [5] (k+1) (fun kk jv wj=>∃ j:Nat,kk+j=k+1∧jv = .int .i64 j∧Hid (IsLat wj lo p n (max f (k+1)) gA gU gL cA cU bj (colP n ck k j))∧Hid (Ext w0 wj))
  case atStart=>exact ⟨0,by omega,rfl,HL4,HX4⟩
  clear HL4 HX4
  obtain ⟨j,hkj,rfl,HL,HX⟩:=hrel
  by_cases hjk:j < k+1
  ·skip
   obtain ⟨c,hc⟩:∃ c,colP n ck k j=c:=⟨_,rfl⟩
   have HCs:Hid (colP n ck k (j+1)=if j < k then put c (2*n+1+k) j (entU n c k j j) else put c (2*n) (k+1) (entU n c k j j)):=by rw [← hc];rfl
   rw [hc] at HL
   clear hc
   have c0:wr.cell? ⟨p,0,none⟩=some (.slice (some ⟨gA,0,none⟩) n cA):=HL.out.box.cell 0 rfl
   have cA1:=HL.out.cellA k hkn
   obtain ⟨na,Aa,ka,ca1,ca2,ia⟩:=(HL.out.rows.row k (Or.inl om)).cells j (by unfold latLn;rw [if_pos om];omega)
   have l0:=zAA c0
   have l1:=zAA cA1
   have l2:=zAA ca1
   simp only at l0 l1 l2
   have hb6:=Blk.new wr 49 #[.bool na,.slice Aa ka ka]
   have HI6:=zH ia
   clear ia
   have hjn:j < n:=by omega
   have hjk2:(j:Int)≤(k:Int):=by omega
   go_wp2
   obtain ⟨b6,hb6e⟩:∃ b6,wr.heap.size=b6:=⟨_,rfl⟩
   obtain ⟨W6,hW6⟩:∃ W6,wr.alloc (.cells #[.bool na,.slice Aa ka ka] 49)=W6:=⟨_,rfl⟩
   have HX6:Hid (Ext w0 W6):=by rw [← hW6];exact HX.out.alloc _
   have HL6:Hid (IsLat W6 lo p n (max f (k+1)) gA gU gL cA cU bj c):=by rw [← hW6];exact HL.out.ext ((Ext.refl _).alloc _)
   have HB6:Hid (IntB W6 b6 (entU n c k j 0)):=by rw [← hW6,← hb6e];exact IntB.new HI6.out
   have HNe:Hid (∀ s,latT n (max f (k+1)) s→bj s≠b6):=fun s hs e=>by have:=(HL.out.rows.row s hs).lt;omega
   have hlo6:w0.heap.size≤b6:=by have:=HX.out.size;omega
   rw [hW6,hb6e]
   clear hW6 HL HX HI6 hb6 c0 cA1 ca1 ca2 l0 l1 l2 hb6e
   go_wp2
   go_loopg [7] j (fun kk iv wi=>∃ i:Nat,kk+i=j∧iv = .int .i64 i∧Hid (IsLat wi lo p n (max f (k+1)) gA gU gL cA cU bj c)∧Hid (IntB wi b6 (entU n c k j i))∧Hid (Ext w0 wi))
   case atStart=>exact ⟨0,by omega,rfl,HL6,HB6,HX6⟩
   clear HL6 HX6 HB6
   obtain ⟨i,hki,rfl,HL,HB,HX⟩:=hrel
   by_cases hij:i < j
   ·skip
    have hik:i < k:=by omega
    have hin:i < n:=by omega
    have c2:wr.cell? ⟨p,2,none⟩=some (.slice (some ⟨bj (2*n),0,none⟩) (n+1) (n+1)):=HL.out.box.cell 2 rfl
    have c3:wr.cell? ⟨p,3,none⟩=some (.slice (some ⟨gL,0,none⟩) n n):=HL.out.box.cell 3 rfl
    have cLk:=HL.out.cellL k om
    have cLj:=HL.out.cellL j om
    obtain ⟨nk,Ak,kk',ck1,ck2,ik⟩:=(HL.out.rows.row (2*n+1+k) (Or.inr ⟨by omega,by omega⟩)).cells i (by rw [zA4];exact hik)
    obtain ⟨nj,Aj,kj',cj1,cj2,ij⟩:=(HL.out.rows.row (2*n+1+j) (Or.inr ⟨by omega,by omega⟩)).cells i (by rw [zA4];exact hij)
    obtain ⟨nd0,Ad0,kd0,cd01,cd02,id0⟩:=(HL.out.rows.row (2*n) (Or.inl om)).cells i (by rw [zAu];omega)
    obtain ⟨nd1,Ad1,kd1,cd11,cd12,id1⟩:=(HL.out.rows.row (2*n) (Or.inl om)).cells (i+1) (by rw [zAu];omega)
    obtain ⟨n6,A6,k6,q6,i6⟩:=HB.out.box
    obtain ⟨c6a,f6a,c6b,f6b⟩:=q6.two
    obtain ⟨lk,hlk⟩:∃ l,c (2*n+1+k) i=l:=⟨_,rfl⟩
    obtain ⟨lj,hlj⟩:∃ l,c (2*n+1+j) i=l:=⟨_,rfl⟩
    obtain ⟨d0,hd0⟩:∃ l,c (2*n) i=l:=⟨_,rfl⟩
    obtain ⟨d1,hd1⟩:∃ l,c (2*n) (i+1)=l:=⟨_,rfl⟩
    obtain ⟨u,hu⟩:∃ l,entU n c k j i=l:=⟨_,rfl⟩
    have HU:Hid (entU n c k j (i+1)=exactZ (fitZ (fitZ (d1*u) - fitZ (lk*lj))) d0):=by rw [← hlk,← hlj,← hd0,← hd1,← hu];rfl
    have HEq:Hid (j=k→lj=lk):=fun e=>by rw [← hlk,← hlj,e]
    rw [hlk] at ik
    rw [hlj] at ij
    rw [hd0] at id0
    rw [hd1] at id1
    rw [hu] at i6
    have HT6:=zH q6
    have hx0s:=zH HX.out.size
    clear hlk hlj hu HB
    obtain ⟨bLk,hbLk⟩:∃ b,bj (2*n+1+k)=b:=⟨_,rfl⟩
    obtain ⟨bLj,hbLj⟩:∃ b,bj (2*n+1+j)=b:=⟨_,rfl⟩
    obtain ⟨bD,hbD⟩:∃ b,bj (2*n)=b:=⟨_,rfl⟩
    rw [hbLk] at cLk ck1 ck2
    rw [hbLj] at cLj cj1 cj2
    rw [hbD] at c2 cd01 cd02 cd11 cd12
    have HIk:=zH ik
    have HIj:=zH ij
    have HD0:=zH id0
    have HD1:=zH id1
    have HI6:=zH i6
    have HXr:Hid (Ext wr wr):=Ext.refl _
    have l2:=zAA c2
    have l3:=zAA cLk
    have l4:=zAA cLj
    have l5:=zAA ck1
    have l6:=zAA cj1
    have l7:=zAA cd01
    have l8:=zAA c6a
    simp only at l2 l3 l4 l5 l6 l7 l8
    clear hbLk hbLj hbD ik ij id0 id1 i6 q6
    have HM1:=zH (fun W (hx:Ext wr W)=>zAV nk nk Ak Ak kk' kk' lk lk W (HIk.out.ext hx) (HIk.out.ext hx))
    have hi0:(0:Int)≤(i:Int)+1:=by omega
    have hi1:(i:Int)+1 < ((n+1:Nat):Int):=by omega
    have hi2:((i:Int)+1).toNat=i+1:=by omega
    have hi3:(i:Int) < (n:Int)+1:=by omega
    have HX:=HX
    go_upto_region 12 with (fail)
    go_cut [8] (fun s8 wx=>∃ b8,s8 = .pointer (some ⟨b8,0,none⟩)∧wr.heap.size≤b8∧Hid (IntB wx b8 (fitZ (lk*lk)))∧Hid (Ext wr wx))
    case first =>
     have HKeepT:=zH (fun (w':World) (hx:Ext wr w')=>(show w'.cell? ⟨p,3,none⟩=some (.slice (some ⟨gL,0,none⟩) n n)∧w'.cell? ⟨gL,k,none⟩=some (.slice (some ⟨bLk,0,none⟩) k k)∧w'.cell? ⟨bLk,i*2,none⟩=some (.bool nk)∧w'.cell? ⟨bLk,i*2+1,none⟩=some (.slice Ak kk' kk') from ⟨hx.cell c3,hx.cell cLk,hx.cell ck1,hx.cell ck2⟩))
     refine rU HKeepT [22] [] 23 (fun hH hC=>?_)
     revert hC
     refine tk 0 23 hH ?_
     refine tk 1 23 hH ?_
     refine tk 2 23 hH ?_
     refine tk 3 23 hH ?_
     refine tk 4 23 hH ?_
     refine tk 5 23 hH ?_
     refine tk 6 23 hH ?_
     refine tk 7 23 hH ?_
     refine tk 8 23 hH ?_
     refine tk 9 23 hH ?_
     refine tk 10 23 hH ?_
     refine tk 11 23 hH ?_
     refine tk 12 23 hH ?_
     refine tk 13 23 hH ?_
     refine tk 14 23 hH ?_
     refine tk 15 23 hH ?_
     refine tk 16 23 hH ?_
     refine tk 17 23 hH ?_
     refine tk 18 23 hH ?_
     refine tk 19 23 hH ?_
     intro hC
     refine zBZ hC (i:=20) (j:=21) Sg Sg kr (fun K hK=>?_) (fun K hK=>?_)
     ·skip
      go_simp
      (go_at_call 248;with_reducible refine Calls.mono (HM1.out _ ?_) ?_;exact Ext.ua;rintro e w1 ⟨n1,A1,e1,rfl,hn1,hx⟩;(first|(have k1:=True.intro));have hxN:Ext wr w1:=Ext.trans Ext.ua hx;have hxA:=hxN;clear hxN;have HN1:=zH hn1;clear hn1;have hs1:=hxA.size;have hz1:=hx.size;(try simp only [World.size_alloc,World.size_drew,World.size_setCell] at hz1);clear hx)
      try go_wp2_with fail
      have hHeldN:=HKeepT.out w1 Ext.ua
      refine hK.out _ _ (fun _ _=>hHeldN) (fun hCn=>?_)
      clear hK K hC
      try clear hH
      have hH:=hHeldN
      have hC:=hCn
      clear hHeldN hCn
      try simp only [Act.put,sA,sB,sC]
      refine zAB hC (i:=21) Sg kr (fun K hK=>?_)
      go_simp
      refine hK.out _ _ (fun _ _=>by (try dsimp only);exact HKeepT.out _ Ext.ua) (fun hCn=>?_)
      clear hK K hC
      have hC:=hCn
      clear hCn
      try clear hH
      try simp only [Act.put,sA,sB,sC]
      refine zAB hC (i:=22) Sg kr (fun K hK=>?_)
      go_simp
      refine hK.out _ _ (fun h=>by cases h) (fun hCn=>?_)
      clear hK K hC
      have hC:=hCn
      clear hCn
      try simp only [Act.put,sA,sB,sC]
      refine zAD kr ?_ _
      clear hC HKeepT
      skip
      go_wp2
      refine Met.intro ?_
      go_step
      (repeat apply Exists.intro)
      refine And.symm ⟨?_,?_⟩
      ·first|with_reducible rfl
      first
      | exact ⟨_,rfl,(by first|assumption),zH (IntB.mk2 (by (with_reducible repeat (first  | (refine Blk.at ?_;· (first|rfl))))) (by (with_reducible repeat (first|exact HN1.out|refine IsInt.al ?_)))),zH Ext.ua⟩
     ·skip
      go_simp
      refine hK.out _ _ (fun _ _=>by (try dsimp only);exact HKeepT.out _ Ext.ua) (fun hCn=>?_)
      clear hK K hC
      have hC:=hCn
      clear hCn
      try clear hH
      try simp only [Act.put,sA,sB,sC]
      refine zAB hC (i:=20) Sg kr (fun K hK=>?_)
      go_simp
      (go_at_call 248;with_reducible refine Calls.mono (HM1.out _ ?_) ?_;exact Ext.ua;rintro e w1 ⟨n1,A1,e1,rfl,hn1,hx⟩;(first|(have k1:=blk1 hx));have hxN:Ext wr w1:=Ext.trans Ext.ua hx;have hxA:=hxN;clear hxN;have HN1:=zH hn1;clear hn1;have hs1:=hxA.size;have hz1:=hx.size;(try simp only [World.size_alloc,World.size_drew,World.size_setCell] at hz1);(first|(have zl1:=Blk.lt k1));(first|(have zz:=Blk.two k1;obtain ⟨zc1,zf1,zd1,zg1⟩:=zz));clear hx)
      try go_wp2_with fail
      have hHeldN:=HKeepT.out w1 Ext.ua
      refine hK.out _ _ (fun _ _=>hHeldN) (fun hCn=>?_)
      clear hK K hC
      skip
      have hH:=hHeldN
      have hC:=hCn
      clear hHeldN hCn
      try simp only [Act.put,sA,sB,sC]
      refine zAB hC (i:=22) Sg kr (fun K hK=>?_)
      go_simp
      refine hK.out _ _ (fun h=>by cases h) (fun hCn=>?_)
      clear hK K hC
      have hC:=hCn
      clear hCn
      try simp only [Act.put,sA,sB,sC]
      refine zAD kr ?_ _
      clear hC HKeepT
      try clear hH
      go_wp2
      refine Met.intro ?_
      go_step
      (repeat apply Exists.intro)
      refine And.symm ⟨?_,?_⟩
      ·first|with_reducible rfl
      first
      | exact ⟨_,rfl,(by first|exact Nat.le_refl _),zH (IntB.mk2 (by (with_reducible repeat (first|(refine Blk.put2 ?_;· (repeat (first|exact BlkN.of k1 rfl)))))) (by (with_reducible repeat (first|exact HN1.out|(refine IsInt.setN ?_ ?_;· (repeat (first|exact NB.of k1 (by decide)|refine NB.set ?_))))))),zH Ext.ua⟩
    obtain ⟨b8,rfl,hb8,HB8,HX11⟩:=hcut
    obtain ⟨W11,hWn⟩:∃ W11,wc=W11:=⟨_,rfl⟩
    rw [hWn] at HB8 HX11 ⊢
    clear hWn wc
    replace c2:=HX11.out.cell c2
    replace c3:=HX11.out.cell c3
    replace cLk:=HX11.out.cell cLk
    replace cLj:=HX11.out.cell cLj
    replace ck1:=HX11.out.cell ck1
    replace ck2:=HX11.out.cell ck2
    replace cj1:=HX11.out.cell cj1
    replace cj2:=HX11.out.cell cj2
    replace cd01:=HX11.out.cell cd01
    replace cd02:=HX11.out.cell cd02
    replace cd11:=HX11.out.cell cd11
    replace cd12:=HX11.out.cell cd12
    replace f6a:=HX11.out.free f6a (zAA c6a)
    replace c6a:=HX11.out.cell c6a
    replace f6b:=HX11.out.free f6b (zAA c6b)
    replace c6b:=HX11.out.cell c6b
    replace HIk:=zH (HIk.out.ext HX11.out)
    replace HIj:=zH (HIj.out.ext HX11.out)
    replace HD0:=zH (HD0.out.ext HX11.out)
    replace HD1:=zH (HD1.out.ext HX11.out)
    replace HI6:=zH (HI6.out.ext HX11.out)
    replace HX:=zH (HX.out.trans HX11.out)
    have hszW11:=HX11.out.size
    obtain ⟨n8,A8,k8,q8,hn8⟩:=HB8.out.box
    obtain ⟨c8a,f8a,c8b,f8b⟩:=q8.two
    have HQ8:=HB8
    have hl8:=q8.lt
    have HN8:=zH hn8
    clear hn8 q8 HB8
    have HL11:=zH (HL.out.ext HX11.out)
    have hb8n:∀ s,latT n (max f (k+1)) s→bj s≠b8:=fun s hs e=>by have:=(HL.out.rows.row s hs).lt;omega
    have HNe8:=zH hb8n
    have hb68:b6≠b8:=by omega
    have HB6x:Hid (IntB W11 b6 u):=zH (IntB.mk2 (HT6.out.ext HX11.out) HI6.out)
    have hlo8:w0.heap.size≤b8:=by have:=HX.out.size;have:=hx0s.out;omega
    clear HM1 hb8n HL HT6 c2 cd01 cd02 cd11 cd12 c6a c6b f6a f6b HI6
    by_cases hjk3:j < k
    ·skip
     have HM2:=zH (fun W (hx:Ext W11 W)=>zAV nk nj Ak Aj kk' kj' lk lj W (HIk.out.ext hx) (HIj.out.ext hx))
     go_upto_region 14 with (fail)
     have HKeepT:=zH (fun (w':World) (hx:Ext W11 w')=>(show w'.cell? ⟨p,3,none⟩=some (.slice (some ⟨gL,0,none⟩) n n)∧w'.cell? ⟨gL,k,none⟩=some (.slice (some ⟨bLk,0,none⟩) k k)∧w'.cell? ⟨gL,j,none⟩=some (.slice (some ⟨bLj,0,none⟩) j j)∧w'.cell? ⟨bLk,i*2,none⟩=some (.bool nk)∧w'.cell? ⟨bLk,i*2+1,none⟩=some (.slice Ak kk' kk')∧w'.cell? ⟨bLj,i*2,none⟩=some (.bool nj)∧w'.cell? ⟨bLj,i*2+1,none⟩=some (.slice Aj kj' kj')∧w'.cell? ⟨b8,0,none⟩=some (.bool n8)∧w'.cell? ⟨b8,1,none⟩=some (.slice A8 k8 k8) from ⟨hx.cell c3,hx.cell cLk,hx.cell cLj,hx.cell ck1,hx.cell ck2,hx.cell cj1,hx.cell cj2,hx.cell c8a,hx.cell c8b⟩))
     refine rU HKeepT [21] [] 22 (fun hH hC=>?_)
     revert hC
     refine tk 0 22 hH ?_
     refine tk 1 22 hH ?_
     refine tk 2 22 hH ?_
     refine tk 3 22 hH ?_
     refine tk 4 22 hH ?_
     refine tk 5 22 hH ?_
     refine tk 6 22 hH ?_
     refine tk 7 22 hH ?_
     refine tk 8 22 hH ?_
     refine tk 9 22 hH ?_
     refine tk 10 22 hH ?_
     refine tk 11 22 hH ?_
     refine tk 12 22 hH ?_
     refine tk 13 22 hH ?_
     refine tk 14 22 hH ?_
     refine tk 15 22 hH ?_
     refine tk 16 22 hH ?_
     refine tk 17 22 hH ?_
     refine tk 18 22 hH ?_
     refine tk 19 22 hH ?_
     intro hC
     refine zAB hC (i:=20) Sg kr (fun K hK=>?_)
     go_simp
     (go_at_call 248;with_reducible refine Calls.mono (HM2.out _ ?_) ?_;exact Ext.ua;rintro e w1 ⟨n1,A1,e1,rfl,hn1,hx⟩;have hxN:Ext W11 w1:=Ext.trans Ext.ua hx;have hxA:=hxN;clear hxN;have HN1:=zH hn1;clear hn1;have tc8a:=hxA.cell c8a;have uc8a:=hxA.free f8a (zAA c8a);have tc8b:=hxA.cell c8b;have uc8b:=hxA.free f8b (zAA c8b);clear hx)
     try go_wp2_with fail
     have hHeldN:=HKeepT.out w1 Ext.ua
     refine hK.out _ _ (fun _ _=>hHeldN) (fun hCn=>?_)
     clear hK K hH hC
     have hH:=hHeldN
     have hC:=hCn
     clear hHeldN hCn
     try simp only [Act.put,sA,sB,sC]
     refine zAB hC (i:=21) Sg kr (fun K hK=>?_)
     go_simp
     refine hK.out _ _ (fun h=>by cases h) (fun hCn=>?_)
     clear hK K hC
     have hC:=hCn
     clear hCn
     try simp only [Act.put,sA,sB,sC]
     refine zAD kr ?_ _
     clear hC HKeepT
     try clear hH
     obtain ⟨W14,hW14⟩:∃ W14,setInt w1 b8 0 n1 A1 e1=W14:=⟨_,rfl⟩
     have hT8:TB w1 49 b8:=by obtain ⟨_,_,_,q,_⟩:=(HQ8.out.ext hxA).box;exact q.typ
     have HB8x:Hid (IntB W14 b8 (fitZ (lk*lj))):=by rw [← hW14];exact (HQ8.out.ext hxA).setI HN1.out
     have HB6y:Hid (IntB W14 b6 u):=by rw [← hW14];exact (HB6x.out.ext hxA).farI hT8 hb68
     have HLx:Hid (IsLat W14 lo p n (max f (k+1)) gA gU gL cA cU bj c):=by rw [← hW14];exact (HL11.out.ext hxA).butZ (zCd _ _ _ _ _ _) hT8 HNe8.out
     have HXx:Hid (Ext w0 W14):=by rw [← hW14];exact zAO (HX.out.trans hxA) hlo8
     replace HB6x:=HB6y
     have e14:(w1.setCell ⟨b8,0,none⟩ (.bool n1)).setCell ⟨b8,1,none⟩ (.slice A1 e1 e1)=W14:=hW14
     rw [e14]
     clear e14 hW14 HB6y hT8 HM2 HN1 hxA HL11 HQ8 HN8 c8a c8b f8a f8b c3 cLk cLj ck1 ck2 cj1 cj2 HIk HIj
     have c2:W14.cell? ⟨p,2,none⟩=some (.slice (some ⟨bj (2*n),0,none⟩) (n+1) (n+1)):=HLx.out.box.cell 2 rfl
     obtain ⟨nd0,Ad0,kd0,cd01,cd02,id0⟩:=(HLx.out.rows.row (2*n) (Or.inl om)).cells i (by rw [zAu];omega)
     obtain ⟨nd1,Ad1,kd1,cd11,cd12,id1⟩:=(HLx.out.rows.row (2*n) (Or.inl om)).cells (i+1) (by rw [zAu];omega)
     obtain ⟨n6,A6,k6,q6,i6⟩:=HB6x.out.box
     obtain ⟨n8,A8,k8,q8,i8⟩:=HB8x.out.box
     obtain ⟨c6a,f6a,c6b,f6b⟩:=q6.two
     obtain ⟨c8a,f8a,c8b,f8b⟩:=q8.two
     rw [hd0] at id0
     rw [hd1] at id1
     obtain ⟨bD,hbD⟩:∃ b,bj (2*n)=b:=⟨_,rfl⟩
     rw [hbD] at c2 cd01 cd02 cd11 cd12
     have HD0:=zH id0
     have HD1:=zH id1
     have HI6:=zH i6
     have HI8:=zH i8
     have l2:=zAA c2
     have l7:=zAA cd01
     have l8:=zAA c6a
     have l9:=zAA c8a
     simp only at l2 l7 l8 l9
     clear hbD id0 id1 i6 i8 q6 q8 hd0 hd1
     have HM:=zH (fun W (hx:Ext W14 W)=>zAV nd1 n6 Ad1 A6 kd1 k6 d1 u W (HD1.out.ext hx) (HI6.out.ext hx))
     have HS:=zH (fun W nn E e z (he:IsInt W nn E e z) (hx:Ext W14 W)=>zA1 nn n8 E A8 e k8 z (fitZ (lk*lj)) W he (HI8.out.ext hx))
     have HE:=zH (fun W nn E e z (he:IsInt W nn E e z) (hx:Ext W14 W)=>zCg nn nd0 E Ad0 e kd0 z d0 W he (HD0.out.ext hx))
     have hw1:IntKind.i64.wrap ((i:Int)+1)=(i:Int)+1:=IntWalk.i64_in _ om
     go_upto_region 15 with (fail)
     have HKeepT:=zH (fun (w':World) (hx:Ext W14 w')=>(show w'.cell? ⟨p,2,none⟩=some (.slice (some ⟨bD,0,none⟩) (n+1) (n+1))∧w'.cell? ⟨bD,i*2,none⟩=some (.bool nd0)∧w'.cell? ⟨bD,i*2+1,none⟩=some (.slice Ad0 kd0 kd0)∧w'.cell? ⟨bD,(i+1)*2,none⟩=some (.bool nd1)∧w'.cell? ⟨bD,(i+1)*2+1,none⟩=some (.slice Ad1 kd1 kd1)∧w'.cell? ⟨b6,0,none⟩=some (.bool n6)∧w'.cell? ⟨b6,1,none⟩=some (.slice A6 k6 k6)∧w'.cell? ⟨b8,0,none⟩=some (.bool n8)∧w'.cell? ⟨b8,1,none⟩=some (.slice A8 k8 k8) from ⟨hx.cell c2,hx.cell cd01,hx.cell cd02,hx.cell cd11,hx.cell cd12,hx.cell c6a,hx.cell c6b,hx.cell c8a,hx.cell c8b⟩))
     refine rU HKeepT [23] [] 24 (fun hH hC=>?_)
     revert hC
     refine tk 0 24 hH ?_
     refine tk 1 24 hH ?_
     refine tk 2 24 hH ?_
     refine tk 3 24 hH ?_
     refine tk 4 24 hH ?_
     refine tk 5 24 hH ?_
     refine tk 6 24 hH ?_
     refine tk 7 24 hH ?_
     refine tk 8 24 hH ?_
     refine tk 10 24 hH ?_
     refine tk 12 24 hH ?_
     refine tk 13 24 hH ?_
     refine tk 14 24 hH ?_
     refine tk 15 24 hH ?_
     refine tk 16 24 hH ?_
     refine tk 17 24 hH ?_
     refine tk 18 24 hH ?_
     intro hC
     refine zAB hC (i:=9) Sg kr (fun K hK=>?_)
     go_simp
     (go_at_call 248;with_reducible refine Calls.mono (HM.out _ ?_) ?_;exact Ext.ua;rintro e w1 ⟨n1,A1,e1,rfl,hn1,hx⟩;have hxN:Ext W14 w1:=Ext.trans Ext.ua hx;have hxA:=hxN;clear hxN;have HN1:=zH hn1;clear hn1;clear hx)
     try go_wp2_with fail
     have hHeldN:=HKeepT.out w1 Ext.ua
     refine hK.out _ _ (fun _ _=>hHeldN) (fun hCn=>?_)
     clear hK K hH hC
     have hH:=hHeldN
     have hC:=hCn
     clear hHeldN hCn
     try simp only [Act.put,sA,sB,sC]
     refine zAB hC (i:=11) Sg kr (fun K hK=>?_)
     go_simp
     (go_at_call 250;with_reducible refine Calls.mono (HS.out _ _ _ _ _ (HN1.out.ext Ext.ub) ?_) ?_;exact Ext.ua;rintro e w2 ⟨n2,A2,e2,rfl,hn2,hx⟩;have hxN:Ext W14 w2:=Ext.trans Ext.ua hx;(try clear hxA);have hxA:=hxN;clear hxN;have HN2:=zH hn2;clear hn2;(first|(have hh:=zH (HN1.out.ext (Ext.trans Ext.ub hx));clear HN1;have HN1:=hh;clear hh));clear hx)
     try go_wp2_with fail
     have hHeldN:=HKeepT.out w2 Ext.ua
     refine hK.out _ _ (fun _ _=>hHeldN) (fun hCn=>?_)
     clear hK K hH hC
     have hH:=hHeldN
     have hC:=hCn
     clear hHeldN hCn
     try simp only [Act.put,sA,sB,sC]
     refine zAB hC (i:=19) Sg kr (fun K hK=>?_)
     go_simp
     (go_at_call 130;with_reducible refine Calls.mono (HE.out _ _ _ _ _ (HN2.out.ext Ext.ub) ?_) ?_;exact Ext.ua;rintro e w3 ⟨n3,A3,e3,rfl,hn3,hx⟩;have hxN:Ext W14 w3:=Ext.trans Ext.ua hx;(try clear hxA);have hxA:=hxN;clear hxN;have HN3:=zH hn3;clear hn3;(first|(have hh:=zH (HN1.out.ext (Ext.trans Ext.ub hx));clear HN1;have HN1:=hh;clear hh));(first|(have hh:=zH (HN2.out.ext (Ext.trans Ext.ub hx));clear HN2;have HN2:=hh;clear hh));clear hx)
     try go_wp2_with fail
     have hHeldN:=HKeepT.out w3 Ext.ua
     refine hK.out _ _ (fun _ _=>hHeldN) (fun hCn=>?_)
     clear hK K hH hC
     have hH:=hHeldN
     have hC:=hCn
     clear hHeldN hCn
     try simp only [Act.put,sA,sB,sC]
     revert hC
     refine tk 20 24 hH ?_
     refine tk 21 24 hH ?_
     intro hC
     refine zAB hC (i:=22) Sg kr (fun K hK=>?_)
     go_simp
     (go_at_call 249;refine (zBD n3 A3 e3 _ _ _ (HN3.out.ext Ext.ub)).mono ?_;rintro e w4 ⟨rfl,hn4,hx⟩;have hxN:Ext W14 w4:=Ext.trans Ext.ua hx;(try clear hxA);have hxA:=hxN;clear hxN;have HN4:=zH hn4;clear hn4;(first|(have hh:=zH (HN1.out.ext (Ext.trans Ext.ub hx));clear HN1;have HN1:=hh;clear hh));(first|(have hh:=zH (HN2.out.ext (Ext.trans Ext.ub hx));clear HN2;have HN2:=hh;clear hh));(first|(have hh:=zH (HN3.out.ext (Ext.trans Ext.ub hx));clear HN3;have HN3:=hh;clear hh));have tc6a:=hxA.cell c6a;have uc6a:=hxA.free f6a (zAA c6a);have tc6b:=hxA.cell c6b;have uc6b:=hxA.free f6b (zAA c6b);clear hx)
     try go_wp2_with fail
     have hHeldN:=HKeepT.out w4 Ext.ua
     refine hK.out _ _ (fun _ _=>hHeldN) (fun hCn=>?_)
     clear hK K hH hC
     have hH:=hHeldN
     have hC:=hCn
     clear hHeldN hCn
     try simp only [Act.put,sA,sB,sC]
     refine zAB hC (i:=23) Sg kr (fun K hK=>?_)
     go_simp
     refine hK.out _ _ (fun h=>by cases h) (fun hCn=>?_)
     clear hK K hC
     have hC:=hCn
     clear hCn
     try simp only [Act.put,sA,sB,sC]
     refine zAD kr ?_ _
     clear hC HKeepT
     try clear hH
     clear hw1
     have e15:(w4.setCell ⟨b6,0,none⟩ (.bool n3)).setCell ⟨b6,1,none⟩ (.slice A3 e3 e3)=setInt w4 b6 0 n3 A3 e3:=rfl
     have HB6n:Hid (IntB (setInt w4 b6 0 n3 A3 e3) b6 (entU n c k j (i+1))):=by rw [HU.out];exact (HB6x.out.ext hxA).setI HN4.out
     have hT6:TB w4 49 b6:=by obtain ⟨_,_,_,q,_⟩:=(HB6x.out.ext hxA).box;exact q.typ
     have HLn:Hid (IsLat (setInt w4 b6 0 n3 A3 e3) lo p n (max f (k+1)) gA gU gL cA cU bj c):=(HLx.out.ext hxA).butZ (zCd _ _ _ _ _ _) hT6 HNe.out
     have HXn:Hid (Ext w0 (setInt w4 b6 0 n3 A3 e3)):=zAO (HXx.out.trans hxA) hlo6
     rw [e15]
     clear e15 hT6 HLx HB6x HB8x HXx HM HS HE HN1 HN2 HN3 HN4 c2 cd01 cd02 cd11 cd12 c6a c6b c8a c8b HD0 HD1 HI6 HI8 hxA
     go_wp2
     go_roundg (gk - 1)
     case measure=>omega
     case rel=>exact ⟨i+1,by omega,by go_num,HLn,HB6n,HXn⟩
    ·skip
     have hjk4:j=k:=by omega
     have hlj:=HEq.out hjk4
     clear hjk4
     have HB8x:Hid (IntB W11 b8 (fitZ (lk*lj))):=by rw [hlj];exact HQ8
     have HLx:=HL11
     have HXx:=HX
     clear hlj HL11 HQ8 HN8 c8a c8b f8a f8b c3 cLk cLj ck1 ck2 cj1 cj2 HIk HIj HX
     have c2:W11.cell? ⟨p,2,none⟩=some (.slice (some ⟨bj (2*n),0,none⟩) (n+1) (n+1)):=HLx.out.box.cell 2 rfl
     obtain ⟨nd0,Ad0,kd0,cd01,cd02,id0⟩:=(HLx.out.rows.row (2*n) (Or.inl om)).cells i (by rw [zAu];omega)
     obtain ⟨nd1,Ad1,kd1,cd11,cd12,id1⟩:=(HLx.out.rows.row (2*n) (Or.inl om)).cells (i+1) (by rw [zAu];omega)
     obtain ⟨n6,A6,k6,q6,i6⟩:=HB6x.out.box
     obtain ⟨n8,A8,k8,q8,i8⟩:=HB8x.out.box
     obtain ⟨c6a,f6a,c6b,f6b⟩:=q6.two
     obtain ⟨c8a,f8a,c8b,f8b⟩:=q8.two
     rw [hd0] at id0
     rw [hd1] at id1
     obtain ⟨bD,hbD⟩:∃ b,bj (2*n)=b:=⟨_,rfl⟩
     rw [hbD] at c2 cd01 cd02 cd11 cd12
     have HD0:=zH id0
     have HD1:=zH id1
     have HI6:=zH i6
     have HI8:=zH i8
     have l2:=zAA c2
     have l7:=zAA cd01
     have l8:=zAA c6a
     have l9:=zAA c8a
     simp only at l2 l7 l8 l9
     clear hbD id0 id1 i6 i8 q6 q8 hd0 hd1
     have HM:=zH (fun W (hx:Ext W11 W)=>zAV nd1 n6 Ad1 A6 kd1 k6 d1 u W (HD1.out.ext hx) (HI6.out.ext hx))
     have HS:=zH (fun W nn E e z (he:IsInt W nn E e z) (hx:Ext W11 W)=>zA1 nn n8 E A8 e k8 z (fitZ (lk*lj)) W he (HI8.out.ext hx))
     have HE:=zH (fun W nn E e z (he:IsInt W nn E e z) (hx:Ext W11 W)=>zCg nn nd0 E Ad0 e kd0 z d0 W he (HD0.out.ext hx))
     have hw1:IntKind.i64.wrap ((i:Int)+1)=(i:Int)+1:=IntWalk.i64_in _ om
     go_upto_region 15 with (fail)
     have HKeepT:=zH (fun (w':World) (hx:Ext W11 w')=>(show w'.cell? ⟨p,2,none⟩=some (.slice (some ⟨bD,0,none⟩) (n+1) (n+1))∧w'.cell? ⟨bD,i*2,none⟩=some (.bool nd0)∧w'.cell? ⟨bD,i*2+1,none⟩=some (.slice Ad0 kd0 kd0)∧w'.cell? ⟨bD,(i+1)*2,none⟩=some (.bool nd1)∧w'.cell? ⟨bD,(i+1)*2+1,none⟩=some (.slice Ad1 kd1 kd1)∧w'.cell? ⟨b6,0,none⟩=some (.bool n6)∧w'.cell? ⟨b6,1,none⟩=some (.slice A6 k6 k6)∧w'.cell? ⟨b8,0,none⟩=some (.bool n8)∧w'.cell? ⟨b8,1,none⟩=some (.slice A8 k8 k8) from ⟨hx.cell c2,hx.cell cd01,hx.cell cd02,hx.cell cd11,hx.cell cd12,hx.cell c6a,hx.cell c6b,hx.cell c8a,hx.cell c8b⟩))
     refine rU HKeepT [23] [] 24 (fun hH hC=>?_)
     revert hC
     refine tk 0 24 hH ?_
     refine tk 1 24 hH ?_
     refine tk 2 24 hH ?_
     refine tk 3 24 hH ?_
     refine tk 4 24 hH ?_
     refine tk 5 24 hH ?_
     refine tk 6 24 hH ?_
     refine tk 7 24 hH ?_
     refine tk 8 24 hH ?_
     refine tk 10 24 hH ?_
     refine tk 12 24 hH ?_
     refine tk 13 24 hH ?_
     refine tk 14 24 hH ?_
     refine tk 15 24 hH ?_
     refine tk 16 24 hH ?_
     refine tk 17 24 hH ?_
     refine tk 18 24 hH ?_
     intro hC
     refine zAB hC (i:=9) Sg kr (fun K hK=>?_)
     go_simp
     (go_at_call 248;with_reducible refine Calls.mono (HM.out _ ?_) ?_;exact Ext.ua;rintro e w1 ⟨n1,A1,e1,rfl,hn1,hx⟩;have hxN:Ext W11 w1:=Ext.trans Ext.ua hx;have hxA:=hxN;clear hxN;have HN1:=zH hn1;clear hn1;clear hx)
     try go_wp2_with fail
     have hHeldN:=HKeepT.out w1 Ext.ua
     refine hK.out _ _ (fun _ _=>hHeldN) (fun hCn=>?_)
     clear hK K hH hC
     have hH:=hHeldN
     have hC:=hCn
     clear hHeldN hCn
     try simp only [Act.put,sA,sB,sC]
     refine zAB hC (i:=11) Sg kr (fun K hK=>?_)
     go_simp
     (go_at_call 250;with_reducible refine Calls.mono (HS.out _ _ _ _ _ (HN1.out.ext Ext.ub) ?_) ?_;exact Ext.ua;rintro e w2 ⟨n2,A2,e2,rfl,hn2,hx⟩;have hxN:Ext W11 w2:=Ext.trans Ext.ua hx;(try clear hxA);have hxA:=hxN;clear hxN;have HN2:=zH hn2;clear hn2;(first|(have hh:=zH (HN1.out.ext (Ext.trans Ext.ub hx));clear HN1;have HN1:=hh;clear hh));clear hx)
     try go_wp2_with fail
     have hHeldN:=HKeepT.out w2 Ext.ua
     refine hK.out _ _ (fun _ _=>hHeldN) (fun hCn=>?_)
     clear hK K hH hC
     have hH:=hHeldN
     have hC:=hCn
     clear hHeldN hCn
     try simp only [Act.put,sA,sB,sC]
     refine zAB hC (i:=19) Sg kr (fun K hK=>?_)
     go_simp
     (go_at_call 130;with_reducible refine Calls.mono (HE.out _ _ _ _ _ (HN2.out.ext Ext.ub) ?_) ?_;exact Ext.ua;rintro e w3 ⟨n3,A3,e3,rfl,hn3,hx⟩;have hxN:Ext W11 w3:=Ext.trans Ext.ua hx;(try clear hxA);have hxA:=hxN;clear hxN;have HN3:=zH hn3;clear hn3;(first|(have hh:=zH (HN1.out.ext (Ext.trans Ext.ub hx));clear HN1;have HN1:=hh;clear hh));(first|(have hh:=zH (HN2.out.ext (Ext.trans Ext.ub hx));clear HN2;have HN2:=hh;clear hh));clear hx)
     try go_wp2_with fail
     have hHeldN:=HKeepT.out w3 Ext.ua
     refine hK.out _ _ (fun _ _=>hHeldN) (fun hCn=>?_)
     clear hK K hH hC
     have hH:=hHeldN
     have hC:=hCn
     clear hHeldN hCn
     try simp only [Act.put,sA,sB,sC]
     revert hC
     refine tk 20 24 hH ?_
     refine tk 21 24 hH ?_
     intro hC
     refine zAB hC (i:=22) Sg kr (fun K hK=>?_)
     go_simp
     (go_at_call 249;refine (zBD n3 A3 e3 _ _ _ (HN3.out.ext Ext.ub)).mono ?_;rintro e w4 ⟨rfl,hn4,hx⟩;have hxN:Ext W11 w4:=Ext.trans Ext.ua hx;(try clear hxA);have hxA:=hxN;clear hxN;have HN4:=zH hn4;clear hn4;(first|(have hh:=zH (HN1.out.ext (Ext.trans Ext.ub hx));clear HN1;have HN1:=hh;clear hh));(first|(have hh:=zH (HN2.out.ext (Ext.trans Ext.ub hx));clear HN2;have HN2:=hh;clear hh));(first|(have hh:=zH (HN3.out.ext (Ext.trans Ext.ub hx));clear HN3;have HN3:=hh;clear hh));have tc6a:=hxA.cell c6a;have uc6a:=hxA.free f6a (zAA c6a);have tc6b:=hxA.cell c6b;have uc6b:=hxA.free f6b (zAA c6b);clear hx)
     try go_wp2_with fail
     have hHeldN:=HKeepT.out w4 Ext.ua
     refine hK.out _ _ (fun _ _=>hHeldN) (fun hCn=>?_)
     clear hK K hH hC
     have hH:=hHeldN
     have hC:=hCn
     clear hHeldN hCn
     try simp only [Act.put,sA,sB,sC]
     refine zAB hC (i:=23) Sg kr (fun K hK=>?_)
     go_simp
     refine hK.out _ _ (fun h=>by cases h) (fun hCn=>?_)
     clear hK K hC
     have hC:=hCn
     clear hCn
     try simp only [Act.put,sA,sB,sC]
     refine zAD kr ?_ _
     clear hC HKeepT
     try clear hH
     clear hw1
     have e15:(w4.setCell ⟨b6,0,none⟩ (.bool n3)).setCell ⟨b6,1,none⟩ (.slice A3 e3 e3)=setInt w4 b6 0 n3 A3 e3:=rfl
     have HB6n:Hid (IntB (setInt w4 b6 0 n3 A3 e3) b6 (entU n c k j (i+1))):=by rw [HU.out];exact (HB6x.out.ext hxA).setI HN4.out
     have hT6:TB w4 49 b6:=by obtain ⟨_,_,_,q,_⟩:=(HB6x.out.ext hxA).box;exact q.typ
     have HLn:Hid (IsLat (setInt w4 b6 0 n3 A3 e3) lo p n (max f (k+1)) gA gU gL cA cU bj c):=(HLx.out.ext hxA).butZ (zCd _ _ _ _ _ _) hT6 HNe.out
     have HXn:Hid (Ext w0 (setInt w4 b6 0 n3 A3 e3)):=zAO (HXx.out.trans hxA) hlo6
     rw [e15]
     clear e15 hT6 HLx HB6x HB8x HXx HM HS HE HN1 HN2 HN3 HN4 c2 cd01 cd02 cd11 cd12 c6a c6b c8a c8b HD0 HD1 HI6 HI8 hxA
     go_wp2
     go_roundg (gk - 1)
     case measure=>omega
     case rel=>exact ⟨i+1,by omega,by go_num,HLn,HB6n,HXn⟩
   ·skip
    obtain rfl:i=j:=by omega
    obtain ⟨n6,A6,k6,q6,i6⟩:=HB.out.box
    obtain ⟨c6a,f6a,c6b,f6b⟩:=q6.two
    have HI6:=zH i6
    clear i6 q6 HB
    by_cases hjk3:i < k
    ·skip
     have c3:wr.cell? ⟨p,3,none⟩=some (.slice (some ⟨gL,0,none⟩) n n):=HL.out.box.cell 3 rfl
     have cLk:=HL.out.cellL k om
     have hr:=HL.out.rows.row (2*n+1+k) (Or.inr ⟨by omega,by omega⟩)
     obtain ⟨nk,Ak,kk',ck1,ck2,_⟩:=hr.cells i (by rw [zA4];exact hjk3)
     have fk1:=hr.free (i*2)
     have fk2:=hr.free (i*2+1)
     have hlow:=hr.typ.lt
     have hlow2:=HL.out.rows.low (2*n+1+k) (Or.inr ⟨by omega,by omega⟩)
     have l2:=zAA c3
     have l3:=zAA cLk
     have l4:=zAA ck1
     have l5:=zAA c6a
     simp only at l2 l3 l4 l5
     clear hr
     go_upto_region 17 with (fail)
     have HKeepT:=zH (fun (w':World) (hx:Ext wr w')=>(show w'.cell? ⟨p,3,none⟩=some (.slice (some ⟨gL,0,none⟩) n n)∧w'.cell? ⟨gL,k,none⟩=some (.slice (some ⟨bj (2*n+1+k),0,none⟩) k k)∧w'.cell? ⟨b6,0,none⟩=some (.bool n6)∧w'.cell? ⟨b6,1,none⟩=some (.slice A6 k6 k6) from ⟨hx.cell c3,hx.cell cLk,hx.cell c6a,hx.cell c6b⟩))
     refine rU HKeepT [10] [] 11 (fun hH hC=>?_)
     revert hC
     refine tk 0 11 hH ?_
     refine tk 1 11 hH ?_
     refine tk 2 11 hH ?_
     refine tk 3 11 hH ?_
     refine tk 4 11 hH ?_
     refine tk 5 11 hH ?_
     refine tk 6 11 hH ?_
     refine tk 7 11 hH ?_
     refine tk 8 11 hH ?_
     refine tk 9 11 hH ?_
     intro hC
     refine zAB hC (i:=10) Sg kr (fun K hK=>?_)
     go_simp
     refine hK.out _ _ (fun h=>by cases h) (fun hCn=>?_)
     clear hK K hC
     have hC:=hCn
     clear hCn
     try simp only [Act.put,sA,sB,sC]
     refine zAD kr ?_ _
     clear hC HKeepT
     try clear hH
     have e17:((wr.setCell ⟨bj (2*n+1+k),i*2,none⟩ (.bool n6)).setCell ⟨bj (2*n+1+k),i*2+1,none⟩ (.slice A6 k6 k6)).drew=(setInt wr (bj (2*n+1+k)) ((i)*2) n6 A6 k6).drew:=rfl
     have HLn:Hid (IsLat (setInt wr (bj (2*n+1+k)) ((i)*2) n6 A6 k6).drew lo p n (max f (k+1)) gA gU gL cA cU bj (colP n ck k (i+1))):=by
      have:=(HL.out.setZ (s:=2*n+1+k) (j:=i) (Or.inr ⟨by omega,by omega⟩) (by rw [zA4];exact hjk3) HI6.out).ext (Ext.refl _).drew
      rw [HCs.out]
      rw [if_pos hjk3]
      exact this
     have HXn:Hid (Ext w0 (setInt wr (bj (2*n+1+k)) ((i)*2) n6 A6 k6).drew):=(zAO HX.out om).drew
     rw [e17]
     clear e17 HL HX HI6 c6a c6b
     clear c3 cLk ck1 ck2 fk1 fk2
     go_wp2
     go_roundg (k+1 - (i+1))
     case measure=>omega
     case rel=>exact ⟨i+1,by omega,by go_num,HLn,HXn⟩
    ·skip
     have HJK:Hid (i=k):=by show i=k;omega
     have c2:wr.cell? ⟨p,2,none⟩=some (.slice (some ⟨bj (2*n),0,none⟩) (n+1) (n+1)):=HL.out.box.cell 2 rfl
     have hr:=HL.out.rows.row (2*n) (Or.inl om)
     obtain ⟨nk,Ak,kk',ck1,ck2,_⟩:=hr.cells (k+1) (by rw [zAu];omega)
     have fk1:=hr.free ((k+1)*2)
     have fk2:=hr.free ((k+1)*2+1)
     have hlow2:=HL.out.rows.low (2*n) (Or.inl om)
     have l2:=zAA c2
     have l4:=zAA ck1
     have l5:=zAA c6a
     simp only at l2 l4 l5
     clear hr
     have hi0:(0:Int)≤(k:Int)+1:=by omega
     have hi1:(k:Int)+1 < ((n+1:Nat):Int):=by omega
     have hi2:((k:Int)+1).toNat=k+1:=by omega
     have hw1:IntKind.i64.wrap ((k:Int)+1)=(k:Int)+1:=IntWalk.i64_in _ om
     go_upto_region 18 with (fail)
     have HKeepT:=zH (fun (w':World) (hx:Ext wr w')=>(show w'.cell? ⟨p,2,none⟩=some (.slice (some ⟨bj (2*n),0,none⟩) (n+1) (n+1))∧w'.cell? ⟨b6,0,none⟩=some (.bool n6)∧w'.cell? ⟨b6,1,none⟩=some (.slice A6 k6 k6) from ⟨hx.cell c2,hx.cell c6a,hx.cell c6b⟩))
     refine rU HKeepT [8] [] 9 (fun hH hC=>?_)
     revert hC
     refine tk 0 9 hH ?_
     refine tk 1 9 hH ?_
     refine tk 2 9 hH ?_
     refine tk 3 9 hH ?_
     refine tk 4 9 hH ?_
     refine tk 5 9 hH ?_
     refine tk 6 9 hH ?_
     refine tk 7 9 hH ?_
     intro hC
     refine zAB hC (i:=8) Sg kr (fun K hK=>?_)
     go_simp
     refine hK.out _ _ (fun h=>by cases h) (fun hCn=>?_)
     clear hK K hC
     have hC:=hCn
     clear hCn
     try simp only [Act.put,sA,sB,sC]
     refine zAD kr ?_ _
     clear hC HKeepT
     try clear hH
     clear hw1
     have e17:((wr.setCell ⟨bj (2*n),(k+1)*2,none⟩ (.bool n6)).setCell ⟨bj (2*n),(k+1)*2+1,none⟩ (.slice A6 k6 k6)).drew=(setInt wr (bj (2*n)) ((k+1)*2) n6 A6 k6).drew:=rfl
     have HLn:Hid (IsLat (setInt wr (bj (2*n)) ((k+1)*2) n6 A6 k6).drew lo p n (max f (k+1)) gA gU gL cA cU bj (colP n ck k (i+1))):=by
      have:=(HL.out.setZ (s:=2*n) (j:=k+1) (Or.inl om) (by rw [zAu];omega) HI6.out).ext (Ext.refl _).drew
      rw [HCs.out]
      rw [if_neg hjk3];have hjk4:=HJK.out;rw [hjk4] at this ⊢
      exact this
     have HXn:Hid (Ext w0 (setInt wr (bj (2*n)) ((k+1)*2) n6 A6 k6).drew):=(zAO HX.out om).drew
     rw [e17]
     clear e17 HL HX HI6 c6a c6b
     clear c2 ck1 ck2 fk1 fk2
     go_wp2
     go_roundg (k+1 - (i+1))
     case measure=>omega
     case rel=>exact ⟨i+1,by omega,by go_num,HLn,HXn⟩
  ·skip
   obtain rfl:j=k+1:=by omega
   have HLn:Hid (IsLat wr lo p n (max f (k+1)) gA gU gL cA cU bj (partsP n ct fr (m+1))):=by rw [HPs.out];exact HL
   clear HL HPs
   go_wp2
   go_roundg (n - fr - (m+1))
   case measure=>have hk2:=HKf.out;omega
   case rel=>exact ⟨m+1,k+1,bj,by have hk2:=HKf.out;omega,by have hk2:=HKf.out;omega,by go_num,HLn,HX⟩
 ·skip
  have hk2:=HKf.out
  obtain rfl:k=n:=by omega
  obtain rfl:m=k - fr:=by omega
  have HLn:Hid (IsLat wr lo p k k gA gU gL cA cU bk (partsP k ct fr (k - fr))):=by have:=HL.out;rwa [show max f k=k by omega] at this
  clear HL hk2 HKf hkm
  go_wp2
  first
   | (go_end0;exact ⟨rfl,⟨bk,HLn.out⟩,HX.out⟩)
end Go.Proofs.YtdkgilioejdmeaaGreat
