/- YtdkgilioejdmeaaGreatBA12: what is proved here stands in the theorems' own rows. -/
import Derived.Deep.DeepCutAuto
import Derived.TacticsIn
import Derived.RegionIn
import Derived.RangeFuncCalls
import Derived.Test.YtdkgilioejdmeaaGreatBA1
import Derived.Test.YtdkgilioejdmeaaGreatBA3
import Derived.Test.YtdkgilioejdmeaaGreatBA8
import Derived.Test.YtdkgilioejdmeaaGreatBA9
import Derived.Test.YtdkgilioejdmeaaGreatBA11
set_option linter.unusedVariables false
set_option linter.unusedSimpArgs false
namespace Go.Proofs.YtdkgilioejdmeaaGreat
open Go.RowKit
set_option maxHeartbeats 4000000 in
set_option maxRecDepth 100000 in
theorem numbers_any (g n c:Nat) (h:Nat→Nat) (m:Nat→Nat→Int) (w:World) (hn:n≤100) (hcell:∀ i,i < n→w.cell? ⟨g,i,none⟩=some (.slice (some ⟨h i,0,none⟩) n n)) (hrow:∀ i,i < n→MRow w (h i) n (m i)) :
  Calls Tryz.prog 186 #[.slice (some ⟨g,0,none⟩) n c] w fun e w'=>∃ g' r,e = .returned (.slice (some ⟨g',0,none⟩) n n)∧NRows w' w.heap.size g' n n r (fun i j=>i64Z (m i j))∧Ext w w':=by
 have HC:=zH hcell
 have HR:=zH hrow
 have hmf:∀ (fn:Fn) (first cap:Array Value) (w:World),(Instr.makeFunc fn first cap).run Tryz.prog w = .ok (.func fn first cap) w:=fun _ _ _ _=>rfl
 obtain ⟨cs,hmk,hT,hcl,hfr⟩:=make_numrows (n:Int) n rfl om w
 have HN0:Hid (NRows (w.alloc (.cells cs 31)) w.heap.size w.heap.size n 0 (fun _=>0) (fun i j=>i64Z (m i j))):=⟨fun a ha=>by omega,fun a _ ha=>hcl a ha,fun a ha=>by omega,hfr,hT,Nat.le_refl _,fun a ha=>by omega⟩
 clear hcell hrow hT hcl hfr
 go_enter Tryz.func186,Tryz.ntmps186
 go_wp2
 obtain ⟨W0,hW0⟩:∃ W0,w.alloc (.cells cs 31)=W0:=⟨_,rfl⟩
 obtain ⟨lo,hlo⟩:∃ lo,w.heap.size=lo:=⟨_,rfl⟩
 have HX0:Hid (Ext w W0):=by rw [← hW0];exact (Ext.refl w).alloc _
 have HLo:=zH hlo
 rw [hW0,hlo] at HN0
 rw [hW0,hlo]
 clear hmk hW0 hlo
 go_loopg [11] n (fun kk kv wk=>∃ (i:Nat) (r:Nat→Nat),kk+i=n∧kv = .int .i64 i∧Hid (NRows wk lo lo n i r (fun i j=>i64Z (m i j)))∧Hid (Ext w wk))
 case atStart=>exact ⟨0,_,by omega,rfl,HN0,HX0⟩
 clear HN0 HX0
 obtain ⟨i,r,hki,rfl,HN,HX⟩:=hrel
 by_cases hin:i < n
 ·obtain ⟨cs2,hmk2,hT2,hcl2,hfr2⟩:=zDD (n:Int) n rfl om wr
  have HRw:Hid (NRow (wr.alloc (.cells cs2 2)) wr.heap.size n (fun _=>0)):=⟨hcl2,hfr2,hT2⟩
  have cI:=HX.out.cell (HC.out i hin)
  have cO:=HN.out.rest i (Nat.le_refl _) hin
  have fO:=HN.out.free i
  have l1:=zAA cI
  have l2:=HN.out.typ.lt
  clear hT2 hcl2 hfr2
  go_upto_region 6 with (fail)
  have e5:(wr.setCell ⟨lo,i,none⟩ (.slice (some ⟨wr.heap.size,0,none⟩) n n)).alloc (.cells cs2 2)=(wr.alloc (.cells cs2 2)).setCell ⟨lo,i,none⟩ (.slice (some ⟨wr.heap.size,0,none⟩) n n):=(World.setCell_alloc_past _ _ _ _ l2).symm
  rw [e5]
  obtain ⟨W5,hW5⟩:∃ W5,(wr.alloc (.cells cs2 2)).setCell ⟨lo,i,none⟩ (.slice (some ⟨wr.heap.size,0,none⟩) n n)=W5:=⟨_,rfl⟩
  have hlw:lo≤wr.heap.size:=by omega
  have HX5:Hid (Ext w W5):=by rw [← hW5];exact (HX.out.alloc _).setCell (p:=⟨lo,i,none⟩) (by simp only [];have:=HLo.out;omega) _
  obtain ⟨b,hb⟩:∃ b,wr.heap.size=b:=⟨_,rfl⟩
  have hd:∀ a,a < i→hset r i b a≠hset r i b i:=fun a ha e=>by
   unfold hset at e;rw [if_neg om,if_pos rfl] at e
   have:=(HN.out.row a ha).typ.lt;omega
  have HD:=zH hd
  have HN5:Hid (NRows W5 lo lo n (i+1) (hset r i b) (fun a c=>if a=i then (if c < 0 then i64Z (m i c) else 0) else i64Z (m a c))):=by
   rw [← hW5,← hb]
   have h1:=HN.out.ext ((Ext.refl wr).alloc (.cells cs2 2))
   have h2:NRows (wr.alloc (.cells cs2 2)) lo lo n i r (fun a c=>if a=i then (if c < 0 then i64Z (m i c) else 0) else i64Z (m a c)) :=
    ⟨h1.cell,h1.rest,fun a ha=>(h1.row a ha).congr fun j _=>by rw [if_neg om],h1.free,h1.typ,h1.low,h1.lowr⟩
   exact h2.next hin (HRw.out.congr fun j _=>by rw [if_pos rfl,if_neg om]) hlw
  rw [hW5]
  rw [hb]
  clear e5 hW5 hmk2 cI cO fO l1 l2 HN HX HRw hd hlw hb
  have cI:=HX5.out.cell (HC.out i hin)
  have l1:=zAA cI
  go_wp2
  go_loopg [28] n (fun kk jv wj=>∃ j:Nat,kk+j=n∧jv = .int .i64 j∧Hid (NRows wj lo lo n (i+1) (hset r i b) (fun a c=>if a=i then (if c < j then i64Z (m i c) else 0) else i64Z (m a c)))∧Hid (Ext w wj))
  case atStart=>exact ⟨0,by omega,rfl,HN5,HX5⟩
  clear HN5 HX5 cI l1
  obtain ⟨j,hkj,rfl,HN,HX⟩:=hrel
  by_cases hjn:j < n
  ·have cI:=HX.out.cell (HC.out i hin)
   obtain ⟨nz,Az,kz,cz1,cz2,iz⟩:=((HR.out i hin).ext HX.out).cells j hjn
   have HIz:=zH iz
   have cO:=HN.out.cell i om
   have hbi:hset r i b i=b:=by unfold hset;rw [if_pos rfl]
   have hrw:=HN.out.row i om
   have ct:=hrw.cell j hjn
   have ft:=hrw.free j
   rw [hbi] at cO ct ft
   have HBi:=zH hbi
   have hlb:=HN.out.lowr i om
   rw [hbi] at hlb
   obtain ⟨hi',hhi⟩:∃ x,h i=x:=⟨_,rfl⟩
   rw [hhi] at cI cz1 cz2
   obtain ⟨z,hz⟩:∃ z,m i j=z:=⟨_,rfl⟩
   have HZ:=zH hz
   rw [hz] at HIz
   have HI:=zH (fun W (hx:Ext wr W)=>zCJ nz Az kz z W (HIz.out.ext hx))
   have l1:=zAA cI
   have l2:=zAA cO
   have l3:=zAA cz1
   have l4:=zAA ct
   simp only at l1 l2 l3 l4
   clear iz hrw hbi hhi hz
   obtain ⟨v0,hv0⟩:∃ v,(if i=i then (if j < j then i64Z (m i j) else 0) else i64Z (m i j))=v:=⟨_,rfl⟩
   rw [hv0] at ct
   clear hv0
   go_upto_region 9 with (fail)
   have HKeepT:=zH (fun (w':World) (hx:Ext wr w')=>(show w'.cell? ⟨g,i,none⟩=some (.slice (some ⟨hi',0,none⟩) n n)∧w'.cell? ⟨lo,i,none⟩=some (.slice (some ⟨b,0,none⟩) n n)∧w'.cell? ⟨hi',j*2,none⟩=some (.bool nz)∧w'.cell? ⟨hi',j*2+1,none⟩=some (.slice Az kz kz)∧w'.cell? ⟨b,j,none⟩=some (.int .i64 v0) from ⟨hx.cell cI,hx.cell cO,hx.cell cz1,hx.cell cz2,hx.cell ct⟩))
   refine rU HKeepT [17] [15] 18 (fun hH hC=>?_)
   revert hC
   refine tk 0 18 hH ?_
   refine tk 1 18 hH ?_
   refine tk 2 18 hH ?_
   refine tk 3 18 hH ?_
   refine tk 4 18 hH ?_
   refine tk 5 18 hH ?_
   refine tk 6 18 hH ?_
   refine tk 7 18 hH ?_
   refine tk 8 18 hH ?_
   refine tk 9 18 hH ?_
   refine tk 10 18 hH ?_
   refine tk 11 18 hH ?_
   intro hC
   refine zAB hC (i:=12) Sg kr (fun K hK=>?_)
   go_simp
   (go_at_call 107;with_reducible refine Calls.mono (HI.out _ ?_) ?_;exact Ext.ua;rintro e w1 ⟨rfl,hx⟩;have hxN:Ext wr w1:=Ext.trans Ext.ua hx;have hxA:=hxN;clear hxN;have tct:=hxA.cell ct;have uct:=hxA.free ft (zAA ct);clear hx)
   try go_wp2_with fail
   have hHeldN:=HKeepT.out w1 Ext.ua
   refine hK.out _ _ (fun _ _=>hHeldN) (fun hCn=>?_)
   clear hK K hH hC
   have hH:=hHeldN
   have hC:=hCn
   clear hHeldN hCn
   try simp only [Act.put,sA,sB,sC]
   revert hC
   refine tk 13 18 hH ?_
   refine tk 14 18 hH ?_
   refine tk 16 18 hH ?_
   intro hC
   refine zAF hC (i:=15) (v:=?_) Sg kr kr kr kr Iq (by rfl) ?_ (fun hCn=>?_)
   rotate_left
   ·intro w';go_simp;(try with_reducible rfl)
   clear hC
   have hC:=hCn
   clear hCn
   try simp only [Act.put,sA,sB,sC]
   refine zAB hC (i:=17) Sg kr (fun K hK=>?_)
   go_simp
   refine hK.out _ _ (fun h=>by cases h) (fun hCn=>?_)
   clear hK K hC
   have hC:=hCn
   clear hCn
   try simp only [Act.put,sA,sB,sC]
   refine zAD kr ?_ _
   clear hC HKeepT
   try clear hH
   obtain ⟨V,hV⟩:∃ V,w1.setCell ⟨b,j,none⟩ (.int .i64 (i64Z z))=V:=⟨_,rfl⟩
   have HNn:Hid (NRows V lo lo n (i+1) (hset r i b) (fun a c=>if a=i then (if c < j+1 then i64Z (m i c) else 0) else i64Z (m a c))):=by
    rw [← hV]
    have h1:=(HN.out.ext hxA).fill (f':=fun a c=>if a=i then (if c < j+1 then i64Z (m i c) else 0) else i64Z (m a c)) HD.out hjn (i64Z z) (fun a c ha=>by rw [if_neg om,if_neg om]) (fun c hc=>by
     rw [if_pos rfl,if_pos rfl]
     by_cases e:c=j
     ·subst e;rw [if_pos om,if_pos rfl,HZ.out]
     ·rw [if_neg e]
      by_cases e2:c < j
      ·rw [if_pos e2,if_pos om]
      ·rw [if_neg e2,if_neg om])
    rw [HBi.out] at h1
    exact h1
   have HXn:Hid (Ext w V):=by rw [← hV];exact (HX.out.trans hxA).setCell (p:=⟨b,j,none⟩) (by simp only [];have:=HLo.out;omega) _
   rw [hV]
   clear hV HN HX HI HIz hxA cI cO cz1 cz2 ct ft tct uct HZ HBi
   go_wp2
   go_roundg (n - (j+1))
   case measure=>omega
   case rel=>exact ⟨j+1,by omega,by go_num,HNn,HXn⟩
  ·obtain rfl:n=j:=by omega
   have HNn:Hid (NRows wr lo lo n (i+1) (hset r i b) (fun i j=>i64Z (m i j))):=⟨HN.out.cell,HN.out.rest,fun a ha=>(HN.out.row a ha).congr fun c hc=>by
    by_cases e:a=i
    ·subst e;rw [if_pos rfl,if_pos hc]
    ·rw [if_neg e],HN.out.free,HN.out.typ,HN.out.low,HN.out.lowr⟩
   clear HN
   go_wp2
   go_roundg (n - (i+1))
   case measure=>omega
   case rel=>exact ⟨i+1,_,by omega,by go_num,HNn,HX⟩
 ·obtain rfl:n=i:=by omega
  go_wp2
  go_ret
  exact ⟨lo,r,rfl,by rw [HLo.out];exact HN.out,HX.out⟩
def SmallE (n:Nat) (f:Nat→Nat→Int):Prop:=∀ i j,i < n→j < n → -16384≤f i j∧f i j≤16384
theorem MRow.same {w:World} {h n:Nat} {f g:Nat→Int} (r:MRow w h n f) (e:f=g):MRow w h n g:=e ▸ r
set_option maxHeartbeats 4000000 in
set_option maxRecDepth 100000 in
theorem lllReduce_any (A:Option Addr) (n c:Nat) (rows:List (List Int)) (w:World) (ct':Nat→Nat→Int) (fuel:Nat) (hn:n=rows.length) (hn1:1≤n) (hn8:n≤16) (hr:IsRows w A rows) (hf:Fit64 rows) (hsq:∀ l∈rows,l.length=n) (hc:chk rows=0)
  (hred:redP n fuel 1 (partsP n (newC n (entry rows)) 0 n)=some ct') :
  Calls Tryz.prog 138 #[.slice A n c] w fun e w'=>(SmallE n (fun i j=>i64Z (ct' i j))∧∃ g r gM cap hM,e = .returned (.tuple #[.slice (some ⟨g,0,none⟩) n n,.agg #[.slice (some ⟨gM,0,none⟩) n cap],.int .i64 0])∧NRows w' w.heap.size g n n r (fun i j=>i64Z (ct' i j))∧n≤cap∧MatZ w' w.heap.size gM n hM (fun i j=>ct' (n+i) j)∧Ext w w') ∨
   (¬ SmallE n (fun i j=>i64Z (ct' i j))∧e = .returned (.tuple #[.slice none 0 0,.agg #[.slice none 0 0],.int .i64 3])∧Ext w w'):=by
 obtain ⟨W0,HWW0,hXW0,hsW0,c0,f0⟩:=bx1 w 81 (.slice none 0 0)
 have HX0:=zH hXW0
 have HMd:=zH (made_ok A n c rows W0 ct' fuel hn hn1 om (hr.ext hXW0) hf hsq hc hred)
 have HK0:Hid (Blk W0 w.heap.size 81 #[.slice none 0 0]):=by rw [← HWW0.out];exact Blk.new _ _ _
 have hmf:∀ (fn:Fn) (first cap:Array Value) (w:World),(Instr.makeFunc fn first cap).run Tryz.prog w = .ok (.func fn first cap) w:=fun _ _ _ _=>rfl
 have HS0:=zH hXW0.size
 clear hr hf hsq hc hred hXW0 hn
 obtain ⟨R,hR⟩:∃ R:Ending→World→Prop,(fun e w'=>(SmallE n (fun i j=>i64Z (ct' i j))∧∃ g r gM cap hM,e = .returned (.tuple #[.slice (some ⟨g,0,none⟩) n n,.agg #[.slice (some ⟨gM,0,none⟩) n cap],.int .i64 0])∧NRows w' w.heap.size g n n r (fun i j=>i64Z (ct' i j))∧n≤cap∧MatZ w' w.heap.size gM n hM (fun i j=>ct' (n+i) j)∧Ext w w') ∨
   (¬ SmallE n (fun i j=>i64Z (ct' i j))∧e = .returned (.tuple #[.slice none 0 0,.agg #[.slice none 0 0],.int .i64 3])∧Ext w w'))=R:=⟨_,rfl⟩
 rw [hR]
 have HR:=zH hR
 clear hR
 go_enter Tryz.func138,Tryz.ntmps138
 go_wp2_with (fail)
 rw [HWW0.out]
 clear HWW0
 refine HMd.out.mono ?_
 intro e w1 hp
 obtain ⟨p,gA,gU,gL,cA,cU,bl,he,hl,hx⟩:=hp
 subst he
 replace f0:=hx.free f0 (zAA c0)
 replace c0:=hx.cell c0
 have HL:=zH hl
 have HX1:=zH (HX0.out.trans hx)
 have HK1:=zH (HK0.out.ext hx)
 have HNm:=zH (numbers_any gA n cA bl (fun i j=>ct' i j) w1 om hl.cellA (fun i hi=>(hl.rows.row i (Or.inl om)).same (by rfl) |> fun r=>by unfold latLn at r;rw [if_pos om] at r;exact r))
 have cb0:w1.cell? ⟨p,0,none⟩=some (.slice (some ⟨gA,0,none⟩) n cA):=hl.box.cell 0 rfl
 have cb1:w1.cell? ⟨p,1,none⟩=some (.slice (some ⟨gU,0,none⟩) n cU):=hl.box.cell 1 rfl
 have lb:=zAA cb0
 clear hl hx HMd HX0 HK0
 go_wp2_with (fail)
 refine HNm.out.mono ?_
 rintro e w2 ⟨g',r,rfl,hN,hx⟩
 replace f0:=hx.free f0 (zAA c0)
 replace c0:=hx.cell c0
 replace cb1:=hx.cell cb1
 have HL2:=zH (HL.out.ext hx)
 have HX2:=zH (HX1.out.trans hx)
 have HK2:=zH (HK1.out.ext hx)
 have HN:=zH hN
 have HS1:=zH HX1.out.size
 clear hN hx HNm HL HX1 HK1 cb0
 go_wp2
 go_loopg [2,26] n (fun kk v2 iv wr=>∃ i:Nat,kk+i=n∧v2 = .slice (some ⟨g',0,none⟩) n n∧iv = .int .i64 i∧Hid (∀ a b,a < i→b < n → -16384≤i64Z (ct' a b)∧i64Z (ct' a b)≤16384)∧wr=w2)
 case atStart=>exact ⟨0,by omega,rfl,rfl,fun a b ha=>by omega,rfl⟩
 obtain ⟨i,hki,rfl,rfl,HSm,rfl⟩:=hrel
 by_cases hin:i < n
 ·have cr:=HN.out.cell i hin
  have lr:=zAA cr
  go_wp2
  go_loopg [2,32] n (fun kk v2 jv wj=>∃ j:Nat,kk+j=n∧v2 = .slice (some ⟨g',0,none⟩) n n∧jv = .int .i64 j∧Hid (∀ b,b < j → -16384≤i64Z (ct' i b)∧i64Z (ct' i b)≤16384)∧wj=wr)
  case atStart=>exact ⟨0,by omega,rfl,rfl,fun b hb=>by omega,rfl⟩
  obtain ⟨j,hkj,rfl,rfl,HSj,hwj⟩:=hrel
  subst hwj
  by_cases hjn:j < n
  ·have ce:=(HN.out.row i hin).cell j hjn
   have le:=zAA ce
   obtain ⟨z,hz⟩:∃ z,i64Z (ct' i j)=z:=⟨_,rfl⟩
   rw [hz] at ce
   have HZ:=zH hz
   clear hz
   by_cases h1:16384 < z
   ·go_wp2
    exact bodyPost_ret (v:=.tuple #[.slice none 0 0,.agg #[.slice none 0 0],.int .i64 3]) (by simp [results,Tryz.results138,go_sem,c0,f0]) rfl (by
     rw [← HR.out]
     exact Or.inr ⟨fun h=>by have:=(h i j hin hjn).2;have h2:=HZ.out;simp only [] at this;omega,rfl,HX2.out.setCell (p:=⟨w.heap.size,0,none⟩) (Nat.le_refl _) _⟩)
   ·by_cases h2:z < -16384
    ·go_wp2
     exact bodyPost_ret (v:=.tuple #[.slice none 0 0,.agg #[.slice none 0 0],.int .i64 3]) (by simp [results,Tryz.results138,go_sem,c0,f0]) rfl (by
      rw [← HR.out]
      exact Or.inr ⟨fun h=>by have:=(h i j hin hjn).1;have h2:=HZ.out;simp only [] at this;omega,rfl,HX2.out.setCell (p:=⟨w.heap.size,0,none⟩) (Nat.le_refl _) _⟩)
    ·have HSn:Hid (∀ b,b < j+1 → -16384≤i64Z (ct' i b)∧i64Z (ct' i b)≤16384):=fun b hb=>by
      by_cases e:b=j
      ·subst e;have:=HZ.out;omega
      ·exact HSj.out b om
     clear HSj
     go_wp2
     go_roundg (n - (j+1))
     case measure=>omega
     case rel=>exact ⟨j+1,by omega,rfl,by go_num,HSn,rfl⟩
  ·obtain rfl:n=j:=by omega
   have HSn:Hid (∀ a b,a < i+1→b < n → -16384≤i64Z (ct' a b)∧i64Z (ct' a b)≤16384):=fun a b ha hb=>by
    by_cases e:a=i
    ·subst e;exact HSj.out b hb
    ·exact HSm.out a b om hb
   clear HSj HSm
   go_wp2
   go_roundg (n - (i+1))
   case measure=>omega
   case rel=>exact ⟨i+1,by omega,rfl,by go_num,HSn,rfl⟩
 ·obtain rfl:n=i:=by omega
  have HMk:=zH (matMake_any gU n cU (fun i=>bl (n+i)) (fun i j=>ct' (n+i) j) wr hn1 hn8 HL2.out.cellU (fun i hi=>by
   have r:=HL2.out.rows.row (n+i) (Or.inl om)
   unfold latLn at r;rw [if_pos om] at r;exact r))
  have lb2:=zAA cb1
  go_wp2_with (fail)
  refine HMk.out.mono ?_
  rintro e w3 ⟨gM,cap,hM,rfl,hcap,hm,hx⟩
  replace f0:=hx.free f0 (zAA c0)
  replace c0:=hx.cell c0
  have HX3:=zH (HX2.out.trans hx)
  have HN3:=zH (HN.out.ext hx)
  have HK3:=zH (HK2.out.ext hx)
  have HM3:=zH hm
  have HS2:=zH HX2.out.size
  clear hm hx HMk HL2 HX2 HN HK2
  go_wp2
  obtain ⟨W4,hW4⟩:∃ W4,w3.setCell ⟨w.heap.size,0,none⟩ (.slice (some ⟨gM,0,none⟩) n cap)=W4:=⟨_,rfl⟩
  have c4:W4.cell? ⟨w.heap.size,0,none⟩=some (.slice (some ⟨gM,0,none⟩) n cap):=by rw [← hW4];exact setc c0
  have f4:W4.frozen? ⟨w.heap.size,0,none⟩=false:=by rw [← hW4,World.frozen?_setCell];exact f0
  have HX4:Hid (Ext w W4):=by rw [← hW4];exact HX3.out.setCell (p:=⟨w.heap.size,0,none⟩) (Nat.le_refl _) _
  have HN4:Hid (NRows W4 w.heap.size g' n n r (fun i j=>i64Z (ct' i j))):=by
   rw [← hW4]
   have t:=HK3.out.typ
   have h3:=HN3.out
   exact ⟨fun a ha=>(zAJ (h3.typ.ne t (by decide))).trans (h3.cell a ha),fun a h1 h2=>by omega,fun a ha=>(h3.row a ha).far ((h3.row a ha).typ.ne t (by decide)) _,fun a=>(World.frozen?_setCell _ _ _ _).trans (h3.free a),h3.typ.set_ _ _,Nat.le_trans HS1.out h3.low,fun a ha=>Nat.le_trans HS1.out (h3.lowr a ha)⟩
  have HM4:Hid (MatZ W4 w.heap.size gM n hM (fun i j=>ct' (n+i) j)):=by
   rw [← hW4]
   have h2:=HM3.out.farB HK3.out.typ (by decide) (by decide) (by decide) (o:=0) (.slice (some ⟨gM,0,none⟩) n cap)
   exact ⟨h2.rows,h2.row,h2.inj,fun i hi=>Nat.le_trans HS2.out (h2.low i hi),Nat.le_trans HS2.out h2.glow,h2.typ⟩
  have HK4:Hid (Blk W4 w.heap.size 81 #[.slice (some ⟨gM,0,none⟩) n cap]):=by rw [← hW4];exact HK3.out.set 0 _
  rw [hW4]
  have l4:=zAA c4
  simp only at l4
  clear hW4 HX3 HN3 HM3 HK3 c0 f0
  go_upto_region 16 with (fail)
  have HKeepT:=zH (fun (w':World) (hx:Ext W4 w')=>(show w'.cell? ⟨w.heap.size,0,none⟩=some (.slice (some ⟨gM,0,none⟩) n cap) from hx.cell c4))
  refine rU HKeepT [3,4] [] 5 (fun hH hC=>?_)
  revert hC
  refine tk 0 5 hH ?_
  refine tk 1 5 hH ?_
  refine tk 2 5 hH ?_
  intro hC
  refine zAB hC (i:=3) Sg kr (fun K hK=>?_)
  go_simp
  refine hK.out _ _ (fun h=>by cases h) (fun hCn=>?_)
  clear hK K hC
  have hC:=hCn
  clear hCn
  try simp only [Act.put,sA,sB,sC]
  refine zAB hC (i:=4) Sg kr (fun K hK=>?_)
  go_simp
  refine hK.out _ _ (fun h=>by cases h) (fun hCn=>?_)
  clear hK K hC
  have hC:=hCn
  clear hCn
  try simp only [Act.put,sA,sB,sC]
  refine zAD kr ?_ _
  clear hC HKeepT
  try clear hH
  have e16:(W4.setCell ⟨w.heap.size,0,none⟩ (.slice (some ⟨gM,0,none⟩) n cap)).drew.cell? ⟨w.heap.size,0,none⟩=some (.slice (some ⟨gM,0,none⟩) n cap):=setc c4
  go_wp2
  exact bodyPost_ret (v:=.tuple #[.slice (some ⟨g',0,none⟩) n n,.agg #[.slice (some ⟨gM,0,none⟩) n cap],.int .i64 0]) (by simp [results,Tryz.results138,go_sem,c4,f4]) rfl (by
   rw [← HR.out]
   have t:=HK4.out.typ
   have h3:=HN4.out
   refine Or.inl ⟨fun i j hi hj=>HSm.out i j hi hj,g',r,gM,cap,hM,rfl,?_,hcap,?_,?_⟩
   ·exact ⟨fun a ha=>(zAJ (h3.typ.ne t (by decide))).trans (h3.cell a ha),fun a h1 h2=>by omega,fun a ha=>(h3.row a ha).far ((h3.row a ha).typ.ne t (by decide)) _ |>.ext (Ext.refl _).drew,fun a=>(World.frozen?_setCell _ _ _ _).trans (h3.free a),h3.typ.set_ _ _,h3.low,h3.lowr⟩
   ·exact (HM4.out.farB t (by decide) (by decide) (by decide) _).ext (Ext.refl _).drew
   ·exact (HX4.out.setCell (p:=⟨w.heap.size,0,none⟩) (Nat.le_refl _) _).drew)
def smallE (n:Nat) (f:Nat→Nat→Int):Bool:=(List.range n).all fun i=>(List.range n).all fun j=>decide (-16384≤f i j∧f i j≤16384)
theorem zCf {n:Nat} {f:Nat→Nat→Int}:smallE n f=true↔SmallE n f:=by
 unfold smallE SmallE
 simp only [List.all_eq_true,List.mem_range,decide_eq_true_eq]
 exact ⟨fun h i j hi hj=>h i hi j hj,fun h i hi j hj=>h i j hi hj⟩
def basR (n:Nat) (rows:List (List Int)) (ct:Nat→Nat→Int):List (List Int):=if smallE n (fun i j=>i64Z (ct i j))=true then rowsOf n (fun i j=>i64Z (ct i j)) else rows
def basU (n:Nat) (ct:Nat→Nat→Int):Nat→Nat→Int:=if smallE n (fun i j=>i64Z (ct i j))=true then fun i j=>ct (n+i) j else unitM
set_option maxHeartbeats 4000000 in
set_option maxRecDepth 100000 in
theorem shortBasis_any (A:Option Addr) (n c:Nat) (rows:List (List Int)) (w:World) (ct':Nat→Nat→Int) (fuel:Nat) (hn:n=rows.length) (hn1:1≤n) (hn8:n≤16) (hr:IsRows w A rows) (hf:Fit64 rows) (hsq:∀ l∈rows,l.length=n) (hc:chk rows=0)
  (hred:redP n fuel 1 (partsP n (newC n (entry rows)) 0 n)=some ct') :
  Calls Tryz.prog 97 #[.slice A n c] w fun e w'=>∃ R cR gM cap hM,e = .returned (.tuple #[.slice R n cR,.agg #[.slice (some ⟨gM,0,none⟩) n cap]])∧IsRows w' R (basR n rows ct')∧n≤cap∧MatZ w' w.heap.size gM n hM (basU n ct')∧Ext w w':=by
 obtain ⟨W0,HWW0,hXW0,hsW0,c0,f0⟩:=bx1 w 81 (.slice none 0 0)
 have HX0:=zH hXW0
 have HRd:=zH (lllReduce_any A n c rows W0 ct' fuel hn hn1 hn8 (hr.ext hXW0) hf hsq hc hred)
 have HK0:Hid (Blk W0 w.heap.size 81 #[.slice none 0 0]):=by rw [← HWW0.out];exact Blk.new _ _ _
 have HRo:=zH hr
 have HS0:=zH hXW0.size
 clear hr hf hsq hc hred hXW0 hn
 go_enter Tryz.func97,Tryz.ntmps97
 go_wp2_with (fail)
 rw [HWW0.out]
 clear HWW0
 refine HRd.out.mono ?_
 rintro e y1 (⟨hs,g,r,gM,cap,hM,rfl,hN,hcap,hm,hx⟩|⟨hs,rfl,hx⟩)
 ·skip
  have HBs:Hid (basR n rows ct'=rowsOf n (fun i j=>i64Z (ct' i j))∧basU n ct'=fun i j=>ct' (n+i) j):=by
   have:=zCf.2 hs
   exact ⟨if_pos this,if_pos this⟩
  replace f0:=hx.free f0 (zAA c0)
  replace c0:=hx.cell c0
  have HX1:=zH (HX0.out.trans hx)
  have HK1:=zH (HK0.out.ext hx)
  have HN1:=zH hN
  have HM1:=zH hm
  have HS1:=zH (Nat.le_trans HS0.out hx.size)
  clear hs hx hN hm HRd HX0 HK0
  go_upto_region 5 with (fail)
  obtain ⟨W4,hW4⟩:∃ W4,y1.alloc (.cells #[.slice (some ⟨gM,0,none⟩) n cap] 81)=W4:=⟨_,rfl⟩
  have h14:Ext y1 W4:=by rw [← hW4];exact (Ext.refl _).alloc _
  have HX14:=zH h14
  have c5:W4.cell? ⟨y1.heap.size,0,none⟩=some (.slice (some ⟨gM,0,none⟩) n cap):=by rw [← hW4];exact (Blk.new y1 81 #[.slice (some ⟨gM,0,none⟩) n cap]).cell 0 rfl
  have c3:=h14.cell c0
  have f3:=h14.free f0 (zAA c0)
  obtain ⟨b5,hb5⟩:∃ b,y1.heap.size=b:=⟨_,rfl⟩
  have hne:w.heap.size < b5:=by have:=HS1.out;have:=zAA c0;simp only at this;omega
  rw [hb5] at c5
  rw [hW4,hb5]
  have l3:=zAA c3
  have l5:=zAA c5
  simp only at l3 l5
  clear hW4 h14 hb5 c0 f0
  go_upto_region 5 with (fail)
  have HKeepT:=zH (fun (w':World) (hx:Ext W4 w')=>(show w'.cell? ⟨w.heap.size,0,none⟩=some (.slice none 0 0)∧w'.cell? ⟨b5,0,none⟩=some (.slice (some ⟨gM,0,none⟩) n cap) from ⟨hx.cell c3,hx.cell c5⟩))
  refine rU HKeepT [3] [] 4 (fun hH hC=>?_)
  revert hC
  refine tk 0 4 hH ?_
  refine tk 1 4 hH ?_
  refine tk 2 4 hH ?_
  intro hC
  refine zAB hC (i:=3) Sg kr (fun K hK=>?_)
  go_simp
  refine hK.out _ _ (fun h=>by cases h) (fun hCn=>?_)
  clear hK K hC
  have hC:=hCn
  clear hCn
  try simp only [Act.put,sA,sB,sC]
  refine zAD kr ?_ _
  clear hC HKeepT
  try clear hH
  go_wp2
  exact bodyPost_ret (v:=.tuple #[.slice (some ⟨g,0,none⟩) n n,.agg #[.slice (some ⟨gM,0,none⟩) n cap]]) (by simp [results,Tryz.results97,go_sem,c3,f3]) rfl ⟨some ⟨g,0,none⟩,n,gM,cap,hM,rfl,by
   rw [HBs.out.1]
   have t:=(HK1.out.ext HX14.out).typ
   have h3:=HN1.out.ext HX14.out
   exact NRows.is (lo:=0) ⟨fun a ha=>(zAJ (h3.typ.ne t (by decide))).trans (h3.cell a ha),fun a h1 h2=>by omega,fun a ha=>((h3.row a ha).far ((h3.row a ha).typ.ne t (by decide)) _).ext (Ext.refl _).drew,fun a=>(World.frozen?_setCell _ _ _ _).trans (h3.free a),h3.typ.set_ _ _,Nat.zero_le _,fun a ha=>Nat.zero_le _⟩,hcap,by
   rw [HBs.out.2]
   have h2:=((HM1.out.ext HX14.out).farB (HK1.out.ext HX14.out).typ (by decide) (by decide) (by decide) (o:=0) (.slice (some ⟨gM,0,none⟩) n cap)).ext (Ext.refl _).drew
   exact ⟨h2.rows,h2.row,h2.inj,fun i hi=>Nat.le_trans HS0.out (h2.low i hi),Nat.le_trans HS0.out h2.glow,h2.typ⟩,((HX1.out.trans HX14.out).setCell (p:=⟨w.heap.size,0,none⟩) (Nat.le_refl _) _).drew⟩
 ·have HBs:Hid (basR n rows ct'=rows∧basU n ct'=unitM):=by
   have:¬ smallE n (fun i j=>i64Z (ct' i j))=true:=fun h=>hs (zCf.1 h)
   exact ⟨if_neg this,if_neg this⟩
  replace f0:=hx.free f0 (zAA c0)
  replace c0:=hx.cell c0
  have HX1:=zH (HX0.out.trans hx)
  have HK1:=zH (HK0.out.ext hx)
  have HS1:=zH (Nat.le_trans HS0.out hx.size)
  have HId:=zH (fun W=>ident_any n W hn1 hn8)
  clear hs hx HRd HX0 HK0
  go_wp2_with (fail)
  obtain ⟨W4,hW4⟩:∃ W4,y1.alloc (.cells #[.slice none 0 0] 81)=W4:=⟨_,rfl⟩
  have h14:Ext y1 W4:=by rw [← hW4];exact (Ext.refl _).alloc _
  have HX14:=zH h14
  have HK5:Hid (Blk W4 y1.heap.size 81 #[.slice none 0 0]):=by rw [← hW4];exact Blk.new _ _ _
  have c3:=h14.cell c0
  have f3:=h14.free f0 (zAA c0)
  obtain ⟨b5,hb5⟩:∃ b,y1.heap.size=b:=⟨_,rfl⟩
  have hne:w.heap.size < b5:=by have:=HS1.out;have:=zAA c0;simp only at this;omega
  rw [hb5] at HK5
  rw [hW4,hb5]
  clear hW4 h14 hb5 c0 f0
  refine (HId.out _).mono ?_
  rintro e y2 ⟨gM,cap,hM,rfl,hcap,hm,hx⟩
  have HX2:=zH hx
  have HK2:=zH ((HK1.out.ext HX14.out).ext hx)
  have c5:y2.cell? ⟨b5,0,none⟩=some (.slice none 0 0):=(HK5.out.ext hx).cell 0 rfl
  have f5:=(HK5.out.ext hx).free 0
  have HKb:=zH (HK5.out.ext hx)
  replace f3:=hx.free f3 (zAA c3)
  replace c3:=hx.cell c3
  have HM2:=zH hm
  have HS4:=zH (Nat.le_trans HS1.out HX14.out.size)
  clear hx hm HId HK5 HK1
  go_upto_region 4 with (fail)
  obtain ⟨W5,hW5⟩:∃ W5,y2.setCell ⟨b5,0,none⟩ (.slice (some ⟨gM,0,none⟩) n cap)=W5:=⟨_,rfl⟩
  have d5:W5.cell? ⟨b5,0,none⟩=some (.slice (some ⟨gM,0,none⟩) n cap):=by rw [← hW5];exact setc c5
  have d3:W5.cell? ⟨w.heap.size,0,none⟩=some (.slice none 0 0):=by rw [← hW5];exact (zAJ om).trans c3
  have g3:W5.frozen? ⟨w.heap.size,0,none⟩=false:=by rw [← hW5,World.frozen?_setCell];exact f3
  have HX5:Hid (Ext w W5):=by rw [← hW5];exact ((HX1.out.trans HX14.out).trans HX2.out).setCell (p:=⟨b5,0,none⟩) (by simp only [];omega) _
  have HK6:Hid (TB W5 81 w.heap.size):=by rw [← hW5];exact HK2.out.typ.set_ _ _
  have HM5:Hid (MatZ W5 w.heap.size gM n hM unitM):=by
   rw [← hW5]
   have h2:=HM2.out.farB HKb.out.typ (by decide) (by decide) (by decide) (o:=0) (.slice (some ⟨gM,0,none⟩) n cap)
   exact ⟨h2.rows,h2.row,h2.inj,fun i hi=>Nat.le_trans (by have:=HS4.out;omega) (h2.low i hi),Nat.le_trans (by have:=HS4.out;omega) h2.glow,h2.typ⟩
  rw [hW5]
  have l3:=zAA d3
  have l5:=zAA d5
  simp only at l3 l5
  clear hW5 HK2 HKb HM2 c3 f3 c5 f5 HX14 HX2 HX1
  go_upto_region 4 with (fail)
  have HKeepT:=zH (fun (w':World) (hx:Ext W5 w')=>(show w'.cell? ⟨w.heap.size,0,none⟩=some (.slice none 0 0)∧w'.cell? ⟨b5,0,none⟩=some (.slice (some ⟨gM,0,none⟩) n cap) from ⟨hx.cell d3,hx.cell d5⟩))
  refine rU HKeepT [3] [] 4 (fun hH hC=>?_)
  revert hC
  refine tk 0 4 hH ?_
  refine tk 1 4 hH ?_
  refine tk 2 4 hH ?_
  intro hC
  refine zAB hC (i:=3) Sg kr (fun K hK=>?_)
  go_simp
  refine hK.out _ _ (fun h=>by cases h) (fun hCn=>?_)
  clear hK K hC
  have hC:=hCn
  clear hCn
  try simp only [Act.put,sA,sB,sC]
  refine zAD kr ?_ _
  clear hC HKeepT
  try clear hH
  go_wp2
  exact bodyPost_ret (v:=.tuple #[.slice A n c,.agg #[.slice (some ⟨gM,0,none⟩) n cap]]) (by simp [results,Tryz.results97,go_sem,d3,g3]) rfl ⟨A,c,gM,cap,hM,rfl,by
   rw [HBs.out.1]
   exact HRo.out.ext ((HX5.out.setCell (p:=⟨w.heap.size,0,none⟩) (Nat.le_refl _) _).drew),hcap,by
   rw [HBs.out.2]
   exact (HM5.out.farB HK6.out (by decide) (by decide) (by decide) _).ext (Ext.refl _).drew,(HX5.out.setCell (p:=⟨w.heap.size,0,none⟩) (Nat.le_refl _) _).drew⟩
end Go.Proofs.YtdkgilioejdmeaaGreat
namespace Go.Proofs.YtdkgilioejdmeaaGreat
theorem chk_of {rows:List (List Int)} {n:Nat} (hn:rows.length=n) (hn1:1≤n) (hsq:∀ l∈rows,l.length=n) (hS:Start n (entry rows)):chk rows=0:=by
 subst hn
 have hin:∀ i l j z,rows[i]? = some l→l[j]? = some z→i < rows.length∧j < rows.length∧z=entry rows i j:=by
  intro i l j z hl hz
  obtain ⟨h1,e1⟩:=List.getElem?_eq_some_iff.1 hl
  have h2:=hsq l (by rw [← e1];exact List.getElem_mem h1)
  have h3:=(List.getElem?_eq_some_iff.1 hz).1
  refine ⟨h1,by omega,?_⟩
  unfold entry;rw [hl,Option.getD_some,hz,Option.getD_some]
 unfold chk
 rw [if_neg (by have:=hS.dim;omega),if_neg (fun ⟨l,hl,h⟩=>h (hsq l hl))]
 have h1:eachB smallP rows=true:=zAw.2 fun i l hl j z hz=>by
  obtain ⟨a,b,rfl⟩:=hin i l j z hl hz
  have:=hS.small i j a b
  simp only [smallP,smallB,decide_eq_true_eq,Bool.and_eq_true]
  omega
 have h2:eachB (mirrorB rows) rows=true:=zAw.2 fun i l hl j z hz=>by
  obtain ⟨a,b,rfl⟩:=hin i l j z hl hz
  unfold mirrorB
  simp only [beq_iff_eq]
  exact hS.pd.sym i j a b
 have h3:posB rows.length (entry rows)=true:=(posB_det (n:=rows.length) (A:=entry rows) hS.small hS.dim).2 fun k hk=>hS.pd.cor k hk
 rw [h1,h2,h3]
 simp
theorem bf_congr {n:Nat} {a a':Nat→Nat→Int} {x x' y y':Nat→Int} (ha:∀ i j,i < n→j < n→a i j=a' i j) (hx:∀ i,i < n→x i=x' i) (hy:∀ i,i < n→y i=y' i):bf n a x y=bf n a' x' y':=by
 unfold bf
 exact zAC fun i hi=>by rw [hx i hi,zAC fun j hj=>by rw [ha i j hi hj,hy j hj]]
theorem PD.congr {n:Nat} {a a':Nat→Nat→Int} (h:PD n a) (e:∀ i j,i < n→j < n→a i j=a' i j):PD n a' :=
 ⟨fun i j hi hj=>by rw [← e i j hi hj,← e j i hj hi];exact h.sym i j hi hj,fun k hk=>by rw [← zAI (M:=a) fun i j hi hj=>e i j om om];exact h.cor k hk⟩
theorem rowsOf_sq {n:Nat} {f:Nat→Nat→Int}:∀ l∈rowsOf n f,l.length=n:=by
 intro l hl
 unfold rowsOf at hl
 obtain ⟨a,_,rfl⟩:=List.mem_map.1 hl
 simp
theorem basis_in {rows:List (List Int)} (hc:chk rows=0):∃ fuel ct' V,redP rows.length fuel 1 (partsP rows.length (newC rows.length (entry rows)) 0 rows.length)=some ct' ∧
  InBasis rows.length (entry rows) (entry (basR rows.length rows ct')) (basU rows.length ct') V∧chk (basR rows.length rows ct')=0∧(basR rows.length rows ct').length=rows.length∧∀ l∈basR rows.length rows ct',l.length=rows.length:=by
 obtain ⟨hn1,h8,hsq,_,_,_⟩:=zCp hc
 have hS:=zC2 hc
 obtain ⟨fuel,ct',a,u,v,hred,hR,hsr⟩:=red_ex hS hn1
 generalize hn:rows.length=n at *
 refine ⟨fuel,ct',?_⟩
 by_cases hb:smallE n (fun i j=>i64Z (ct' i j))=true
 ·have hsm:=zCf.1 hb
  have he:∀ i j,i < n→j < n→i64Z (ct' i j)=a i j:=fun i j hi hj=>by
   rw [hR.ok.lat.A i j hi hj]
   have h1:=entry_sz hR.pd hi hj (sr_nm hR.pd hR.grow h8 hi (hsr i hi)) (sr_nm hR.pd hR.grow h8 hj (hsr j hj))
   have e2:(2:Nat) ^ (8+8)=65536:=rfl
   unfold i64Z;rw [if_pos om]
  have hent:∀ i j,i < n→j < n→entry (basR n rows ct') i j=a i j:=fun i j hi hj=>by
   unfold basR;rw [if_pos hb,rowsOf_entry hi hj];exact he i j hi hj
  have hU:∀ i j,i < n→j < n→basU n ct' i j=u i j:=fun i j hi hj=>by unfold basU;rw [if_pos hb];exact hR.ok.U i j hi hj
  have hSf:Start n (entry (basR n rows ct')):=⟨hR.pd.congr fun i j hi hj=>(hent i j hi hj).symm,fun i j hi hj=>by
   rw [hent i j hi hj,← he i j hi hj]
   have:=hsm i j hi hj
   simp only [] at this
   omega,h8⟩
  have hgram:∀ i j,i < n→j < n→entry (basR n rows ct') i j=bf n (entry rows) (basU n ct' i) (basU n ct' j):=fun i j hi hj=>by
   rw [hent i j hi hj,hR.gram i j hi hj]
   exact bf_congr (fun _ _ _ _=>rfl) (fun t ht=>(hU i t hi ht).symm) (fun t ht=>(hU j t hj ht).symm)
  have hlen:(basR n rows ct').length=n:=by unfold basR;rw [if_pos hb];exact rowsOf_len n _
  have hsq2:∀ l∈basR n rows ct',l.length=n:=by unfold basR;rw [if_pos hb];exact rowsOf_sq
  refine ⟨v,hred,⟨hSf,hgram,fun i j hi hj=>?_,fun i j hi hj=>?_⟩,chk_of hlen hn1 hsq2 hSf,hlen,hsq2⟩
  ·rw [← hR.inv i j hi hj]
   exact zAC fun k hk=>by rw [hU k j hk hj]
  ·refine in_fit hS hj ?_
   have h1:=hgram i i hi hi
   have h2:=hSf.small i i hi hi
   show bf n (entry rows) (basU n ct' i) (basU n ct' i)≤16384
   rw [← h1];omega
 ·have e1:basR n rows ct'=rows:=by unfold basR;rw [if_neg hb]
  have e2:basU n ct'=unitM:=by unfold basU;rw [if_neg hb]
  rw [e1,e2]
  refine ⟨unitM,hred,⟨hS,fun i j hi hj=>(bf_unit _ hi hj).symm,fun i j hi hj=>?_,fun i j hi hj=>?_⟩,hc,hn,hsq⟩
  ·rw [zBL (k:=i) hi (fun k hk hne=>by unfold unitM;rw [if_neg hne,Int.zero_mul])]
   unfold unitM
   rw [if_pos rfl,Int.one_mul]
   by_cases e:i=j
   ·rw [if_pos e,if_pos e.symm]
   ·rw [if_neg e,if_neg (Ne.symm e)]
  ·unfold unitM;split <;> omega
end Go.Proofs.YtdkgilioejdmeaaGreat
namespace Go.Proofs.YtdkgilioejdmeaaGreat
open Go.RowKit
theorem bf_rows_left (n:Nat) (a:Nat→Nat→Int) (x:Nat→Int) (U:Nat→Nat→Int) (z:Nat→Int):bf n a (fun k=>sm n fun i=>x i*U i k) z=sm n fun i=>x i*bf n a (U i) z:=by
 unfold bf
 have e1:(sm n fun i=>(sm n fun i_1=>x i_1*U i_1 i)*sm n fun j=>a i j*z j)=sm n fun i=>sm n fun t=>x t*(U t i*sm n fun j=>a i j*z j):=zAC fun i hi=>by
  rw [Int.mul_comm,← zAY]
  exact zAC fun t ht=>by grind
 rw [e1,zCG]
 exact zAC fun t ht=>by rw [zAY]
theorem bf_rows_right (n:Nat) (a:Nat→Nat→Int) (x:Nat→Int) (U:Nat→Nat→Int) (z:Nat→Int):bf n a z (fun k=>sm n fun i=>x i*U i k)=sm n fun i=>x i*bf n a z (U i):=by
 unfold bf
 have e1:(sm n fun i=>z i*sm n fun j=>a i j*sm n fun i=>x i*U i j)=sm n fun i=>sm n fun t=>x t*(z i*sm n fun j=>a i j*U t j):=zAC fun i hi=>by
  rw [← zAY]
  have:(sm n fun j=>z i*(a i j*sm n fun t=>x t*U t j))=sm n fun j=>sm n fun t=>z i*(a i j*(x t*U t j)):=zAC fun j hj=>by rw [← zAY,← zAY]
  rw [this,zCG]
  refine zAC fun t ht=>?_
  rw [← zAY,← zAY]
  exact zAC fun j hj=>by grind
 rw [e1,zCG]
 exact zAC fun t ht=>by rw [zAY]
theorem InBasis.norm {n:Nat} {a0 f U V:Nat→Nat→Int} (B:InBasis n a0 f U V) (x:Nat→Int):qf n f x=qf n a0 (fun k=>sm n fun i=>x i*U i k):=by
 show qf n f x=bf n a0 _ _
 rw [bf_rows_left]
 show bf n f x x=_
 unfold bf
 refine zAC fun i hi=>?_
 rw [show (sm n fun i_1=>U i i_1*sm n fun j=>a0 i_1 j*sm n fun i=>x i*U i j)=bf n a0 (U i) (fun k=>sm n fun i=>x i*U i k) from rfl,bf_rows_right]
 congr 1
 refine zAC fun j hj=>?_
 rw [B.gram i j hi hj]
 exact Int.mul_comm _ _
theorem zBz {n:Nat} {f:Nat→Nat→Int} {x y:Nat→Int} (h:∀ i,i < n→x i=y i):qf n f x=qf n f y:=bf_congr (fun _ _ _ _=>rfl) h h
theorem InBasis.inj {n:Nat} {a0 f U V:Nat→Nat→Int} (B:InBasis n a0 f U V) {x y:Nat→Int} (h:∀ k,k < n→(sm n fun i=>x i*U i k)=sm n fun i=>y i*U i k):∀ i,i < n→x i=y i:=by
 intro i hi
 have h0:qf n f (fun i=>x i - y i)=0:=by
  rw [B.norm]
  have:qf n a0 (fun k=>sm n fun i=>(x i - y i)*U i k)=qf n a0 (fun _=>0):=zBz fun k hk=>by
   have:=h k hk
   have e:=sm_sub n (fun i=>x i*U i k) (fun i=>y i*U i k)
   have e2:(sm n fun i=>(x i - y i)*U i k)=sm n fun i=>x i*U i k - y i*U i k:=zAC fun i hi=>by grind
   rw [e2,e];omega
  rw [this]
  exact zA5 fun i hi=>Int.zero_mul _
 have h1:=B.start.pd.coord (B:=16384) (fun i c hi hc=>B.start.small i c hi hc) (fun i=>x i - y i) hi
 rw [h0,Int.zero_mul] at h1
 have h2:(x i - y i)*(x i - y i)=0:=by have:=zAi (x i - y i);omega
 rcases Int.mul_eq_zero.1 h2 with h3|h3 <;> omega
theorem told_all {D:ItD} {a0 V:Nat→Nat→Int} (B:InBasis D.n a0 D.f D.U V) {x:Nat→Int} {M:List (List Int)} (h:Lists D.n D.f D.nb D.n x M):Told D.n a0 D.nb (M.map (told D)):=by
 have hn:∀ v,qf D.n a0 (vat (told D v).1)=qf D.n D.f (vat v):=fun v=>by
  rw [B.norm]
  exact zBz fun k hk=>zAv hk
 refine ⟨?_,fun y z=>?_⟩
 ·rw [List.map_map,List.Nodup,List.pairwise_map]
  refine List.Pairwise.imp_of_mem (fun {v u} hv hu hne e=>hne ?_) h.once
  have h1:=(h.mem v).1 hv
  have h2:=(h.mem u).1 hu
  refine vec_ext h1.1 h2.1 (B.inj fun k hk=>?_)
  have:=congrArg (fun l=>vat l k) e
  simpa [told,zAv hk] using this
 ·rw [List.mem_map]
  constructor
  ·rintro ⟨v,hv,e⟩
   have h1:=(h.mem v).1 hv
   have e1:y=(told D v).1:=by rw [e]
   have e2:z=qf D.n D.f (vat v):=(congrArg Prod.snd e).symm
   refine ⟨by rw [e1];exact zBt _ _,by rw [e1,hn,e2],by rw [e2];exact h1.2.2⟩
  ·rintro ⟨hy,hz,hb⟩
   refine ⟨vec D.n fun i=>sm D.n fun k=>vat y k*V k i,?_,?_⟩
   all_goals
    have hvU:∀ j,j < D.n→(sm D.n fun i=>vat (vec D.n fun i=>sm D.n fun k=>vat y k*V k i) i*D.U i j)=vat y j:=fun j hj=>by
     have e1:(sm D.n fun i=>vat (vec D.n fun i=>sm D.n fun k=>vat y k*V k i) i*D.U i j)=sm D.n fun i=>sm D.n fun k=>vat y k*(V k i*D.U i j):=zAC fun i hi=>by
      rw [zAv hi,Int.mul_comm,← zAY]
      exact zAC fun k hk=>by grind
     rw [e1,zCG]
     have e2:(sm D.n fun j_1=>sm D.n fun i=>vat y j_1*(V j_1 i*D.U i j))=sm D.n fun k=>vat y k*(if k=j then 1 else 0):=zAC fun k hk=>by rw [zAY,B.inv k j hk hj]
     rw [e2,zBL hj (fun i hi hne=>by rw [if_neg hne,Int.mul_zero]),if_pos rfl,Int.mul_one]
    have hq:qf D.n D.f (vat (vec D.n fun i=>sm D.n fun k=>vat y k*V k i))=z:=by
     rw [B.norm,hz];exact zBz hvU
   ·rw [h.mem]
    exact ⟨zBt _ _,fun i h1 h2=>by omega,by rw [hq];exact hb⟩
   ·refine Prod.ext ?_ hq
    exact vec_ext (zBt _ _) hy fun k hk=>by
     show vat (vec _ _) k=_
     rw [zAv hk];exact hvU k hk
theorem good_tell {D:ItD} {a0 V:Nat→Nat→Int} (B:InBasis D.n a0 D.f D.U V) {pre:List (List Int × Int)} (h:GoodP D pre):TellOK D.n a0 D.nb pre:=by
 obtain ⟨P,rfl,h1,h2⟩:=h
 refine ⟨?_,fun p hp=>?_⟩
 ·rw [List.map_map,List.Nodup,List.pairwise_map]
  refine List.Pairwise.imp_of_mem (fun {v u} hv hu hne e=>hne ?_) h1
  refine vec_ext (h2 v hv).1 (h2 u hu).1 (B.inj fun k hk=>?_)
  have:=congrArg (fun l=>vat l k) e
  simpa [told,zAv hk] using this
 ·obtain ⟨v,hv,rfl⟩:=List.mem_map.1 hp
  refine ⟨zBt _ _,?_,(h2 v hv).2⟩
  show qf D.n D.f (vat v)=_
  rw [B.norm]
  exact zBz fun k hk=>(zAv (x:=fun k=>sm D.n fun i=>vat v i*D.U i k) hk).symm
theorem Cons.imp {G H:List (List Int × Int)→Prop} {lp X n:Nat} {J:List (List Int × Int)→World→Prop} {Jx:World→Prop} (h:Cons H lp X n J Jx) (e:∀ pre,G pre→H pre):Cons G lp X n J Jx :=
 ⟨h.abide,fun m pre v z b w0 w hG=>h.round m pre v z b w0 w (e _ hG),h.stay⟩
set_option exponentiation.threshold 5000
section
variable {n:Nat} {f:Nat→Nat→Int}
theorem Yr_upd (h:Start n f) {r:Nat} (hr:r < n) (x:Nat→Int) (z:Int):Yr n f r (upd x r z)=det (r+1) f*z+Nr n f r x:=by
 rw [zCo h.pd hr,Nr_congr (y:=x) fun i hi _=>by unfold upd;rw [if_neg om]]
 unfold upd;rw [if_pos rfl]
theorem Qr_upd (h:Start n f) {r:Nat} (hr:r < n) (x:Nat→Int) (z:Int):Qr n f (r+1) (upd x r z)=Qr n f (r+1) x :=
 zCn h.pd om fun i hi _=>by unfold upd;rw [if_neg om]
theorem zB0 (x:Nat→Int) (r:Nat) (z:Int):upd x r z r=z:=if_pos rfl
theorem upd_other (x:Nat→Int) {r i:Nat} (z:Int) (h:i≠r):upd x r z i=x i:=if_neg h
theorem vec_within (h:Start n f) {r:Nat} (hr:r < n) {x:Nat→Int} {nb:Int} {v:List Int} (hf:∀ i,r < i→i < n→vat v i=x i) (hq:qf n f (vat v)≤nb) :
  (det (r+1) f*vat v r+Nr n f r x)*(det (r+1) f*vat v r+Nr n f r x)≤det r f*(nb*det (r+1) f - Qr n f (r+1) x):=by
 have h1:=(step_in h hr (vat v) nb).2 (step_all h hq r om)
 rw [zCo h.pd hr,Nr_congr (y:=x) fun i hi hin=>hf i hi hin,zCn (y:=x) h.pd om fun i hi hin=>hf i hi hin] at h1
 exact h1
theorem not_within (h:Start n f) {r:Nat} (hr:r < n) {x:Nat→Int} {nb z:Int} (hz:¬ Qr n f r (upd x r z)≤nb*det r f) :
  ¬ (det (r+1) f*z+Nr n f r x)*(det (r+1) f*z+Nr n f r x)≤det r f*(nb*det (r+1) f - Qr n f (r+1) x):=by
 intro h1
 refine hz ((step_in h hr (upd x r z) nb).1 ?_)
 rw [Yr_upd h hr,Qr_upd h hr];exact h1
def midOf (n:Nat) (f:Nat→Nat→Int) (r:Nat) (x:Nat→Int):Int:=nearF (-Nr n f r x) (det (r+1) f).natAbs
theorem up_done (h:Start n f) {r:Nat} (hr:r < n) {x:Nat→Int} {nb z:Int} {L:List (List Int)} (hz:¬ Qr n f r (upd x r z)≤nb*det r f) (hm:midOf n f r x≤z)
  (hL:ListsS n f nb r x (fun u=>midOf n f r x≤u∧u < z) L):ListsS n f nb r x (fun u=>midOf n f r x≤u) L:=by
 obtain ⟨p1,q1⟩:=h.dpos (show r+1≤n by omega)
 refine hL.congr (fun _ _ _=>rfl) fun v hv hf hq=>⟨fun h1=>h1.1,fun h1=>⟨h1,?_⟩⟩
 refine Int.lt_of_not_ge fun h2=>not_within h hr hz ?_
 have h3:=vec_within h hr hf hq
 rw [← q1] at h3 ⊢
 exact scan_up p1 h3 hm h2
theorem down_done (h:Start n f) {r:Nat} (hr:r < n) {x:Nat→Int} {nb z:Int} {L:List (List Int)} (hz:¬ Qr n f r (upd x r z)≤nb*det r f) (hm:z≤midOf n f r x - 1)
  (hL:ListsS n f nb r x (fun u=>midOf n f r x≤u∨z < u) L):ListsS n f nb r x (fun _=>True) L:=by
 obtain ⟨p1,q1⟩:=h.dpos (show r+1≤n by omega)
 refine hL.congr (T:=fun _=>True) (fun _ _ _=>rfl) fun v hv hf hq=>⟨fun _=>trivial,fun _=>?_⟩
 refine Classical.byContradiction fun h2=>not_within h hr hz ?_
 have h3:=vec_within h hr hf hq
 rw [← q1] at h3 ⊢
 exact scan_down p1 h3 hm om
theorem within_sz (h:Start n f) {r:Nat} (hr:r < n) {x:Nat→Int} {nb z:Int} (hq:Qr n f r (upd x r z)≤nb*det r f) (hb:nb≤4096) (hnb:0≤nb):z.natAbs < 2 ^ 62:=by
 have:=x_sz h (show r≤n by omega) hq hb hnb hr (Nat.le_refl r)
 rwa [zB0] at this
theorem mid_sz (h:Start n f) {r:Nat} (hr:r < n) {x:Nat→Int} {nb:Int} (hq:Qr n f (r+1) x≤nb*det (r+1) f) (hb:nb≤4096) (hnb:0≤nb):(midOf n f r x).natAbs≤2 ^ 62∧(-Nr n f r x / (((det (r+1) f).natAbs:Nat):Int)+1).natAbs < 2 ^ 4096 :=
 near_sz (h.dpos (show r+1≤n by omega)).1 (Nr_sz h hr hq hb hnb)
theorem Nk_sz (h:Start n f) {r k:Nat} (hr:r < n) (hk:k≤n) {x:Nat→Int} {nb:Int} (hq:Qr n f (r+1) x≤nb*det (r+1) f) (hb:nb≤4096) (hnb:0≤nb):(Nk f r k x).natAbs≤2 ^ 200:=by
 have h1:(Nk f r k x).natAbs≤k*(2 ^ 62*2 ^ 130):=sm_bound fun i hi=>by
  show (if r < i then x i*dmin f r i r else 0:Int).natAbs≤_
  by_cases h2:r < i
  ·rw [if_pos h2,Int.natAbs_mul]
   have h3:=x_sz h (show r+1≤n by omega) hq hb hnb (show i < n by omega) om
   have h4:=h.msz hr (show i < n by omega) hr
   exact Nat.mul_le_mul om (Nat.le_trans h4 (Nat.pow_le_pow_right om om))
  ·rw [if_neg h2];exact Nat.zero_le _
 have h8:=h.dim
 have h2:k*(2 ^ 62*2 ^ 130)≤8*(2 ^ 62*2 ^ 130):=Nat.mul_le_mul_right _ om
 rw [← Nat.pow_add] at h1 h2
 refine Nat.le_trans (Nat.le_trans h1 h2) ?_
 rw [show (8:Nat)=2 ^ 3 from rfl,← Nat.pow_add]
 exact Nat.pow_le_pow_right om om
theorem st_mul (h:Start n f) {r i:Nat} (hri:r < i) (hi:i < n) {x:Nat→Int} {nb:Int} (hq:Qr n f (r+1) x≤nb*det (r+1) f) (hb:nb≤4096) (hnb:0≤nb) (w:World) (na nc:Bool) (A B C E:Option Addr) (k m j l:Nat)
  (h1:IsQ w na A k B m (x i) 1) (h2:IsQ w nc C j E l (dmin f r i r) (det (r+1) f).natAbs) :
  Calls Tryz.prog 102 #[.agg #[.bool na,.slice A k k,.slice B m m],.agg #[.bool nc,.slice C j j,.slice E l l]] w fun e w'=>∃ n' A' k' B' m',e = .returned (.tuple #[.agg #[.bool n',.slice A' k' k',.slice B' m' m'],.int .i64 0])∧IsQ w' n' A' k' B' m' (x i*dmin f r i r) (det (r+1) f).natAbs∧Ext w w':=by
 have b2:=h.dsz (show r+1≤n by omega)
 have h3:=x_sz h (show r+1≤n by omega) hq hb hnb hi om
 have h4:=Nat.le_trans (h.msz (show r < n by omega) hi (show r < n by omega)) (Nat.pow_le_pow_right om (show 128≤140 by omega))
 refine (mulV na nc A B C E k m j l _ _ _ _ w h1 h2 (zAe (zAP (Nat.le_of_lt h3) h4) (by decide)) (zAe (s:=128) om (by decide))).mono ?_
 rintro e w' ⟨n',A',k',B',m',rfl,hq',hx'⟩
 exact ⟨n',A',k',B',m',rfl,by rw [Nat.one_mul] at hq';exact hq',hx'⟩
theorem st_add (h:Start n f) {r i:Nat} (hri:r < i) (hi:i < n) {x:Nat→Int} {nb:Int} (hq:Qr n f (r+1) x≤nb*det (r+1) f) (hb:nb≤4096) (hnb:0≤nb) (w:World) (na nc:Bool) (A B C E:Option Addr) (k m j l:Nat)
  (h1:IsQ w na A k B m (Nk f r i x) (det (r+1) f).natAbs) (h2:IsQ w nc C j E l (x i*dmin f r i r) (det (r+1) f).natAbs) :
  Calls Tryz.prog 100 #[.agg #[.bool na,.slice A k k,.slice B m m],.agg #[.bool nc,.slice C j j,.slice E l l]] w fun e w'=>∃ n' A' k' B' m',e = .returned (.tuple #[.agg #[.bool n',.slice A' k' k',.slice B' m' m'],.int .i64 0])∧IsQ w' n' A' k' B' m' (Nk f r (i+1) x) (det (r+1) f).natAbs∧Ext w w':=by
 have b2:=h.dsz (show r+1≤n by omega)
 obtain ⟨p1,q1⟩:=h.dpos (show r+1≤n by omega)
 have h3:=x_sz h (show r+1≤n by omega) hq hb hnb hi om
 have h4:=Nat.le_trans (h.msz (show r < n by omega) hi (show r < n by omega)) (Nat.pow_le_pow_right om (show 128≤140 by omega))
 have h5:=Nk_sz h (show r < n by omega) (show i≤n by omega) hq hb hnb
 have s1:(Nk f r i x).natAbs*(det (r+1) f).natAbs≤2 ^ 400:=Nat.le_trans (zAP h5 b2) (Nat.pow_le_pow_right om om)
 have s2:(x i*dmin f r i r).natAbs*(det (r+1) f).natAbs≤2 ^ 400:=by rw [Int.natAbs_mul];exact Nat.le_trans (zAP (zAP (Nat.le_of_lt h3) h4) b2) (Nat.pow_le_pow_right om om)
 refine (addV_ na nc A B C E k m j l _ _ _ _ w h1 h2 (zCQ s1 s2 (by decide)) (zAe (zAP b2 b2) (by decide))).mono ?_
 rintro e w' ⟨n',A',k',B',m',rfl,hq',hx'⟩
 refine ⟨n',A',k',B',m',rfl,hq'.conv p1 ?_,hx'⟩
 rw [Nk_step f x hri,Int.natCast_mul,q1];grind
end
def Sk (U:Nat→Nat→Int) (x:Nat→Int) (i k:Nat):Int:=sm i fun t=>x t*U t k
theorem ix0 (W:World):(Instr.index 154 (.agg #[.int .i64 1,.int .i64 (-1)]) (.int .i64 0)).run Tryz.prog W = .ok (.int .i64 1) W:=by
 simp [Instr.index,run_underlying Tryz.underlying154,asIntOf,go_sem]
theorem ix1 (W:World):(Instr.index 154 (.agg #[.int .i64 1,.int .i64 (-1)]) (.int .i64 1)).run Tryz.prog W = .ok (.int .i64 (-1)) W:=by
 simp [Instr.index,run_underlying Tryz.underlying154,asIntOf,go_sem]
structure StepSt (D:ItD) (J:List (List Int × Int)→World→Prop) (P:List (List Int)) (r:Nat) (x:Nat→Int) (W:World) (S:Int→Prop) (x':Nat→Int) (L:List (List Int)) (w:World):Prop where
 row:NRow w D.X D.n x'
 high:∀ i,r < i→i < D.n→x' i=x i
 lists:ListsS D.n D.f D.nb r x S L
 j:J ((P ++ L).map (told D)) w
 sk:SK D.X W w
section
variable {D:ItD} {J:List (List Int × Int)→World→Prop} {Jx:World→Prop} {P:List (List Int)} {r:Nat} {x x':Nat→Int} {W w:World} {S T:Int→Prop} {L:List (List Int)}
theorem StepSt.set (h:StepSt D J P r x W S x' L w) (hC:Cons (GoodP D) D.lp D.X D.n J Jx) (hr:r < D.n) (z:Int):StepSt D J P r x W S (upd x' r z) L (w.setCell ⟨D.X,r,none⟩ (.int .i64 z)):=by
 have hx:ExtBut (fun b=>b=D.X) w (w.setCell ⟨D.X,r,none⟩ (.int .i64 z)):=(ExtBut.refl (fun b=>b=D.X) w).setCell (p:=⟨D.X,r,none⟩) (Or.inl rfl) _
 exact ⟨h.row.set_ hr z,fun i hi hin=>by rw [upd_other x' z om];exact h.high i hi hin,h.lists,hC.abide _ _ _ h.j hx,h.sk.trans (SK.of_but hx)⟩
theorem StepSt.ext (h:StepSt D J P r x W S x' L w) (hC:Cons (GoodP D) D.lp D.X D.n J Jx) {w':World} (hx:Ext w w'):StepSt D J P r x W S x' L w' :=
 ⟨h.row.ext hx,h.high,h.lists,hC.abide _ _ _ h.j (hx.toBut _),h.sk.trans (SK.of_ext hx)⟩
theorem StepSt.to (h:StepSt D J P r x W S x' L w) (hL:ListsS D.n D.f D.nb r x T L):StepSt D J P r x W T x' L w:=⟨h.row,h.high,hL,h.j,h.sk⟩
theorem StepSt.more (h:StepSt D J P r x W S x' L w) (hr:r < D.n) {z:Int} (hz:x' r=z) (hS:¬ S z) (hT:∀ u,T u↔S u∨u=z) {w':World} (hg:Goes D J Jx (P ++ L) r x' w true w'):∃ x2 L2,StepSt D J P r x W T x2 L2 w'∧x2 r=z:=by
 rcases hg with ⟨_,x2,M,h1,h2,h3,h4,h5⟩|⟨h1,_⟩
 ·refine ⟨x2,L ++ M,⟨h1,fun i hi hin=>(h2 i om hin).trans (h.high i hi hin),h.lists.add hr h3 (fun i hi hin=>h.high i hi hin) hz hS hT,?_,h.sk.trans h5⟩,(h2 r (Nat.le_refl r) hr).trans hz⟩
  rw [← List.append_assoc];exact h4
 ·cases h1
theorem StepSt.goes (h:StepSt D J P r x W S x' L w) (hS:∀ u,S u) {w0:World} (hx:Ext w0 W):Goes D J Jx P (r+1) x w0 true w :=
 Or.inl ⟨rfl,x',L,h.row,fun i hi hin=>h.high i om hin,h.lists.all hS,h.j,(SK.of_ext hx).trans h.sk⟩
theorem StepSt.good (h:StepSt D J P r x W S x' L w) (hG:Good D P (r+1) x) (hr:r < D.n) {z:Int} (hx:x' r=z) (hSz:¬ S z):Good D (P ++ L) r x':=by
 refine ⟨List.nodup_append.2 ⟨hG.once,h.lists.once,fun a ha b hb e=>?_⟩,fun v hv=>?_,fun v hv hall=>?_⟩
 ·subst e
  exact hG.out a ha fun i hi hin=>((h.lists.mem a).1 hb).2.1 i om hin
 ·rcases List.mem_append.1 hv with h1|h1
  ·exact hG.mem v h1
  ·exact ⟨((h.lists.mem v).1 h1).1,((h.lists.mem v).1 h1).2.2.2⟩
 ·rcases List.mem_append.1 hv with h1|h1
  ·exact hG.out v h1 fun i hi hin=>(hall i om hin).trans (h.high i om hin)
  ·have h2:=((h.lists.mem v).1 h1).2.2.1
   rw [hall r (Nat.le_refl r) hr,hx] at h2
   exact hSz h2
theorem StepSt.try_ (h:StepSt D J P r x W S x' L w) (hT:TryOK D J Jx r) (hS:Start D.n D.f) (hr:r < D.n) (hq:Qr D.n D.f (r+1) x≤D.nb*det (r+1) D.f) (hI:ItOK D w) (hG:Good D P (r+1) x) {z:Int} (hSz:¬ S z) (hx:x' r=z) (hz:z.natAbs≤2 ^ 63 - 1) {na nb:Bool} {A B C E:Option Addr} {k m j l:Nat}
  (hc:IsQ w na A k B m (Nr D.n D.f r x) (det (r+1) D.f).natAbs) (hl:IsQ w nb C j E l (D.nb*det (r+1) D.f - Qr D.n D.f (r+1) x) (det (r+1) D.f).natAbs) :
  Calls Tryz.prog 99 #[.int .i64 r,.agg #[.bool na,.slice A k k,.slice B m m],.agg #[.bool nb,.slice C j j,.slice E l l],pt D.bx,pt D.bd,pt D.bs] w fun e w' =>
   (Qr D.n D.f r (upd x r z)≤D.nb*det r D.f∧∃ b,e = .returned (.tuple #[.bool true,.bool b])∧Goes D J Jx (P ++ L) r x' w b w')∨(¬ Qr D.n D.f r (upd x r z)≤D.nb*det r D.f∧e = .returned (.tuple #[.bool false,.bool true])∧Ext w w'):=by
 have e1:Qr D.n D.f (r+1) x'=Qr D.n D.f (r+1) x:=zCn hS.pd om fun i hi hin=>h.high i om hin
 have e2:Nr D.n D.f r x'=Nr D.n D.f r x:=Nr_congr fun i hi hin=>h.high i hi hin
 have e3:Qr D.n D.f r (upd x r z)=Qr D.n D.f r x':=zCn hS.pd om fun i hi hin=>by
  by_cases e:i=r
  ·rw [e,zB0,hx]
  ·rw [upd_other x z e,h.high i om hin]
 rw [e3]
 exact hT (P ++ L) x' na nb A B C E k m j l w (h.good hG hr hx hSz) hI h.row h.j (by rw [e1];exact hq) (by rw [hx];exact hz) (by rw [e2];exact hc) (by rw [e1];exact hl)
end
def SSt (mid:Int) (t:Nat):Int→Prop:=fun u=>if t=0 then False else if t=1 then mid≤u else True
theorem ListsS.iff {n:Nat} {f:Nat→Nat→Int} {nb:Int} {r:Nat} {x:Nat→Int} {S T:Int→Prop} {L:List (List Int)} (h:ListsS n f nb r x S L) (e:∀ u,S u↔T u):ListsS n f nb r x T L:=h.congr (fun _ _ _=>rfl) fun _ _ _ _=>e _
end Go.Proofs.YtdkgilioejdmeaaGreat
namespace Go.Proofs.YtdkgilioejdmeaaGreat
open Go.RowKit
set_option maxHeartbeats 8000000 in
set_option maxRecDepth 100000 in
theorem step_any (D:ItD) (J:List (List Int × Int)→World→Prop) (Jx:World→Prop) (r:Nat) (hS:Start D.n D.f) (hr:r < D.n) (hb:D.nb≤4096) (hnb:0≤D.nb) (hC:Cons (GoodP D) D.lp D.X D.n J Jx) (hT:TryOK D J Jx r):StepOK D J Jx (r+1):=by
 intro P x na A B k m w hgd hI hx hj hq hl
 rw [show (((r+1:Nat):Int) - 1)=(r:Int) by omega]
 obtain ⟨R,hR⟩:∃ R:Ending→World→Prop,(fun e w'=>∃ b,e = .returned (.bool b)∧Goes D J Jx P (r+1) x w b w')=R:=⟨_,rfl⟩
 have HR:=zH hR
 rw [hR]
 clear hR
 have hn8:=hS.dim
 have hms:=mid_sz hS hr hq hb hnb
 obtain ⟨mid,hmid⟩:∃ z,midOf D.n D.f r x=z:=⟨_,rfl⟩
 have HI:=zH hI
 have HJ:=zH hj
 have HXn:=zH hx
 have HL:=zH hl
 have HC:=zH hC
 have HMul:=zH (fun i (hri:r < i) (hi:i < D.n) W=>st_mul hS hri hi hq hb hnb W)
 have HAdd:=zH (fun i (hri:r < i) (hi:i < D.n) W=>st_add hS hri hi hq hb hnb W)
 have HUp:=zH (fun z L=>up_done (z:=z) (L:=L) (nb:=D.nb) (x:=x) hS hr)
 have HDown:=zH (fun z L=>down_done (z:=z) (L:=L) (nb:=D.nb) (x:=x) hS hr)
 have HSz:=zH (fun z (h:Qr D.n D.f r (upd x r z)≤D.nb*det r D.f)=>within_sz hS hr h hb hnb)
 have HTry:=zH (fun W S x' L w (h:StepSt D J P r x W S x' L w) (hI:ItOK D w) z (hSz:¬ S z) (hx:x' r=z) (hz:z.natAbs≤2 ^ 63 - 1) na nb A B C E k m j l (hc:IsQ w na A k B m (Nr D.n D.f r x) (det (r+1) D.f).natAbs) hl=>h.try_ hT hS hr hq hI hgd hSz hx hz (na:=na) (nb:=nb) (A:=A) (B:=B) (C:=C) (E:=E) (k:=k) (m:=m) (j:=j) (l:=l) hc hl)
 have HMs:=zH hms.2
 have HDp:=zH (hS.dpos (show r+1≤D.n by omega)).1
 have hm1:=hms.1
 rw [hmid] at hm1
 have HMid:=zH hmid
 have HXi:=zH (fun i (hri:r < i) (hi:i < D.n)=>x_sz hS (show r+1≤D.n by omega) hq hb hnb hi om)
 have c1:=hI.vx.one.1
 have htX:=hI.tx
 unfold pt
 obtain ⟨bx,ebx⟩:∃ b,D.bx=b:=⟨_,rfl⟩
 obtain ⟨bl,ebl⟩:∃ b,D.bl=b:=⟨_,rfl⟩
 obtain ⟨bt,ebt⟩:∃ b,D.bt=b:=⟨_,rfl⟩
 obtain ⟨n,en⟩:∃ b,D.n=b:=⟨_,rfl⟩
 obtain ⟨X,eX⟩:∃ b,D.X=b:=⟨_,rfl⟩
 obtain ⟨gl,egl⟩:∃ b,D.gl=b:=⟨_,rfl⟩
 obtain ⟨capl,ecl⟩:∃ b,D.capl=b:=⟨_,rfl⟩
 have hcl:=hI.cl
 rw [ebx,en,eX] at c1
 rw [eX] at htX
 rw [en,ecl] at hcl
 rw [ebx,ebl,ebt]
 have HE:=zH (show D.n=n∧D.X=X∧D.bx=bx∧D.bl=bl∧D.bt=bt∧D.gl=gl∧D.capl=capl from ⟨en,eX,ebx,ebl,ebt,egl,ecl⟩)
 have hrn:r < n:=by omega
 have hn8':n≤8:=by omega
 have HXr:=zH (show NRow w X n x by rw [← eX,← en];exact hx)
 have HcA:=zH c1
 obtain ⟨pbr,hpbr⟩:∃ p,Value.pointer (some ⟨D.br,0,none⟩)=p:=⟨_,rfl⟩
 obtain ⟨pby,hpby⟩:∃ p,Value.pointer (some ⟨D.byl,0,none⟩)=p:=⟨_,rfl⟩
 obtain ⟨pbn,hpbn⟩:∃ p,Value.pointer (some ⟨D.bn,0,none⟩)=p:=⟨_,rfl⟩
 rw [hpbr,hpby,hpbn]
 have hri:¬ ((r:Int) < 0):=by omega
 have hix0:=ix0
 have hix1:=ix1
 clear hgd hI hx hj hl hq hC hT hS hr hn8 hb hnb hms hmid ebx ebl ebt en eX egl ecl hpbr hpby hpbn
 go_enter Tryz.func105,Tryz.ntmps105
 go_upto_region 15 with (fail)
 obtain ⟨b9,hb9⟩:∃ b,w.heap.size=b:=⟨_,rfl⟩
 obtain ⟨b16,hb16⟩:∃ b,w.heap.size+1=b:=⟨_,rfl⟩
 obtain ⟨W1,hW1⟩:∃ W1,(w.alloc (.cells #[.bool na,.slice A k k,.slice B m m] 144)).alloc (.cells #[.bool false,.slice none 0 0,.slice none 0 0] 144)=W1:=⟨_,rfl⟩
 have hz0:Blk ((w.alloc (.cells #[.bool na,.slice A k k,.slice B m m] 144)).alloc (.cells #[.bool false,.slice none 0 0,.slice none 0 0] 144)) b16 144 #[.bool false,.slice none 0 0,.slice none 0 0]:=by rw [← hb16];exact Blk.at (by simp)
 have hz9:Blk ((w.alloc (.cells #[.bool na,.slice A k k,.slice B m m] 144)).alloc (.cells #[.bool false,.slice none 0 0,.slice none 0 0] 144)) b9 144 #[.bool na,.slice A k k,.slice B m m]:=by rw [← hb9];exact Blk.al (Blk.new _ _ _)
 have hne:b9≠b16:=by omega
 have HX1:Hid (Ext w W1):=by rw [← hW1];exact ((Ext.refl w).alloc _).alloc _
 have HB16:Hid (QB W1 b16 (Nk D.f r (r+1) x) (det (r+1) D.f).natAbs):=by
  rw [← hW1,Nk_start]
  exact (QB.conv (p:=0) (q:=1) ⟨false,none,0,none,0,hz0,(isQ_zero _)⟩ HDp.out (by simp))
 have HK9:Hid (Blk W1 b9 144 #[.bool na,.slice A k k,.slice B m m]):=by rw [← hW1];exact hz9
 rw [hW1,hb16,hb9]
 have hb9w:w.heap.size≤b9:=by omega
 have hb16w:w.heap.size≤b16:=by omega
 clear hW1 hz0 hz9 hb9 hb16
 have c1w:=HX1.out.cell c1
 clear c1
 have c1:=c1w
 clear c1w
 go_wp2
 go_loopg [17] (n - (r+1)) (fun kk kv wk=>∃ i:Nat,kk+i=n∧r+1≤i∧kv = .int .i64 i∧Hid (QB wk b16 (Nk D.f r i x) (det (r+1) D.f).natAbs)∧Hid (Blk wk b9 144 #[.bool na,.slice A k k,.slice B m m])∧Hid (Ext w wk))
 case atStart=>exact ⟨r+1,by omega,Nat.le_refl _,by go_num,HB16,HK9,HX1⟩
 clear HB16 HK9 HX1 c1
 obtain ⟨i,hki,hri1,rfl,HB,HK,HX⟩:=hrel
 have c1:=HX.out.cell HcA.out
 by_cases hin:i < n
 ·skip
  have HKI:=zH hki
  clear hki
  have hrI:r < i:=by omega
  have cx:=(HXr.out.ext HX.out).cell i hin
  obtain ⟨xi,hxi⟩:∃ z,x i=z:=⟨_,rfl⟩
  rw [hxi] at cx
  have HXI:=zH hxi
  have hsz:=HXi.out i hrI (by rw [HE.out.1];exact hin)
  rw [hxi] at hsz
  have hIr:=HI.out.ext HX.out
  have cl:=hIr.vl.one.1
  rw [HE.out.1,HE.out.2.2.2.1,HE.out.2.2.2.2.2.1,HE.out.2.2.2.2.2.2] at cl
  have cr:=hIr.mat.rows i (by rw [HE.out.1];exact hin)
  obtain ⟨nq,Aq,kq,Bq,mq,cq1,cq2,cq3,iq⟩:=(hIr.mat.row i (by rw [HE.out.1];exact hin)).cells r (by rw [HE.out.1];exact hrn)
  have hdn:doneL D.n 0 i r:=⟨hrI,Or.inl (by rw [HE.out.1];exact hin)⟩
  rw [(ld_read D.f hdn).1,(ld_read D.f hdn).2] at iq
  clear hdn
  have HQi:=zH iq
  rw [HE.out.2.2.2.2.2.1,HE.out.1] at cr
  obtain ⟨hli,hhli⟩:∃ z,D.hl i=z:=⟨_,rfl⟩
  rw [hhli] at cr cq1 cq2 cq3
  have HW:=zH (fun W=>zDN xi W om om)
  have HM:=zH (fun W n1 A1 e1 B1 m1 (h:IsQ W n1 A1 e1 B1 m1 xi 1∧Ext wr W)=>HMul.out i hrI (by rw [HE.out.1];exact hin) W n1 nq A1 B1 Aq Bq e1 m1 kq mq (by rw [HXI.out];exact h.1) (HQi.out.ext h.2))
  obtain ⟨n16,A16,k16,B16,m16,q16,i16⟩:=HB.out.box
  obtain ⟨c16a,f16a,c16b,f16b,c16c,f16c⟩:=q16.three
  have HQ16:=zH i16
  have l1:=zAA c1
  have l2:=zAA cx
  have l3:=zAA cl
  have l4:=zAA cr
  have l5:=zAA cq1
  have l16:=q16.lt
  simp only at l1 l2 l3 l4 l5
  have HXr0:=zH (Ext.refl wr)
  have HX0:=HXr0
  clear iq hIr hhli hxi q16 i16
  have HXk:=HX
  clear HX HX0
  have HX:=HXr0
  go_upto_region 18 with (fail)
  go_cut [18] (fun s18 wx=>∃ b18,s18 = .pointer (some ⟨b18,0,none⟩)∧wr.heap.size≤b18∧Hid (QB wx b18 (x i*dmin D.f r i r) (det (r+1) D.f).natAbs)∧Hid (Ext wr wx))
  case first =>
   have HKeepT:=zH (fun (w':World) (hx:Ext wr w')=>(show w'.cell? ⟨bx,0,none⟩=some (.slice (some ⟨X,0,none⟩) n n)∧w'.cell? ⟨X,i,none⟩=some (.int .i64 xi)∧w'.cell? ⟨bl,0,none⟩=some (.slice (some ⟨gl,0,none⟩) n capl)∧w'.cell? ⟨gl,i,none⟩=some (.slice (some ⟨hli,0,none⟩) n n)∧w'.cell? ⟨hli,r*3,none⟩=some (.bool nq)∧w'.cell? ⟨hli,r*3+1,none⟩=some (.slice Aq kq kq)∧w'.cell? ⟨hli,r*3+2,none⟩=some (.slice Bq mq mq) from ⟨hx.cell c1,hx.cell cx,hx.cell cl,hx.cell cr,hx.cell cq1,hx.cell cq2,hx.cell cq3⟩))
   have hxA:Ext wr wr:=Ext.refl _
   refine rU HKeepT [17,18] [15] 19 (fun hH hC=>?_)
   revert hC
   refine tk 0 19 hH ?_
   refine tk 1 19 hH ?_
   refine tk 2 19 hH ?_
   refine tk 3 19 hH ?_
   refine tk 5 19 hH ?_
   refine tk 6 19 hH ?_
   refine tk 7 19 hH ?_
   refine tk 8 19 hH ?_
   refine tk 9 19 hH ?_
   refine tk 10 19 hH ?_
   refine tk 11 19 hH ?_
   intro hC
   refine zAj (al:=16) (d:=18) (c:=4) (T:=144) (zs:=#[.bool false,.slice none 0 0,.slice none 0 0]) (fuel:=6) (L:=fun l18=>#[true,true,true,true,false,true,true,true,true,true,true,true,false,false,false,false,l18,false,false]) wr wr.heap.size hxA.size Sg Sg (by intro l18;cases l18 <;> kernel_rfl) (by intro l18;cases l18 <;> kernel_rfl) (by rfl) (by intro l18;cases l18 <;> kernel_rfl) ?_ (fun w' hx=>HKeepT.out _ (hxA.trans hx)) ?_ false wr.drew (Ext.refl _).drew AlOK.no
   ·intro v1 w' K' hK'
    try simp only [Act.put,sA,sB,sC]
    try simp only [Act.put,sA,sB,sC] at hK'
    go_simp
    exact hK'
   intro l18 v18 y hxy hal18 hct K hK
   (try clear hH)
   (try clear hC)
   try simp only [Act.put,sA,sB,sC]
   replace hxA:=hxA.trans hxy
   go_simp
   (go_at_call 101;refine (HW.out _).mono ?_;rintro e w1 ⟨n1,A1,e1,B1,m1,rfl,hn1,hx⟩;have hxN:Ext wr w1:=Ext.trans (by repeat (first|with_reducible exact hxA)) hx;clear hxA;have hxA:=hxN;clear hxN;have HN1:=zH hn1;clear hn1;replace hal18:=AlOK.ext hal18 (Ext.trans (by repeat (first|with_reducible exact Ext.refl _)) hx);clear hx)
   try go_wp2_with fail
   have hHeldN:=HKeepT.out w1 hxA
   refine hK.out _ _ (fun _ _=>hHeldN) (fun hCn=>?_)
   clear hK K
   (try clear hct)
   have hH:=hHeldN
   have hC:=hCn
   clear hHeldN hCn
   try simp only [Act.put,sA,sB,sC]
   refine zAj (al:=16) (d:=18) (c:=12) (T:=144) (zs:=#[.bool false,.slice none 0 0,.slice none 0 0]) (fuel:=5) (L:=fun l18=>#[true,true,true,true,true,true,true,true,true,true,true,true,false,false,false,false,l18,false,false]) w1 wr.heap.size hxA.size Sg Sg (by intro l18;cases l18 <;> kernel_rfl) (by intro l18;cases l18 <;> kernel_rfl) (by rfl) (by intro l18;cases l18 <;> kernel_rfl) ?_ (fun w' hx=>HKeepT.out _ (hxA.trans hx)) ?_ l18 w1 (Ext.refl _) hal18
   ·intro v1 w' K' hK'
    try simp only [Act.put,sA,sB,sC]
    try simp only [Act.put,sA,sB,sC] at hK'
    go_simp
    exact hK'
   intro l18 v18 y hxy hal18 hct K hK
   (try clear hH)
   (try clear hC)
   try simp only [Act.put,sA,sB,sC]
   replace hxA:=hxA.trans hxy
   (try replace HN1:=zH (HN1.out.ext hxy))
   go_simp
   (go_at_call 102;with_reducible refine Calls.mono (HM.out _ _ _ _ _ _ ?_) ?_;exact ⟨HN1.out.ext Ext.ub,(by repeat (first|with_reducible exact hxA))⟩;rintro e w2 ⟨n2,A2,e2,B2,m2,rfl,hn2,hx⟩;have hxN:Ext wr w2:=Ext.trans (by repeat (first|with_reducible exact hxA)) hx;clear hxA;have hxA:=hxN;clear hxN;have HN2:=zH hn2;clear hn2;(first|(have hh:=zH (HN1.out.ext (Ext.trans Ext.ub hx));clear HN1;have HN1:=hh;clear hh));replace hal18:=AlOK.ext hal18 (Ext.trans (by repeat (first|with_reducible exact Ext.refl _)) hx);clear hx)
   try go_wp2_with fail
   have hHeldN:=HKeepT.out w2 hxA
   refine hK.out _ _ (fun _ _=>hHeldN) (fun hCn=>?_)
   clear hK K
   (try clear hct)
   have hH:=hHeldN
   have hC:=hCn
   clear hHeldN hCn
   try simp only [Act.put,sA,sB,sC]
   refine zAN hC hH (i:=13) (f:=19) (v:=?_) Sg kr (by cases l18 <;> kernel_rfl) (by cases l18 <;> kernel_rfl) kr Iq (by rfl) ?_ (fun hCn=>?_)
   rotate_left
   ·intro w' hSw;go_simp;(try with_reducible rfl)
   clear hC
   have hC:=hCn
   clear hCn
   try simp only [Act.put,sA,sB,sC]
   refine zAN hC hH (i:=14) (f:=19) (v:=?_) Sg kr (by cases l18 <;> kernel_rfl) (by cases l18 <;> kernel_rfl) kr Iq (by rfl) ?_ (fun hCn=>?_)
   rotate_left
   ·intro w' hSw;go_simp;(try with_reducible rfl)
   clear hC
   have hC:=hCn
   clear hCn
   try simp only [Act.put,sA,sB,sC]
   refine zAF hC (i:=15) (v:=?_) Sg kr (by cases l18 <;> kernel_rfl) (by cases l18 <;> kernel_rfl) kr Iq (by rfl) ?_ (fun hCn=>?_)
   rotate_left
   ·intro w';go_simp;(try with_reducible rfl)
   clear hC
   have hC:=hCn
   clear hCn
   try simp only [Act.put,sA,sB,sC]
   refine zAj (al:=16) (d:=18) (c:=17) (T:=144) (zs:=#[.bool false,.slice none 0 0,.slice none 0 0]) (fuel:=1) (L:=fun l18=>#[true,true,true,true,true,true,true,true,true,true,true,true,true,true,true,true,l18,false,false]) w2 wr.heap.size hxA.size Sg Sg (by intro l18;cases l18 <;> kernel_rfl) (by intro l18;cases l18 <;> kernel_rfl) (by rfl) (by intro l18;cases l18 <;> kernel_rfl) ?_ (fun w' hx=>HKeepT.out _ (hxA.trans hx)) ?_ l18 w2 (Ext.refl _) hal18
   ·intro v1 w' K' hK'
    try simp only [Act.put,sA,sB,sC]
    try simp only [Act.put,sA,sB,sC] at hK'
    go_simp
    exact hK'
   intro l18 v18 y hxy hal18 hct K hK
   (try clear hH)
   (try clear hC)
   try simp only [Act.put,sA,sB,sC]
   replace hxA:=hxA.trans hxy
   (try replace HN1:=zH (HN1.out.ext hxy))
   (try replace HN2:=zH (HN2.out.ext hxy))
   obtain rfl:l18=true:=by
    cases l18 with
    | false=>exact absurd (Eq.trans (Eq.symm hct) kr) (show ¬ (true=false) by decide)
    | true=>rfl
   obtain ⟨b18,rfl,hb18,k18⟩:=hal18 rfl
   clear hal18
   have zl18:=k18.lt
   obtain ⟨zc18a,zf18a,zc18b,zf18b,zc18c,zf18c⟩:=k18.three
   clear hct
   go_simp
   refine hK.out _ _ (fun h=>by cases h) (fun hCn=>?_)
   clear hK K
   have hC:=hCn
   clear hCn
   try simp only [Act.put,sA,sB,sC]
   refine zAB hC (i:=18) Sg kr (fun K hK=>?_)
   go_simp
   refine hK.out _ _ (fun h=>by cases h) (fun hCn=>?_)
   clear hK K hC
   have hC:=hCn
   clear hCn
   try simp only [Act.put,sA,sB,sC]
   refine zAD kr ?_ _
   clear hC HKeepT
   skip
   go_wp2
   refine Met.intro ?_
   go_step
   (repeat apply Exists.intro)
   refine And.symm ⟨?_,?_⟩
   ·first|with_reducible rfl
   first
   | exact ⟨_,rfl,(by first|assumption),zH (QB.mk2 (by (with_reducible repeat (first|(refine Blk.put3 ?_;· (repeat (first|exact BlkN.of k18 rfl)))))) (by (with_reducible repeat (first|exact HN2.out|(refine IsQ.setN ?_ ?_;· (repeat (first|exact NB.of k18 (by decide)|refine NB.set ?_))))))),zH Ext.ua⟩
  obtain ⟨b18,rfl,hb18,HB18,HX1⟩:=hcut
  obtain ⟨W1,hWn⟩:∃ W1,wc=W1:=⟨_,rfl⟩
  rw [hWn] at HB18 HX1 ⊢
  clear hWn wc
  replace c1:=HX1.out.cell c1
  replace cx:=HX1.out.cell cx
  replace cl:=HX1.out.cell cl
  replace cr:=HX1.out.cell cr
  replace cq1:=HX1.out.cell cq1
  replace cq2:=HX1.out.cell cq2
  replace cq3:=HX1.out.cell cq3
  replace f16a:=HX1.out.free f16a (zAA c16a)
  replace c16a:=HX1.out.cell c16a
  replace f16b:=HX1.out.free f16b (zAA c16b)
  replace c16b:=HX1.out.cell c16b
  replace f16c:=HX1.out.free f16c (zAA c16c)
  replace c16c:=HX1.out.cell c16c
  replace HQ16:=zH (HQ16.out.ext HX1.out)
  replace HX:=zH (HX.out.trans HX1.out)
  have hszW1:=HX1.out.size
  obtain ⟨n18,A18,k18,B18,m18,q18,hn18⟩:=HB18.out.box
  obtain ⟨c18a,f18a,c18b,f18b,c18c,f18c⟩:=q18.three
  have HQ18:=HB18
  have hl18:=q18.lt
  have HN18:=zH hn18
  clear hn18 q18 HB18
  have HA:=zH (HAdd.out i hrI (by rw [HE.out.1];exact hin) W1 n16 n18 A16 B16 A18 B18 k16 m16 k18 m18 HQ16.out HN18.out)
  go_upto_region 17 with (go_at_call 100;refine HA.out.mono ?_;rintro e v1 ⟨n5,A5,k5,B5,m5,rfl,hq5,hx⟩;have HX4:=zH hx;have HQ5:=zH hq5;have d0a:=hx.cell c16a;have d0b:=hx.cell c16b;have d0c:=hx.cell c16c;have g0a:=hx.free f16a (zAA c16a);have g0b:=hx.free f16b (zAA c16b);have g0c:=hx.free f16c (zAA c16c);clear hx hq5)
  obtain ⟨V5,hV5⟩:∃ V5,setQ v1 b16 0 n5 A5 k5 B5 m5=V5:=⟨_,rfl⟩
  have HXv:=zH (HX.out.trans HX4.out)
  have HX5:Hid (Ext w V5):=by rw [← hV5];exact zBg (HXk.out.trans HXv.out) hb16w
  have HB5:Hid (QB V5 b16 (Nk D.f r (i+1) x) (det (r+1) D.f).natAbs):=by rw [← hV5];exact (HB.out.ext HXv.out).setQ HQ5.out
  have HK5:Hid (Blk V5 b9 144 #[.bool na,.slice A k k,.slice B m m]):=by rw [← hV5];exact (((HK.out.ext HXv.out).far2 hne).far2 hne).far2 hne
  have eV:((v1.setCell ⟨b16,0,none⟩ (.bool n5)).setCell ⟨b16,1,none⟩ (.slice A5 k5 k5)).setCell ⟨b16,2,none⟩ (.slice B5 m5 m5)=V5:=hV5
  rw [eV]
  clear eV hV5
  go_wp2
  go_roundg (n - (i+1))
  case measure=>have:=HKI.out;omega
  case rel=>exact ⟨i+1,by have:=HKI.out;omega,by omega,by go_num,HB5,HK5,HX5⟩
 ·skip
  obtain rfl:n=i:=by omega
  clear hki hin
  have HB2:Hid (QB wr b16 (Nr D.n D.f r x) (det (r+1) D.f).natAbs):=by
   have h:=HB.out
   rw [← HE.out.1] at h
   exact zH h
  obtain ⟨n16,A16,k16,B16,m16,q16,i16⟩:=HB2.out.box
  obtain ⟨c16a,f16a,c16b,f16b,c16c,f16c⟩:=q16.three
  have HQ16:=zH i16
  have HNeg:=zH (negV n16 A16 B16 k16 m16 _ _ wr HQ16.out)
  have HRound:=zH (fun W n1 A1 k1 B1 m1 (h:IsQ W n1 A1 k1 B1 m1 (-Nr D.n D.f r x) (det (r+1) D.f).natAbs)=>roundV n1 A1 B1 k1 m1 _ _ W h HMs.out)
  have HI64:=zH (fun W n1 A1 k1 (h:IsInt W n1 A1 k1 mid)=>zCJ n1 A1 k1 mid W h)
  rw [show i64Z mid=mid from if_pos om] at HI64
  go_upto_region 21 with (first
   | (go_at_call 108;refine HNeg.out.mono ?_;rintro e v1 ⟨n1,A1,k1,B1,m1,rfl,hq1,hx⟩;have HX1:=zH hx;have HQ1:=zH hq1;clear hx hq1)
   | (go_at_call 109;refine (HRound.out _ _ _ _ _ _ HQ1.out).mono ?_;rintro e v2 ⟨n2,A2,k2,rfl,hi2,hx⟩;have HX2:=zH (HX1.out.trans hx);have HI2:=zH (by rw [show nearF (-Nr D.n D.f r x) (det (r+1) D.f).natAbs=mid from HMid.out] at hi2;exact hi2:IsInt _ _ _ _ mid);clear hx hi2)
   | (go_at_call 107;refine (HI64.out _ _ _ _ HI2.out).mono ?_;rintro e v3 ⟨rfl,hx⟩;have HX3:=zH (HX2.out.trans hx);clear hx))
  have HW3:=zH (HX.out.trans HX3.out)
  have HI3:=zH (HI.out.ext HW3.out)
  have HB3:=zH (HB2.out.ext HX3.out)
  have HK3:=zH (HK.out.ext HX3.out)
  have HL3:=zH (HL.out.ext HW3.out)
  have HS0:Hid (StepSt D J P r x v3 (SSt mid 0) x [] v3):=⟨HXn.out.ext HW3.out,fun _ _ _=>rfl,ListsS.nil fun z h=>by simp [SSt] at h,by rw [List.append_nil];exact HC.out.abide _ _ _ HJ.out (HW3.out.toBut _),SK.refl _ _⟩
  have hrD:Hid (r < D.n):=by rw [HE.out.1];exact zH hrn
  have hi1:i64B mid=true:=decide_eq_true om
  rw [hi1]
  clear HB2 HK HB HX HX1 HX2 HX3 HI2 HQ1 HQ16 HNeg HRound HI64 HMul HAdd HXi HMs c16a c16b c16c f16a f16b f16c q16 i16 c1 HL HI HXn HXr HcA hri1 hi1
  go_wp2
  go_loopg [112] 2 (fun kk tv wk=>∃ (t:Nat) (x':Nat→Int) (L:List (List Int)),kk+t=2∧tv = .int .i64 t∧Hid (StepSt D J P r x v3 (SSt mid t) x' L wk))
  case atStart=>exact ⟨0,x,[],by omega,rfl,HS0⟩
  clear HS0
  obtain ⟨t,x',L,hkt,rfl,HS⟩:=hrel
  have HIr:=zH (HI3.out.keep HS.out.sk HS.out.row.typ)
  have c1:=HIr.out.vx.one.1
  have cx:=HS.out.row.cell r hrD.out
  have fx:=HS.out.row.free r
  rw [HE.out.1,HE.out.2.1,HE.out.2.2.1] at c1
  rw [HE.out.2.1] at cx fx
  have l1:=zAA c1
  have lx:=zAA cx
  simp only at l1 lx
  by_cases ht:t < 2
  ·rcases (show t=0∨t=1 by omega) with rfl|rfl
   ·skip
    go_wp2
    obtain ⟨V,hV⟩:∃ V,wr.setCell ⟨X,r,none⟩ (.int .i64 (mid))=V:=⟨_,rfl⟩
    have HSv:Hid (StepSt D J P r x v3 (fun u=>mid≤u∧u < (mid)) (upd x' r (mid)) L V):=by
     have h:=HS.out.set HC.out hrD.out (mid)
     rw [HE.out.2.1,hV] at h
     exact h.to (h.lists.iff fun u=>by simp only [SSt];simp;skip)
    rw [hV]
    clear hV HS HIr c1 cx fx l1 lx
    go_loopg [24] (4611686018427387906 - mid).toNat (fun kk av wk=>∃ (z:Int) (x':Nat→Int) (L:List (List Int)),mid≤z∧z≤4611686018427387905∧(kk:Int)=4611686018427387906 - z∧Hid (x' r=z)∧Hid (StepSt D J P r x v3 (fun u=>mid≤u∧u < z) x' L wk))
    case atStart=>exact ⟨mid,_,L,by omega,by omega,by omega,zB0 _ _ _,HSv⟩
    clear HSv
    obtain ⟨z,x',L,hz0,hz1,hkz,HZ,HS⟩:=hrel
    have HIr:=zH (HI3.out.keep HS.out.sk HS.out.row.typ)
    have c1:=HIr.out.vt.one.1
    rw [HE.out.2.2.2.2.1] at c1
    unfold pt at c1
    have HBr:=zH (HS.out.sk.qb HI3.out.tx HB3.out)
    have HKr:=zH (HS.out.sk.blk HK3.out (by decide) (by decide) (HK3.out.typ.ne HI3.out.tx (by decide)))
    have HLr:=zH (HS.out.sk.isQ HI3.out.tx HL3.out)
    obtain ⟨n16,A16,k16,B16,m16,q16,i16⟩:=HBr.out.box
    obtain ⟨c16a,f16a,c16b,f16b,c16c,f16c⟩:=q16.three
    obtain ⟨c9a,f9a,c9b,f9b,c9c,f9c⟩:=HKr.out.three
    have HCall:=zH (HTry.out v3 _ x' L wr HS.out HIr.out z om HZ.out om _ _ _ _ _ _ _ _ _ _ i16 HLr.out)
    unfold pt at HCall
    clear q16 i16
    go_wp2_with (fail)
    refine HCall.out.mono ?_
    rintro e w2 (⟨hqr,b,rfl,hg⟩|⟨hnq,rfl,hx⟩)
    ·have hsz:=HSz.out z hqr
     cases b with
     | true =>
      obtain ⟨x2,L2,hS2,hz2⟩:=HS.out.more hrD.out HZ.out (S:=(fun u=>mid≤u∧u < z)) (T:=(fun u=>mid≤u∧u < (z+1))) (z:=z) om (fun u=>by omega) hg
      have HS2:=zH hS2
      have HZ2:=zH hz2
      have HI2:=zH (HI3.out.keep HS2.out.sk HS2.out.row.typ)
      clear c1 c16a c16b c16c f16a f16b f16c c9a c9b c9c f9a f9b f9c HCall HS HIr HBr HKr HLr hg hS2 hz2 hqr
      have c1:=HI2.out.vx.one.1
      have cx:=HS2.out.row.cell r hrD.out
      have fx:=HS2.out.row.free r
      rw [HE.out.1,HE.out.2.1,HE.out.2.2.1] at c1
      rw [HZ2.out] at cx
      rw [HE.out.2.1] at cx fx
      have l1:=zAA c1
      have lx:=zAA cx
      simp only at l1 lx
      go_wp2
      obtain ⟨V,hV⟩:∃ V,w2.setCell ⟨X,r,none⟩ (.int .i64 (z+1))=V:=⟨_,rfl⟩
      have HSv:Hid (StepSt D J P r x v3 (fun u=>mid≤u∧u < (z+1)) (upd x2 r (z+1)) L2 V):=by
       have h:=HS2.out.set HC.out hrD.out (z+1)
       rw [HE.out.2.1,hV] at h
       exact h
      (try rw [hV])
      clear hV HS2 HI2 c1 cx fx l1 lx
      go_roundg (4611686018427387906 - (z+1)).toNat
      case measure=>omega
      case rel=>exact ⟨z+1,_,L2,by omega,by omega,by omega,zB0 _ _ _,HSv⟩
     | false =>
      rcases hg with ⟨h1,_⟩|⟨_,hjx⟩
      ·cases h1
      ·have HJx:=zH hjx
       clear c1 c16a c16b c16c f16a f16b f16c c9a c9b c9c f9a f9b f9c HCall HS HIr HBr HKr HLr hjx hqr
       go_wp2
       first
       | (rw [← HR.out];exact ⟨false,rfl,Or.inr ⟨rfl,HJx.out⟩⟩)
    ·skip
     have hdone:=HUp.out z L hnq (by rw [show midOf D.n D.f r x=mid from HMid.out];omega)
     rw [show midOf D.n D.f r x=mid from HMid.out] at hdone
     have HS2:Hid (StepSt D J P r x v3 (SSt mid 1) x' L w2):=(HS.out.to ((hdone HS.out.lists).iff fun u=>by simp [SSt])).ext HC.out hx
     clear hdone hx hnq c1 c16a c16b c16c f16a f16b f16c c9a c9b c9c f9a f9b f9c HCall HS HIr HBr HKr HLr
     go_wp2
     go_roundg (2 - 1)
     case measure=>omega
     case rel=>exact ⟨1,x',L,by omega,by go_num,HS2⟩
   ·skip
    go_wp2
    obtain ⟨V,hV⟩:∃ V,wr.setCell ⟨X,r,none⟩ (.int .i64 (mid + -1))=V:=⟨_,rfl⟩
    have HSv:Hid (StepSt D J P r x v3 (fun u=>mid≤u∨(mid + -1) < u) (upd x' r (mid + -1)) L V):=by
     have h:=HS.out.set HC.out hrD.out (mid + -1)
     rw [HE.out.2.1,hV] at h
     exact h.to (h.lists.iff fun u=>by simp only [SSt];simp;try omega)
    rw [hV]
    clear hV HS HIr c1 cx fx l1 lx
    go_loopg [24] (mid - 1+4611686018427387906).toNat (fun kk av wk=>∃ (z:Int) (x':Nat→Int) (L:List (List Int)),z≤mid - 1 ∧ -4611686018427387905≤z∧(kk:Int)=z+4611686018427387906∧Hid (x' r=z)∧Hid (StepSt D J P r x v3 (fun u=>mid≤u∨z < u) x' L wk))
    case atStart=>exact ⟨mid + -1,_,L,by omega,by omega,by omega,zB0 _ _ _,HSv⟩
    clear HSv
    obtain ⟨z,x',L,hz0,hz1,hkz,HZ,HS⟩:=hrel
    have HIr:=zH (HI3.out.keep HS.out.sk HS.out.row.typ)
    have c1:=HIr.out.vt.one.1
    rw [HE.out.2.2.2.2.1] at c1
    unfold pt at c1
    have HBr:=zH (HS.out.sk.qb HI3.out.tx HB3.out)
    have HKr:=zH (HS.out.sk.blk HK3.out (by decide) (by decide) (HK3.out.typ.ne HI3.out.tx (by decide)))
    have HLr:=zH (HS.out.sk.isQ HI3.out.tx HL3.out)
    obtain ⟨n16,A16,k16,B16,m16,q16,i16⟩:=HBr.out.box
    obtain ⟨c16a,f16a,c16b,f16b,c16c,f16c⟩:=q16.three
    obtain ⟨c9a,f9a,c9b,f9b,c9c,f9c⟩:=HKr.out.three
    have HCall:=zH (HTry.out v3 _ x' L wr HS.out HIr.out z om HZ.out om _ _ _ _ _ _ _ _ _ _ i16 HLr.out)
    unfold pt at HCall
    clear q16 i16
    go_wp2_with (fail)
    refine HCall.out.mono ?_
    rintro e w2 (⟨hqr,b,rfl,hg⟩|⟨hnq,rfl,hx⟩)
    ·have hsz:=HSz.out z hqr
     cases b with
     | true =>
      obtain ⟨x2,L2,hS2,hz2⟩:=HS.out.more hrD.out HZ.out (S:=(fun u=>mid≤u∨z < u)) (T:=(fun u=>mid≤u∨(z + -1) < u)) (z:=z) om (fun u=>by omega) hg
      have HS2:=zH hS2
      have HZ2:=zH hz2
      have HI2:=zH (HI3.out.keep HS2.out.sk HS2.out.row.typ)
      clear c1 c16a c16b c16c f16a f16b f16c c9a c9b c9c f9a f9b f9c HCall HS HIr HBr HKr HLr hg hS2 hz2 hqr
      have c1:=HI2.out.vx.one.1
      have cx:=HS2.out.row.cell r hrD.out
      have fx:=HS2.out.row.free r
      rw [HE.out.1,HE.out.2.1,HE.out.2.2.1] at c1
      rw [HZ2.out] at cx
      rw [HE.out.2.1] at cx fx
      have l1:=zAA c1
      have lx:=zAA cx
      simp only at l1 lx
      go_wp2
      obtain ⟨V,hV⟩:∃ V,w2.setCell ⟨X,r,none⟩ (.int .i64 (z + -1))=V:=⟨_,rfl⟩
      have HSv:Hid (StepSt D J P r x v3 (fun u=>mid≤u∨(z + -1) < u) (upd x2 r (z + -1)) L2 V):=by
       have h:=HS2.out.set HC.out hrD.out (z + -1)
       rw [HE.out.2.1,hV] at h
       exact h
      (try rw [hV])
      clear hV HS2 HI2 c1 cx fx l1 lx
      go_roundg (z - 1+4611686018427387906).toNat
      case measure=>omega
      case rel=>exact ⟨z + -1,_,L2,by omega,by omega,by omega,zB0 _ _ _,HSv⟩
     | false =>
      rcases hg with ⟨h1,_⟩|⟨_,hjx⟩
      ·cases h1
      ·have HJx:=zH hjx
       clear c1 c16a c16b c16c f16a f16b f16c c9a c9b c9c f9a f9b f9c HCall HS HIr HBr HKr HLr hjx hqr
       go_wp2
       first
       | (rw [← HR.out];exact ⟨false,rfl,Or.inr ⟨rfl,HJx.out⟩⟩)
    ·skip
     have hdone:=HDown.out z L hnq (by rw [show midOf D.n D.f r x=mid from HMid.out];omega)
     rw [show midOf D.n D.f r x=mid from HMid.out] at hdone
     have HS2:Hid (StepSt D J P r x v3 (SSt mid 2) x' L w2):=(HS.out.to ((hdone HS.out.lists).iff fun u=>by simp [SSt])).ext HC.out hx
     clear hdone hx hnq c1 c16a c16b c16c f16a f16b f16c c9a c9b c9c f9a f9b f9c HCall HS HIr HBr HKr HLr
     go_wp2
     go_roundg (2 - 2)
     case measure=>omega
     case rel=>exact ⟨2,x',L,by omega,by go_num,HS2⟩
  ·skip
   obtain rfl:t=2:=by omega
   have HF:=zH (HS.out.goes (Jx:=Jx) (fun u=>by simp [SSt]) HW3.out)
   go_wp2
   first
   | (rw [← HR.out];exact ⟨true,rfl,HF.out⟩)
theorem wrap_addmul (a b c:Int):IntKind.i64.wrap (IntKind.i64.wrap a+IntKind.i64.wrap (b*c))=IntKind.i64.wrap (a+b*c):=by
 generalize b*c=d
 simp only [IntKind.wrap,IntKind.bits,IntKind.signed,Bool.true_and,decide_eq_true_eq,ge_iff_le]
 (repeat split) <;> omega
theorem wrap_fits {z:Int} (h:-9223372036854775808≤z∧z≤9223372036854775807):IntKind.i64.wrap z=z:=by
 simp only [IntKind.wrap,IntKind.bits,IntKind.signed,Bool.true_and,decide_eq_true_eq,ge_iff_le]
 (repeat split) <;> omega
theorem Sk_succ (U:Nat→Nat→Int) (x:Nat→Int) (i k:Nat):Sk U x (i+1) k=Sk U x i k+x i*U i k:=rfl
set_option maxHeartbeats 8000000 in
set_option maxRecDepth 100000 in
theorem leaf_any (D:ItD) (J:List (List Int × Int)→World→Prop) (Jx:World→Prop) (a0 V:Nat→Nat→Int) (hB:InBasis D.n a0 D.f D.U V) (hS0:Start D.n a0) (hn1:1≤D.n) (hb:D.nb≤4096) (hnb:0≤D.nb) (hC:Cons (GoodP D) D.lp D.X D.n J Jx):StepOK D J Jx 0:=by
 intro P x na A B k m w hgd hI hx hj hq hl
 have hS:=hB.start
 have hd0:det 0 D.f=1:=by simp [det]
 rw [hd0,Qr_zero,Int.mul_one] at hq hl
 have h0:=hS.pd.qf_nonneg x
 have hn8:=hS.dim
 have HFit:Hid (∀ i,i < D.n→IntKind.i64.wrap (Sk D.U x D.n i)=Sk D.U x D.n i):=fun i hi=>by
  have h1:=in_fit (x:=fun k=>sm D.n fun i=>x i*D.U i k) hS0 hi (by rw [← hB.norm];omega)
  show IntKind.i64.wrap (sm D.n fun t=>x t*D.U t i)=sm D.n fun t=>x t*D.U t i
  exact wrap_fits h1
 rw [show (((0:Nat):Int) - 1) = -1 from rfl]
 unfold pt
 have HLeaf:=zH (Lists.leaf (n:=D.n) (f:=D.f) (nb:=D.nb) hq)
 have HTold:Hid (told D (vec D.n x)=(vec D.n fun k=>Sk D.U x D.n k,qf D.n D.f x)):=by
  unfold told
  have e1:(fun k=>sm D.n fun i=>vat (vec D.n x) i*D.U i k)=fun k=>Sk D.U x D.n k:=by
   funext k;exact zAC fun i hi=>by rw [zAv hi]
  rw [e1,zBz (x:=vat (vec D.n x)) (y:=x) fun i hi=>zAv hi]
  exact zH rfl
 have HGd:Hid (GoodP D ((P ++ [vec D.n x]).map (told D))):=by
  refine ⟨_,rfl,List.nodup_append.2 ⟨hgd.once,by simp,fun a ha b hb e=>?_⟩,fun v hv=>?_⟩
  ·subst e
   rw [List.mem_singleton] at hb
   subst hb
   exact hgd.out _ ha fun i _ hi=>zAv hi
  ·rcases List.mem_append.1 hv with h1|h1
   ·exact hgd.mem v h1
   ·rw [List.mem_singleton] at h1
    subst h1
    exact ⟨zBt _ _,by rw [zBz (x:=vat (vec D.n x)) (y:=x) fun i hi=>zAv hi];exact hq⟩
 clear hgd
 obtain ⟨R,hR⟩:∃ R:Ending→World→Prop,(fun e w'=>∃ b,e = .returned (.bool b)∧Goes D J Jx P 0 x w b w')=R:=⟨_,rfl⟩
 have HR:=zH hR
 rw [hR]
 clear hR
 obtain ⟨q,hqq⟩:∃ q,qf D.n D.f x=q:=⟨_,rfl⟩
 rw [hqq] at hq hl h0 HTold
 have HC:=zH hC
 have HI:=zH hI
 have HJ:=zH hj
 have HXn:=zH hx
 have HL:=zH hl
 have c1:=hI.vx.one.1
 have c2:=hI.vr.one.1
 have c3:=hI.vn.one.1
 have c4:=hI.vy.one.1
 have htX:=hI.tx
 obtain ⟨bx,ebx⟩:∃ b,D.bx=b:=⟨_,rfl⟩
 obtain ⟨br,ebr⟩:∃ b,D.br=b:=⟨_,rfl⟩
 obtain ⟨bn,ebn⟩:∃ b,D.bn=b:=⟨_,rfl⟩
 obtain ⟨byl,eby⟩:∃ b,D.byl=b:=⟨_,rfl⟩
 obtain ⟨n,en⟩:∃ b,D.n=b:=⟨_,rfl⟩
 obtain ⟨nb,enb⟩:∃ b,D.nb=b:=⟨_,rfl⟩
 obtain ⟨X,eX⟩:∃ b,D.X=b:=⟨_,rfl⟩
 obtain ⟨gr,egr⟩:∃ b,D.gr=b:=⟨_,rfl⟩
 obtain ⟨capr,ecr⟩:∃ b,D.capr=b:=⟨_,rfl⟩
 obtain ⟨lp,elp⟩:∃ b,D.lp=b:=⟨_,rfl⟩
 have hcr:=hI.cr
 rw [ebx,en,eX] at c1
 rw [ebr,en,egr,ecr] at c2
 rw [ebn,enb] at c3
 rw [eby,elp] at c4
 rw [eX] at htX
 rw [en,ecr] at hcr
 rw [ebx,ebr,ebn,eby]
 rw [enb] at hq hb hnb hl HL
 rw [en] at hn1 hn8 HFit
 have HXr:=zH (show NRow w X n x by rw [← eX,← en];exact hx)
 have HU:=zH (show URows w gr n D.rr D.cp D.U by rw [← egr,← en];exact hI.u)
 have HE:=zH (show D.n=n∧D.X=X∧D.nb=nb∧D.lp=lp∧qf D.n D.f x=q from ⟨en,eX,enb,elp,hqq⟩)
 have HcA:=zH (And.intro c1 (And.intro c2 (And.intro c3 c4)))
 have HFl:=zH (fun (W:World) (h:IsQ W na A k B m (nb - q) 1)=>floorV na A B k m (nb - q) 1 W h)
 obtain ⟨W0,hW0⟩:∃ W0,w.alloc (.cells #[.bool na,.slice A k k,.slice B m m] 144)=W0:=⟨_,rfl⟩
 have HX0:Hid (Ext w W0):=by rw [← hW0];exact (Ext.refl w).alloc _
 obtain ⟨b9,hb9⟩:∃ b,w.heap.size=b:=⟨_,rfl⟩
 have HK0:Hid (Blk W0 b9 144 #[.bool na,.slice A k k,.slice B m m]):=by rw [← hW0,← hb9];exact Blk.new _ _ _
 have hmn:=zDD (n:Int) n rfl om W0
 obtain ⟨cs,hmk,hT,hcl,hfr⟩:=hmn
 have HY0:Hid (NRow (W0.alloc (.cells cs 2)) W0.heap.size n (fun _=>0)):=⟨hcl,hfr,hT⟩
 obtain ⟨pbl,hpbl⟩:∃ p,Value.pointer (some ⟨D.bl,0,none⟩)=p:=⟨_,rfl⟩
 obtain ⟨pbt,hpbt⟩:∃ p,Value.pointer (some ⟨D.bt,0,none⟩)=p:=⟨_,rfl⟩
 rw [hpbl,hpbt]
 clear hI hx hj hl hB hS0 hS hd0 hC ebx ebr ebn eby en enb eX egr ecr elp hT hcl hfr hqq hpbl hpbt
 go_enter Tryz.func105,Tryz.ntmps105
 go_upto_region 1 with (fail)
 have c1w:=HX0.out.cell c1
 clear c1
 have c1:=c1w
 clear c1w
 have hbw:=HX0.out.size
 have hb9w:b9 < W0.heap.size:=HK0.out.lt
 go_upto_region 3 with (fail)
 obtain ⟨Y,hY⟩:∃ b,W0.heap.size=b:=⟨_,rfl⟩
 obtain ⟨W1,hW1⟩:∃ W1,W0.alloc (.cells cs 2)=W1:=⟨_,rfl⟩
 have h01:Ext W0 W1:=by rw [← hW1];exact (Ext.refl W0).alloc _
 have HX1:=zH (HX0.out.trans h01)
 have HK9:=zH (HK0.out.ext h01)
 rw [hW1,hY] at HY0
 rw [hW1,hY]
 have HYw:=zH (show w.heap.size≤Y by omega)
 have hYX:X≠Y:=by have:=htX.lt;omega
 have h9Y:b9≠Y:=by omega
 have HB9:=zH hb9
 have c1w:=h01.cell c1
 clear hmk hW1 hY hW0 hb9 h01 HX0 HK0 hbw hb9w c1 c2 c3 c4
 have c1:=c1w
 clear c1w
 have HYr:Hid (NRow W1 Y n (fun k=>IntKind.i64.wrap (Sk D.U x 0 k))):=HY0.out.congr fun j hj=>rfl
 clear HY0
 go_wp2
 go_loopg [33] n (fun kk kv wk=>∃ i:Nat,kk+i=n∧kv = .int .i64 i∧Hid (NRow wk Y n (fun k=>IntKind.i64.wrap (Sk D.U x i k)))∧Hid (Blk wk b9 144 #[.bool na,.slice A k k,.slice B m m])∧Hid (Ext w wk))
 case atStart=>exact ⟨0,by omega,rfl,HYr,HK9,HX1⟩
 clear HYr HK9 HX1 c1
 obtain ⟨i,hki,rfl,HN,HK,HX⟩:=hrel
 have c1:=HX.out.cell HcA.out.1
 by_cases hin:i < n
 ·skip
  have HKI:=zH hki
  clear hki
  have HN0:Hid (NRow wr Y n (fun k=>IntKind.i64.wrap (Sk D.U x (if k < 0 then i+1 else i) k))):=HN.out.congr fun j hj=>by rw [if_neg om]
  go_wp2
  go_loopg [38] n (fun kk kv wk=>∃ j:Nat,kk+j=n∧kv = .int .i64 j∧Hid (NRow wk Y n (fun k=>IntKind.i64.wrap (Sk D.U x (if k < j then i+1 else i) k)))∧Hid (Blk wk b9 144 #[.bool na,.slice A k k,.slice B m m])∧Hid (Ext w wk))
  case atStart=>exact ⟨0,by omega,rfl,HN0,HK,HX⟩
  clear HN0 HN HK HX c1
  obtain ⟨j,hkj,rfl,HN,HK,HX⟩:=hrel
  have c1:=HX.out.cell HcA.out.1
  by_cases hjn:j < n
  ·skip
   have HKJ:=zH hkj
   clear hkj
   have c2:=HX.out.cell HcA.out.2.1
   have cy:=HN.out.cell j hjn
   have fy:=HN.out.free j
   have cx:=(HXr.out.ext HX.out).cell i hin
   have cu:=HX.out.cell (HU.out.cell i hin)
   have hcap:=HU.out.cap i hin
   have cv:=((HU.out.row i hin).ext HX.out).cell j hjn
   obtain ⟨rri,hrri⟩:∃ z,D.rr i=z:=⟨_,rfl⟩
   obtain ⟨cpi,hcpi⟩:∃ z,D.cp i=z:=⟨_,rfl⟩
   obtain ⟨uv,huv⟩:∃ z,D.U i j=z:=⟨_,rfl⟩
   obtain ⟨xv,hxv⟩:∃ z,x i=z:=⟨_,rfl⟩
   obtain ⟨yv,hyv⟩:∃ z,Sk D.U x i j=z:=⟨_,rfl⟩
   rw [if_neg om,hyv] at cy
   rw [hrri,hcpi] at cu
   rw [hcpi] at hcap
   rw [hrri,huv] at cv
   rw [hxv] at cx
   obtain ⟨y0,hy0⟩:∃ z,IntKind.i64.wrap yv=z:=⟨_,rfl⟩
   rw [hy0] at cy
   have HV:=zH (show Sk D.U x (i+1) j=yv+xv*uv∧IntKind.i64.wrap yv=y0 from ⟨by rw [Sk_succ,hyv,hxv,huv],hy0⟩)
   clear hrri hcpi huv hxv hyv hy0
   have l1:=zAA c2
   have l2:=zAA cy
   have l3:=zAA cx
   have l4:=zAA cu
   have l5:=zAA cv
   simp only at l1 l2 l3 l4 l5
   go_upto_region 9 with (fail)
   have HKeepT:=zH (fun (w':World) (hx:Ext wr w')=>(show w'.cell? ⟨bx,0,none⟩=some (.slice (some ⟨X,0,none⟩) n n)∧w'.cell? ⟨br,0,none⟩=some (.slice (some ⟨gr,0,none⟩) n capr)∧w'.cell? ⟨Y,j,none⟩=some (.int .i64 y0)∧w'.cell? ⟨X,i,none⟩=some (.int .i64 xv)∧w'.cell? ⟨gr,i,none⟩=some (.slice (some ⟨rri,0,none⟩) n cpi)∧w'.cell? ⟨rri,j,none⟩=some (.int .i64 uv) from ⟨hx.cell c1,hx.cell c2,hx.cell cy,hx.cell cx,hx.cell cu,hx.cell cv⟩))
   refine rU HKeepT [18] [] 19 (fun hH hC=>?_)
   revert hC
   refine tk 0 19 hH ?_
   refine tk 1 19 hH ?_
   refine tk 2 19 hH ?_
   refine tk 3 19 hH ?_
   refine tk 4 19 hH ?_
   refine tk 5 19 hH ?_
   refine tk 6 19 hH ?_
   refine tk 7 19 hH ?_
   refine tk 8 19 hH ?_
   refine tk 9 19 hH ?_
   refine tk 10 19 hH ?_
   refine tk 11 19 hH ?_
   refine tk 12 19 hH ?_
   refine tk 13 19 hH ?_
   refine tk 14 19 hH ?_
   refine tk 15 19 hH ?_
   refine tk 16 19 hH ?_
   refine tk 17 19 hH ?_
   intro hC
   refine zAB hC (i:=18) Sg kr (fun K hK=>?_)
   go_simp
   refine hK.out _ _ (fun h=>by cases h) (fun hCn=>?_)
   clear hK K hC
   have hC:=hCn
   clear hCn
   try simp only [Act.put,sA,sB,sC]
   refine zAD kr ?_ _
   clear hC HKeepT
   try clear hH
   obtain ⟨V,hV⟩:∃ V,(wr.setCell ⟨Y,j,none⟩ (.int .i64 (IntKind.i64.wrap (y0+IntKind.i64.wrap (xv*uv))))).drew=V:=⟨_,rfl⟩
   have HN2:Hid (NRow V Y n (fun k=>IntKind.i64.wrap (Sk D.U x (if k < j+1 then i+1 else i) k))):=by
    rw [← hV]
    refine NRow.ext (NRow.congr (HN.out.set_ hjn _) fun k hk=>?_) (Ext.refl _).drew
    by_cases e:k=j
    ·subst e;rw [if_pos rfl,if_pos om,HV.out.1,← HV.out.2,wrap_addmul]
    ·rw [if_neg e]
     by_cases e2:k < j
     ·rw [if_pos e2,if_pos om]
     ·rw [if_neg e2,if_neg om]
   have HK2:Hid (Blk V b9 144 #[.bool na,.slice A k k,.slice B m m]):=by rw [← hV];exact (HK.out.far2 h9Y).ext (Ext.refl _).drew
   have HX2:Hid (Ext w V):=by rw [← hV];exact (HX.out.setCell (p:=⟨Y,j,none⟩) HYw.out _).drew
   rw [hV]
   clear hV HN HK HX HV c1 c2 cy fy cx cu cv hcap l1 l2 l3 l4 l5
   go_wp2
   go_roundg (n - (j+1))
   case measure=>have:=HKJ.out;omega
   case rel=>exact ⟨j+1,by have:=HKJ.out;omega,by go_num,HN2,HK2,HX2⟩
  ·skip
   obtain rfl:n=j:=by omega
   have HN2:Hid (NRow wr Y n (fun k=>IntKind.i64.wrap (Sk D.U x (i+1) k))):=HN.out.congr fun k hk=>by rw [if_pos hk]
   clear HN
   go_wp2
   go_roundg (n - (i+1))
   case measure=>have:=HKI.out;omega
   case rel=>exact ⟨i+1,by have:=HKI.out;omega,by go_num,HN2,HK,HX⟩
 ·skip
  obtain rfl:n=i:=by omega
  have HN2:Hid (NRow wr Y n (fun k=>Sk D.U x n k)):=HN.out.congr fun k hk=>HFit.out k hk
  clear HN hki hin c1
  obtain ⟨c9a,f9a,c9b,f9b,c9c,f9c⟩:=HK.out.three
  have HFl2:=zH (HFl.out wr (HL.out.ext HX.out))
  have HI64:=zH (fun W n1 A1 k1 (h:IsInt W n1 A1 k1 (nb - q))=>zCJ n1 A1 k1 (nb - q) W h)
  rw [show i64Z (nb - q)=nb - q from if_pos om,Int.natCast_one,Int.ediv_one] at *
  go_upto_region 13 with (first
   | (go_at_call 106;refine HFl2.out.mono ?_;rintro e v1 ⟨n2,A2,k2,rfl,hi2,hx⟩;have HX1:=zH hx;have HI2:=zH hi2;clear hx hi2)
   | (go_at_call 107;refine (HI64.out _ _ _ _ HI2.out).mono ?_;rintro e v2 ⟨rfl,hx⟩;have HX2:=zH (HX1.out.trans hx);clear hx))
  have HXv:=zH (HX.out.trans HX2.out)
  have c3:=HXv.out.cell HcA.out.2.2.1
  have c4:=HXv.out.cell HcA.out.2.2.2
  have hNv:NRow v2 Y D.n (vat (vec D.n fun k=>Sk D.U x D.n k)):=by
   rw [HE.out.1]
   exact (HN2.out.ext HX2.out).congr fun k hk=>(zAv hk).symm
  have hgd2:GoodP D (P.map (told D) ++ [(vec D.n fun k=>Sk D.U x D.n k,nb - (nb - q))]):=by
   have h:=HGd.out
   rw [List.map_append,List.map_cons,List.map_nil,HTold.out] at h
   rw [show nb - (nb - q)=q by omega]
   exact h
  obtain ⟨fn1,tm1,as1,bd1,hy1,hR1⟩:=HC.out.round 1 (P.map (told D)) (vec D.n fun k=>Sk D.U x D.n k) (nb - (nb - q)) Y w v2 hgd2 HJ.out (HXv.out.toBut _) HYw.out hNv (by rw [HE.out.2.1];exact Ne.symm hYX) (HI.out.ext HXv.out).tx (zBt _ _) om om
  rw [HE.out.1,HE.out.2.2.2.1] at hy1
  rw [HE.out.2.2.2.1] at hR1
  have HR1:=zH hR1
  clear hR1 hNv hgd2
  refine (wpIn_wide (n:=2)).1 ?_
  gi_wp2
  refine HR1.out.mono ?_
  rintro e w9 (⟨rfl,hJ9,hY9⟩|⟨rfl,hx9⟩)
  ·have HJ9:=zH hJ9
   have HY9:=zH hY9
   clear hJ9 hY9
   gi_wp2
   (try go_wp2)
   have HF:Goes D J Jx P 0 x w true w9:=by
    refine Or.inl ⟨rfl,x,[vec D.n x],HY9.out.nrow (HXn.out.ext HXv.out),fun _ _ _=>rfl,HLeaf.out,?_,(SK.of_ext HXv.out).trans (HY9.out.sk D.X)⟩
    have h:=HJ9.out
    rw [show nb - (nb - q)=q by omega,← HTold.out] at h
    rw [List.map_append,List.map_cons,List.map_nil]
    exact h
   first
   | (rw [← HR.out];exact ⟨true,rfl,HF⟩)
  ·have HX9:=zH hx9
   clear hx9
   gi_wp2
   (try go_wp2)
   first
   | (rw [← HR.out];exact ⟨false,rfl,Or.inr ⟨rfl,HX9.out⟩⟩)
end Go.Proofs.YtdkgilioejdmeaaGreat
