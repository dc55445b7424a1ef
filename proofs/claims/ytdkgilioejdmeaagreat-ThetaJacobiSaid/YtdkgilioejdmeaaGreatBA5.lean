/- YtdkgilioejdmeaaGreatBA5: what is proved here stands in the theorems' own rows. -/
import Derived.Deep.RegionHeld
import Derived.StillTail
import Derived.StillTailTactics
import Derived.Deep.RegionHeld3
import Derived.Test.YtdkgilioejdmeaaGreatBA1
import Derived.Test.YtdkgilioejdmeaaGreatBA3
import Derived.Test.YtdkgilioejdmeaaGreatBA4
set_option linter.unusedVariables false
set_option linter.unusedSimpArgs false
namespace Go.Proofs.YtdkgilioejdmeaaGreat
open Go.RowKit
def roundQ (num:Int) (less:Nat):Int:=if restQ num less < less+1 - restQ num less then floorQ num less else fitZ (floorQ num less+1)
theorem cmpN_lt {a b:Nat}:(cmpN a b < 0)↔a < b:=by unfold cmpN;split <;> (try split) <;> omega
set_option maxHeartbeats 8000000 in
theorem round_any (na:Bool) (A B:Option Addr) (k m:Nat) (num:Int) (less:Nat) (w:World) (h:IsRat w na A k B m num less) :
  Calls Tryz.prog 109 #[.agg #[.bool na,.slice A k k,.slice B m m]] w fun e w'=>∃ n A' k',e = .returned (.agg #[.bool n,.slice A' k' k'])∧IsInt w' n A' k' (roundQ num less)∧Ext w w':=by
 obtain ⟨W0,HWW0,hXW0,hsW0,c0a,f0a,c0b,f0b,c0c,f0c,c1a,f1a,c1b,f1b⟩:=bx32 w 144 49 (.bool na) (.slice A k k) (.slice B m m) (.bool false) (.slice none 0 0)
 have HX:=zH hXW0
 have HR0:=zH (h.ext hXW0)
 have hrl:=zBP num less
 have HBr:=zH (show bitsN (restQ num less)≤4096 from Nat.le_trans (zAG (Nat.le_of_lt hrl)) h.bits)
 have HRs:=zH (fun W (hx:Ext W0 W)=>zCw na A B k m num less W ((h.ext hXW0).ext hx))
 have HFl:=zH (fun W (hx:Ext W0 W)=>zCP na A B k m num less W ((h.ext hXW0).ext hx))
 have HQ:Hid (∀ q,roundQ num less=q→(if restQ num less < less+1 - restQ num less then floorQ num less else fitZ (floorQ num less+1))=q):=fun q hq=>hq
 obtain ⟨r,hr⟩:∃ r,restQ num less=r:=⟨_,rfl⟩
 obtain ⟨f,hf⟩:∃ f,floorQ num less=f:=⟨_,rfl⟩
 obtain ⟨q,hq⟩:∃ q,roundQ num less=q:=⟨_,rfl⟩
 have hqd:=HQ.out q hq
 rw [hr,hf] at hqd
 rw [hr] at HBr HRs hrl
 rw [hf] at HFl
 rw [hq]
 clear HQ hq hr hf
 clear h hXW0
 go_enter Tryz.func109,Tryz.ntmps109
 go_wp2
 rw [HWW0.out]
 clear HWW0
 go_upto_region 1 with (fail)
 go_cut [3,4] (fun s3 s4 wx=>∃ b3,∃ b4,s3 = .pointer (some ⟨b3,0,none⟩)∧s4 = .pointer (some ⟨b4,0,none⟩)∧W0.heap.size≤b3∧W0.heap.size≤b4∧Hid (NatB wx b3 r)∧Hid (IntB wx b4 f)∧Hid (Ext W0 wx))
 case first =>
  have HKeep:=zH (fun (w':World) (hx:Ext W0 w')=>(show w'.cell? ⟨w.heap.size,0,none⟩=some (.bool na)∧w'.cell? ⟨w.heap.size,1,none⟩=some (.slice A k k)∧w'.cell? ⟨w.heap.size,2,none⟩=some (.slice B m m) from ⟨hx.cell c0a,hx.cell c0b,hx.cell c0c⟩))
  go_region_held3 (fun w'=>w'.cell? ⟨w.heap.size,0,none⟩=some (.bool na)∧w'.cell? ⟨w.heap.size,1,none⟩=some (.slice A k k)∧w'.cell? ⟨w.heap.size,2,none⟩=some (.slice B m m)) (exact HKeep.out _ Ext.ua)
   (first
    | (go_at_call 147;refine (HRs.out _ Ext.ua).mono ?_;rintro e w1 ⟨e1,a1,rfl,hn1,hx⟩;(first|(have k1:=blk2 hx)|(have k1:=blk1 hx)|(have k1:=True.intro));have hxN:Ext W0 w1:=Ext.trans Ext.ua hx;have hxA:=hxN;clear hxN;have HN1:=zH hn1;clear hn1;have hs1:=hxA.size;have hz1:=hx.size;(try simp only [World.size_alloc,World.size_drew,World.size_setCell] at hz1);  clear hx)
    | (go_at_call 106;refine (HFl.out _ Ext.ua).mono ?_;rintro e w2 ⟨n2,e2,a2,rfl,hn2,hx⟩;(first|(have k2:=blk2n hx)|(have k2:=blk1n hx)|(have k2:=True.intro));(first|(have kk:=carry2 k1 (Ext.trans Ext.ud hx);clear k1;have k1:=kk;clear kk)|(have kk:=carry1 k1 (Ext.trans Ext.ud hx);clear k1;have k1:=kk;clear kk)|skip);have hxN:Ext W0 w2:=Ext.trans Ext.ua hx;(try clear hxA);have hxA:=hxN;clear hxN;have HN2:=zH hn2;clear hn2;(first|(have hh:=zH (HN1.out.ext (Ext.trans Ext.ub hx));clear HN1;have HN1:=hh;clear hh));have hs2:=hxA.size;have hz2:=hx.size;(try simp only [World.size_alloc,World.size_drew,World.size_setCell] at hz2);(first|(have zl1:=Blk.lt k1)|skip);(first|(have zz:=Blk.one k1;obtain ⟨zc1,zf1⟩:=zz)|(have zz:=Blk.two k1;obtain ⟨zc1,zf1,zd1,zg1⟩:=zz)|skip);(first|(have zl1a:=Blk.lt k1.1)|skip);(first|(have zz:=Blk.one k1.1;obtain ⟨zc1a,zf1a⟩:=zz)|(have zz:=Blk.two k1.1;obtain ⟨zc1a,zf1a,zd1a,zg1a⟩:=zz)|skip);(first|(have zl1b:=Blk.lt k1.2)|skip);(first|(have zz:=Blk.one k1.2;obtain ⟨zc1b,zf1b⟩:=zz)|(have zz:=Blk.two k1.2;obtain ⟨zc1b,zf1b,zd1b,zg1b⟩:=zz)|skip);(first|(have zl2:=Blk.lt k2)|skip);(first|(have zz:=Blk.one k2;obtain ⟨zc2,zf2⟩:=zz)|(have zz:=Blk.two k2;obtain ⟨zc2,zf2,zd2,zg2⟩:=zz)|skip);(first|(have zl2a:=Blk.lt k2.1)|skip);(first|(have zz:=Blk.one k2.1;obtain ⟨zc2a,zf2a⟩:=zz)|(have zz:=Blk.two k2.1;obtain ⟨zc2a,zf2a,zd2a,zg2a⟩:=zz)|skip);(first|(have zl2b:=Blk.lt k2.2)|skip);(first|(have zz:=Blk.one k2.2;obtain ⟨zc2b,zf2b⟩:=zz)|(have zz:=Blk.two k2.2;obtain ⟨zc2b,zf2b,zd2b,zg2b⟩:=zz)|skip);  clear hx))
  all_goals
   go_wp2
   refine Met.intro ?_
   go_step
   (repeat apply Exists.intro)
   refine And.symm ⟨?_,?_⟩
   ·first|with_reducible rfl
   first
   | exact ⟨_,_,rfl,rfl,(by first|exact Nat.le_refl _|assumption|omega),(by first|exact Nat.le_refl _|assumption|omega),zH (NatB.mk2 (HBr.out) (by (with_reducible repeat (first|exact Blk.at (by first|rfl|(simp only [World.size_setCell,World.size_alloc];done))|exact Blk.put1 (by (with_reducible repeat (first|exact BlkN.of k1 rfl|exact BlkN.of k1.1 rfl|exact BlkN.of k1.2 rfl|exact BlkN.of k2 rfl|exact BlkN.of k2.1 rfl|exact BlkN.of k2.2 rfl)))|refine Blk.far' ?_ om|refine Blk.al ?_))) (by (with_reducible repeat (first|exact HN1.out|refine IsNat.al ?_|refine IsNat.setN (by (with_reducible repeat (first|exact NB.of k1 (by decide)|exact NB.of k1.1 (by decide)|exact NB.of k1.2 (by decide)|exact NB.of k2 (by decide)|exact NB.of k2.1 (by decide)|exact NB.of k2.2 (by decide)|refine NB.set ?_))) ?_)))),zH (IntB.mk2 (by (with_reducible repeat (first|exact Blk.at (by first|rfl|(simp only [World.size_setCell,World.size_alloc];done))|exact Blk.put2 (by (with_reducible repeat (first|exact BlkN.of k1 rfl|exact BlkN.of k1.1 rfl|exact BlkN.of k1.2 rfl|exact BlkN.of k2 rfl|exact BlkN.of k2.1 rfl|exact BlkN.of k2.2 rfl|refine BlkN.far ?_ om)))|refine Blk.al ?_))) (by (with_reducible repeat (first|exact HN2.out|refine IsInt.al ?_|refine IsInt.setN (by (with_reducible repeat (first|exact NB.of k1 (by decide)|exact NB.of k1.1 (by decide)|exact NB.of k1.2 (by decide)|exact NB.of k2 (by decide)|exact NB.of k2.1 (by decide)|exact NB.of k2.2 (by decide)|refine NB.set ?_))) ?_)))),zH Ext.ua⟩
 obtain ⟨b3,b4,rfl,rfl,hb3,hb4,HB3,HB4,HX1⟩:=hcut
 obtain ⟨W1,hWn⟩:∃ W1,wc=W1:=⟨_,rfl⟩
 rw [hWn] at HB3 HB4 HX1 ⊢
 clear hWn wc
 replace f0a:=HX1.out.free f0a (zAA c0a)
 replace c0a:=HX1.out.cell c0a
 replace f0b:=HX1.out.free f0b (zAA c0b)
 replace c0b:=HX1.out.cell c0b
 replace f0c:=HX1.out.free f0c (zAA c0c)
 replace c0c:=HX1.out.cell c0c
 replace f1a:=HX1.out.free f1a (zAA c1a)
 replace c1a:=HX1.out.cell c1a
 replace f1b:=HX1.out.free f1b (zAA c1b)
 replace c1b:=HX1.out.cell c1b
 replace HR0:=zH (HR0.out.ext HX1.out)
 replace HX:=zH (HX.out.trans HX1.out)
 have hszW1:=HX1.out.size
 obtain ⟨A3,k3,q3,hn3⟩:=HB3.out.box
 obtain ⟨c3,f3⟩:=q3.one
 have hl3:=q3.lt
 have HN3:=zH hn3
 clear hn3 q3 HB3
 obtain ⟨n4,A4,k4,q4,hn4⟩:=HB4.out.box
 obtain ⟨c4a,f4a,c4b,f4b⟩:=q4.two
 have hl4:=q4.lt
 have HN4:=zH hn4
 clear hn4 q4 HB4
 have HDe:=zH (fun W (hx:Ext W1 W)=>zA0 na A B k m num less W (HR0.out.ext hx))
 have HSu:=zH (fun W (hx:Ext W1 W) E e (he:IsNat W E e (less+1))=>zCi E A3 e k3 (less+1) r W he (HN3.out.ext hx) (by have:=zAK he HR0.out.bits;omega) (by have:=zAK HN3.out HBr.out;omega) om)
 have HBl:=zH (show bitsN (less+1 - r)≤4096 from Nat.le_trans (zAG (Nat.sub_le _ _)) HR0.out.bits)
 go_upto_region 2 with (fail)
 go_cut [5] (fun s5 wx=>∃ b5,s5 = .pointer (some ⟨b5,0,none⟩)∧W1.heap.size≤b5∧Hid (NatB wx b5 (less+1 - r))∧Hid (Ext W1 wx))
 case first =>
  have HKeep:=zH (fun (w':World) (hx:Ext W1 w')=>(show w'.cell? ⟨w.heap.size,0,none⟩=some (.bool na)∧w'.cell? ⟨w.heap.size,1,none⟩=some (.slice A k k)∧w'.cell? ⟨w.heap.size,2,none⟩=some (.slice B m m)∧w'.cell? ⟨b3,0,none⟩=some (.slice A3 k3 k3) from ⟨hx.cell c0a,hx.cell c0b,hx.cell c0c,hx.cell c3⟩))
  go_region_held3 (fun w'=>w'.cell? ⟨w.heap.size,0,none⟩=some (.bool na)∧w'.cell? ⟨w.heap.size,1,none⟩=some (.slice A k k)∧w'.cell? ⟨w.heap.size,2,none⟩=some (.slice B m m)∧w'.cell? ⟨b3,0,none⟩=some (.slice A3 k3 k3)) (exact HKeep.out _ Ext.ua)
   (first
    | (go_at_call 146;refine (HDe.out _ Ext.ua).mono ?_;rintro e w1 ⟨e1,a1,rfl,hn1,hx⟩;(first|(have k1:=blk1 hx)|(have k1:=True.intro));have hxA:Ext W1 w1:=Ext.trans Ext.ua hx;have HN1:=zH hn1;clear hn1;have hs1:=hxA.size;have hz1:=hx.size;(try simp only [World.size_alloc,World.size_drew,World.size_setCell] at hz1);  clear hx)
    | (go_at_call 116;refine (HSu.out _ Ext.ua _ _ (HN1.out.ext Ext.ub)).mono ?_;rintro e w2 ⟨A2,e2,rfl,hn2,he2,hx⟩;(first|(have k2:=blk1n hx)|(have k2:=True.intro));(first|(have kk:=carry1 k1 (Ext.trans Ext.ud hx);clear k1;have k1:=kk;clear kk)|skip);have hxN:Ext W1 w2:=Ext.trans Ext.ua hx;clear hxA;have hxA:=hxN;clear hxN;have HN2:=zH hn2;clear hn2;(first|(have hh:=zH (HN1.out.ext (Ext.trans Ext.ub hx));clear HN1;have HN1:=hh;clear hh));clear he2;have hs2:=hxA.size;have hz2:=hx.size;(try simp only [World.size_alloc,World.size_drew,World.size_setCell] at hz2);(first|(have zl1:=Blk.lt k1)|skip);(first|(have zz:=Blk.one k1;obtain ⟨zc1,zf1⟩:=zz)|skip);(first|(have zl2:=Blk.lt k2)|skip);(first|(have zz:=Blk.one k2;obtain ⟨zc2,zf2⟩:=zz)|skip);  clear hx))
  all_goals
   go_wp2
   refine Met.intro ?_
   go_step
   (repeat apply Exists.intro)
   refine And.symm ⟨?_,?_⟩
   ·first|with_reducible rfl
   first
   | exact ⟨_,rfl,(by first|exact Nat.le_refl _|assumption),zH (NatB.mk2 (HBl.out) (by (with_reducible repeat (first|exact Blk.at (by first|rfl)|exact Blk.put1 (by (with_reducible repeat (first|exact BlkN.of k1 rfl|exact BlkN.of k2 rfl)))))) (by (with_reducible repeat (first|exact HN2.out|refine IsNat.al ?_|refine IsNat.setN (by (with_reducible repeat (first|exact NB.of k1 (by decide)|exact NB.of k2 (by decide)))) ?_)))),zH Ext.ua⟩
 obtain ⟨b5,rfl,hb5,HB5,HX2⟩:=hcut
 obtain ⟨W2,hWn⟩:∃ W2,wc=W2:=⟨_,rfl⟩
 rw [hWn] at HB5 HX2 ⊢
 clear hWn wc
 replace f0a:=HX2.out.free f0a (zAA c0a)
 replace c0a:=HX2.out.cell c0a
 replace f0b:=HX2.out.free f0b (zAA c0b)
 replace c0b:=HX2.out.cell c0b
 replace f0c:=HX2.out.free f0c (zAA c0c)
 replace c0c:=HX2.out.cell c0c
 replace f1a:=HX2.out.free f1a (zAA c1a)
 replace c1a:=HX2.out.cell c1a
 replace f1b:=HX2.out.free f1b (zAA c1b)
 replace c1b:=HX2.out.cell c1b
 replace f3:=HX2.out.free f3 (zAA c3)
 replace c3:=HX2.out.cell c3
 replace f4a:=HX2.out.free f4a (zAA c4a)
 replace c4a:=HX2.out.cell c4a
 replace f4b:=HX2.out.free f4b (zAA c4b)
 replace c4b:=HX2.out.cell c4b
 replace HR0:=zH (HR0.out.ext HX2.out)
 replace HN3:=zH (HN3.out.ext HX2.out)
 replace HN4:=zH (HN4.out.ext HX2.out)
 replace HX:=zH (HX.out.trans HX2.out)
 have hszW2:=HX2.out.size
 obtain ⟨A5,k5,q5,hn5⟩:=HB5.out.box
 obtain ⟨c5,f5⟩:=q5.one
 have hl5:=q5.lt
 have HN5:=zH hn5
 clear hn5 q5 HB5
 clear HRs HFl HDe HSu
 have HCm:=zH (fun W (hx:Ext W2 W)=>zBS A3 A5 k3 k5 r (less+1 - r) W (HN3.out.ext hx) (HN5.out.ext hx) (by have:=zAK HN3.out HBr.out;omega) (by have:=zAK HN5.out HBl.out;omega))
 obtain ⟨cm,hcm⟩:∃ cm,cmpN r (less+1 - r)=cm:=⟨_,rfl⟩
 have hcl:cm < 0↔r < less+1 - r:=by rw [← hcm];exact cmpN_lt
 rw [hcm] at HCm
 clear hcm
 by_cases hlt:r < less+1 - r
 ·have hc0:cm < 0:=hcl.2 hlt
  rw [if_pos hlt] at hqd
  have HQ:=zH hqd
  clear hqd hcl hlt hrl
  go_wp2_with (first
   | (go_at_call 60;refine (HCm.out _ Ext.ua).mono ?_;rintro e w1 ⟨rfl,hx⟩;have hxN:Ext W2 w1:=Ext.trans Ext.ua hx;have hxA:=hxN;clear hxN;  have tc1a:=hxA.cell c1a;have uc1a:=hxA.free f1a (zAA c1a);have tc1b:=hxA.cell c1b;have uc1b:=hxA.free f1b (zAA c1b);have tc4a:=hxA.cell c4a;have uc4a:=hxA.free f4a (zAA c4a);have tc4b:=hxA.cell c4b;have uc4b:=hxA.free f4b (zAA c4b);clear hx))
  exact bodyPost_ret (v:=.agg #[.bool n4,.slice A4 k4 k4]) (by simp [results,Tryz.results109,go_sem,tc1a,tc1b]) rfl ⟨n4,A4,k4,rfl,by rw [← HQ.out];exact ((HN4.out.ext hxA).setBool tc1a _).setBox (zBJ tc1b (by decide)) _,by have hh:=HX.out.trans hxA;exact (by repeat (first|exact hh|refine Ext.setCell ?_ (by first|(simp only [];omega)) _))⟩
 ·have hc0:0≤cm:=by omega
  rw [if_neg hlt] at hqd
  have HQ:=zH hqd
  clear hqd hcl hlt hrl
  go_upto_region 5 with (first
    | (go_at_call 60;refine (HCm.out _ Ext.ua).mono ?_;rintro e u1 ⟨rfl,hx⟩;have hxN:Ext W2 u1:=Ext.trans Ext.ua hx;have hxA:=hxN;clear hxN;  clear hx))
  have HXq:=zH hxA
  clear hxA HCm
  replace f0a:=HXq.out.free f0a (zAA c0a)
  replace c0a:=HXq.out.cell c0a
  replace f0b:=HXq.out.free f0b (zAA c0b)
  replace c0b:=HXq.out.cell c0b
  replace f0c:=HXq.out.free f0c (zAA c0c)
  replace c0c:=HXq.out.cell c0c
  replace f1a:=HXq.out.free f1a (zAA c1a)
  replace c1a:=HXq.out.cell c1a
  replace f1b:=HXq.out.free f1b (zAA c1b)
  replace c1b:=HXq.out.cell c1b
  replace f3:=HXq.out.free f3 (zAA c3)
  replace c3:=HXq.out.cell c3
  replace f4a:=HXq.out.free f4a (zAA c4a)
  replace c4a:=HXq.out.cell c4a
  replace f4b:=HXq.out.free f4b (zAA c4b)
  replace c4b:=HXq.out.cell c4b
  replace f5:=HXq.out.free f5 (zAA c5)
  replace c5:=HXq.out.cell c5
  replace HR0:=zH (HR0.out.ext HXq.out)
  replace HN3:=zH (HN3.out.ext HXq.out)
  replace HN4:=zH (HN4.out.ext HXq.out)
  replace HN5:=zH (HN5.out.ext HXq.out)
  replace HX:=zH (HX.out.trans HXq.out)
  have hszu1:=HXq.out.size
  have HOne:=zH (fun W=>zBi 1 W om om)
  have HAd:=zH (fun W (hx:Ext u1 W) nn E e (he:IsInt W nn E e 1)=>zBR n4 nn A4 E k4 e f 1 W (HN4.out.ext hx) he)
  obtain ⟨fq,hfq⟩:∃ fq,fitZ (f+1)=fq:=⟨_,rfl⟩
  rw [hfq] at HAd HQ
  clear hfq
  go_cut [7] (fun s7 wx=>∃ b7,s7 = .pointer (some ⟨b7,0,none⟩)∧u1.heap.size≤b7∧Hid (IntB wx b7 fq)∧Hid (Ext u1 wx))
  case first =>
   have HKeep:=zH (fun (w':World) (hx:Ext u1 w')=>(show w'.cell? ⟨b4,0,none⟩=some (.bool n4)∧w'.cell? ⟨b4,1,none⟩=some (.slice A4 k4 k4) from ⟨hx.cell c4a,hx.cell c4b⟩))
   go_region_held3 (fun w'=>w'.cell? ⟨b4,0,none⟩=some (.bool n4)∧w'.cell? ⟨b4,1,none⟩=some (.slice A4 k4 k4)) (exact HKeep.out _ Ext.ua)
    (first
     | (go_at_call 24;refine (HOne.out _).mono ?_;rintro e w1 ⟨e1,a1,rfl,hn1,hx⟩;(first|(have k1:=blk1 hx)|(have k1:=True.intro));have hxA:Ext u1 w1:=Ext.trans Ext.ua hx;have HN1:=zH hn1;clear hn1;have hs1:=hxA.size;have hz1:=hx.size;(try simp only [World.size_alloc,World.size_drew,World.size_setCell] at hz1);  clear hx)
     | (go_at_call 67;refine (HAd.out _ Ext.ua _ _ _ (HN1.out.ext Ext.ub)).mono ?_;rintro e w2 ⟨n2,A2,e2,rfl,hn2,hx⟩;(first|(have k2:=blk1n hx)|(have k2:=True.intro));(first|(have kk:=carry1 k1 (Ext.trans Ext.ud hx);clear k1;have k1:=kk;clear kk)|skip);have hxN:Ext u1 w2:=Ext.trans Ext.ua hx;clear hxA;have hxA:=hxN;clear hxN;have HN2:=zH hn2;clear hn2;(first|(have hh:=zH (HN1.out.ext (Ext.trans Ext.ub hx));clear HN1;have HN1:=hh;clear hh));have hs2:=hxA.size;have hz2:=hx.size;(try simp only [World.size_alloc,World.size_drew,World.size_setCell] at hz2);(first|(have zl1:=Blk.lt k1)|skip);(first|(have zz:=Blk.two k1;obtain ⟨zc1,zf1,zd1,zg1⟩:=zz)|skip);(first|(have zl2:=Blk.lt k2)|skip);(first|(have zz:=Blk.two k2;obtain ⟨zc2,zf2,zd2,zg2⟩:=zz)|skip);  clear hx))
   all_goals
    go_wp2
    refine Met.intro ?_
    go_step
    (repeat apply Exists.intro)
    refine And.symm ⟨?_,?_⟩
    ·first|with_reducible rfl
    first
    | exact ⟨_,rfl,(by first|exact Nat.le_refl _|assumption),zH (IntB.mk2 (by (with_reducible repeat (first|exact Blk.at (by first|rfl)|exact Blk.put2 (by (with_reducible repeat (first|exact BlkN.of k1 rfl|exact BlkN.of k2 rfl)))))) (by (with_reducible repeat (first|exact HN2.out|refine IsInt.al ?_|refine IsInt.setN (by (with_reducible repeat (first|exact NB.of k1 (by decide)|exact NB.of k2 (by decide)|refine NB.set ?_))) ?_)))),zH Ext.ua⟩
  obtain ⟨b7,rfl,hb7,HB7,HX3⟩:=hcut
  obtain ⟨W3,hWn⟩:∃ W3,wc=W3:=⟨_,rfl⟩
  rw [hWn] at HB7 HX3 ⊢
  clear hWn wc
  replace f0a:=HX3.out.free f0a (zAA c0a)
  replace c0a:=HX3.out.cell c0a
  replace f0b:=HX3.out.free f0b (zAA c0b)
  replace c0b:=HX3.out.cell c0b
  replace f0c:=HX3.out.free f0c (zAA c0c)
  replace c0c:=HX3.out.cell c0c
  replace f1a:=HX3.out.free f1a (zAA c1a)
  replace c1a:=HX3.out.cell c1a
  replace f1b:=HX3.out.free f1b (zAA c1b)
  replace c1b:=HX3.out.cell c1b
  replace f3:=HX3.out.free f3 (zAA c3)
  replace c3:=HX3.out.cell c3
  replace f4a:=HX3.out.free f4a (zAA c4a)
  replace c4a:=HX3.out.cell c4a
  replace f4b:=HX3.out.free f4b (zAA c4b)
  replace c4b:=HX3.out.cell c4b
  replace f5:=HX3.out.free f5 (zAA c5)
  replace c5:=HX3.out.cell c5
  replace HR0:=zH (HR0.out.ext HX3.out)
  replace HN3:=zH (HN3.out.ext HX3.out)
  replace HN4:=zH (HN4.out.ext HX3.out)
  replace HN5:=zH (HN5.out.ext HX3.out)
  replace HX:=zH (HX.out.trans HX3.out)
  have hszW3:=HX3.out.size
  obtain ⟨n7,A7,k7,q7,hn7⟩:=HB7.out.box
  obtain ⟨c7a,f7a,c7b,f7b⟩:=q7.two
  have hl7:=q7.lt
  have HN7:=zH hn7
  clear hn7 q7 HB7
  go_wp2
  exact bodyPost_ret (v:=.agg #[.bool n7,.slice A7 k7 k7]) (by simp [results,Tryz.results109,go_sem,c1a,c1b]) rfl ⟨n7,A7,k7,rfl,by rw [← HQ.out];exact (HN7.out.setBool c1a _).setBox (zBJ c1b (by decide)) _,by have hh:=HX.out;exact (by repeat (first|exact hh|refine Ext.setCell ?_ (by first|(simp only [];omega)) _))⟩
end Go.Proofs.YtdkgilioejdmeaaGreat
namespace Go.Proofs.YtdkgilioejdmeaaGreat
open Go.RowKit
def cmpQ (a:Int) (c:Nat) (b:Int) (d:Nat):Int:=signZ (a*((d:Int)+1) - b*((c:Int)+1))
theorem zBv (num:Int) (less:Nat):num=floorQ num less*((less:Int)+1)+(restQ num less:Nat):=by
 unfold floorQ restQ
 have h:=Int.emod_nonneg num (b:=(less:Int)+1) om
 have:=Int.mul_ediv_add_emod num ((less:Int)+1)
 rw [Int.toNat_of_nonneg h,Int.mul_comm];omega
theorem signZ_pos' {z:Int} (h:0 < z):signZ z=1:=by unfold signZ;rw [if_neg om,if_neg om]
theorem signZ_neg' {z:Int} (h:z < 0):signZ z = -1:=by unfold signZ;rw [if_neg om,if_pos h]
theorem zBc {a b:Int} {c d:Nat} (h:floorQ a c=floorQ b d):a*((d:Int)+1) - b*((c:Int)+1)=(restQ a c:Int)*((d:Int)+1) - (restQ b d:Int)*((c:Int)+1):=by
 have ha:=zBv a c
 have hb:=zBv b d
 rw [h] at ha
 generalize floorQ b d=p at *
 generalize (restQ a c:Int)=r at *
 generalize (restQ b d:Int)=s at *
 generalize (c:Int)+1=C at *
 generalize (d:Int)+1=D at *
 subst ha
 subst hb
 rw [Int.add_mul,Int.add_mul,Int.mul_assoc,Int.mul_assoc,Int.mul_comm C D]
 omega
theorem cmpQ_lt {a b:Int} {c d:Nat} (h:floorQ a c < floorQ b d):cmpQ a c b d = -1:=by
 unfold cmpQ
 refine signZ_neg' ?_
 have ha:=zBv a c
 have hb:=zBv b d
 have hr:=zBP a c
 have hs:=zBP b d
 have h1:(floorQ a c+1)*((c:Int)+1)≤floorQ b d*((c:Int)+1):=Int.mul_le_mul_of_nonneg_right om om
 have e1:a*((d:Int)+1) < (floorQ a c+1)*((c:Int)+1)*((d:Int)+1):=Int.mul_lt_mul_of_pos_right (by rw [Int.add_mul];omega) om
 have e2:floorQ b d*((d:Int)+1)*((c:Int)+1)≤b*((c:Int)+1):=Int.mul_le_mul_of_nonneg_right om om
 have e3:(floorQ a c+1)*((c:Int)+1)*((d:Int)+1)≤floorQ b d*((c:Int)+1)*((d:Int)+1):=Int.mul_le_mul_of_nonneg_right h1 om
 rw [Int.mul_right_comm] at e2
 omega
theorem cmpQ_neg (a b:Int) (c d:Nat):cmpQ b d a c = -cmpQ a c b d:=by
 unfold cmpQ
 generalize a*((d:Int)+1)=x
 generalize b*((c:Int)+1)=y
 unfold signZ
 by_cases h:x=y
 ·rw [if_pos om,if_pos om];rfl
 ·by_cases h2:x < y
  ·rw [if_neg om,if_neg om,if_neg om,if_pos om];rfl
  ·rw [if_neg om,if_pos om,if_neg om,if_neg om]
theorem cmpQ_floor {a b:Int} {c d:Nat} (h:cmpZ (floorQ a c) (floorQ b d)≠0):cmpQ a c b d=cmpZ (floorQ a c) (floorQ b d):=by
 unfold cmpZ at h ⊢
 by_cases h1:floorQ a c < floorQ b d
 ·rw [if_pos h1];exact cmpQ_lt h1
 ·rw [if_neg h1] at h ⊢
  by_cases h2:floorQ a c=floorQ b d
  ·rw [if_pos h2] at h;exact absurd rfl h
  ·rw [if_neg h2]
   have:=cmpQ_lt (a:=b) (b:=a) (c:=d) (d:=c) om
   have h3:=cmpQ_neg b a d c
   rw [h3,this];rfl
theorem cmpZ_zero {a b:Int} (h:cmpZ a b=0):a=b:=by
 unfold cmpZ at h
 by_cases h1:a < b
 ·rw [if_pos h1] at h;omega
 ·rw [if_neg h1] at h
  by_cases h2:a=b
  ·exact h2
  ·rw [if_neg h2] at h;omega
theorem cmpQ_both {a b:Int} {c d:Nat} (h:floorQ a c=floorQ b d) (hr:restQ a c=0) (hs:restQ b d=0):cmpQ a c b d=0:=by
 unfold cmpQ;rw [zBc h,hr,hs];simp [signZ]
theorem cmpQ_left {a b:Int} {c d:Nat} (h:floorQ a c=floorQ b d) (hr:restQ a c=0) (hs:restQ b d≠0):cmpQ a c b d = -1:=by
 unfold cmpQ;rw [zBc h,hr]
 refine signZ_neg' ?_
 have:0 < (restQ b d:Int)*((c:Int)+1):=Int.mul_pos om om
 simp only [Int.natCast_zero,Int.zero_mul];omega
theorem cmpQ_right {a b:Int} {c d:Nat} (h:floorQ a c=floorQ b d) (hr:restQ a c≠0) (hs:restQ b d=0):cmpQ a c b d=1:=by
 unfold cmpQ;rw [zBc h,hs]
 refine signZ_pos' ?_
 have:0 < (restQ a c:Int)*((d:Int)+1):=Int.mul_pos om om
 simp only [Int.natCast_zero,Int.zero_mul];omega
theorem cmpQ_turn {a b:Int} {c d:Nat} (h:floorQ a c=floorQ b d) (hr:restQ a c≠0) (hs:restQ b d≠0):cmpQ a c b d = -cmpQ ((c+1:Nat):Int) (restQ a c - 1) ((d+1:Nat):Int) (restQ b d - 1):=by
 rw [← cmpQ_neg]
 unfold cmpQ;rw [zBc h]
 have e1:((restQ a c - 1:Nat):Int)+1=(restQ a c:Int):=by omega
 have e2:((restQ b d - 1:Nat):Int)+1=(restQ b d:Int):=by omega
 rw [e1,e2,Int.natCast_add,Int.natCast_add,Int.mul_comm (restQ a c:Int),Int.mul_comm (restQ b d:Int)]
 rfl
end Go.Proofs.YtdkgilioejdmeaaGreat
namespace Go.Proofs.YtdkgilioejdmeaaGreat
open Go
section
variable {P:Program} {ops:Array Oper} {Q:Exit→Act→World→Prop} {md:Region.Mode} {S:World→Prop} {n:Nat}
def Closed (md:Region.Mode) (ops:Array Oper) (listed:Array Bool):Prop:=∀ j oj,ops[j]? = some oj→listed.getD j false=true→∀ e∈oj.after,Region.binds md e=true→listed.getD e.on false=true
theorem Closed.set {i:Nat} {listed:Array Bool} (inv:Closed md ops listed) (hi:i∈Region.ready md ops listed):Closed md ops (listed.setIfInBounds i true):=by
 obtain ⟨_,oi,hoi,hall⟩:=mem_ready.1 hi
 intro j oj hj hl e he hb
 by_cases hij:i=j
 ·subst hij
  have:oj=oi:=Option.some.inj (hj.symm.trans hoi)
  subst this
  exact getD_set_true (hall e he hb)
 ·rw [getD_set_ne false hij] at hl
  exact getD_set_true (inv j oj hj hl e he hb)
def leads (md:Region.Mode) (ops:Array Oper) (n:Nat):Nat→Nat→Bool
 | 0,_=>false
 | f+1,i=>(List.range (n+1)).any fun j=>decide (i < j) && Region.waitsFor md ops j i && (j == n || leads md ops n f j)
theorem leads_listed {listed:Array Bool} (inv:Closed md ops listed) (hn:listed.getD n false=true):∀ (f i:Nat),leads md ops n f i=true→listed.getD i false=true
 | 0,_,h=>by cases h
 | f+1,i,h=>by
  obtain ⟨j,_,hj⟩:=List.any_eq_true.1 h
  simp only [Bool.and_eq_true,Bool.or_eq_true,beq_iff_eq] at hj
  have hlj:listed.getD j false=true:=by
   rcases hj.2 with e|e
   ·rw [e];exact hn
   ·exact leads_listed inv hn f j e
  obtain ⟨oj,hoj,e,he,hb,hon⟩:=Region.waitsFor_spec hj.1.2
  have:=inv j oj hoj hlj e he hb
  rwa [hon] at this
theorem tail_listed {listed:Array Bool} (inv:Closed md ops listed) (hc:Region.chainB md ops n=true):∀ (t:Nat),n≤t→t < ops.size→listed.getD t false=true→listed.getD n false=true:=by
 intro t
 induction t with
 | zero=>intro h1 _ h3;have e:n=0:=om;subst e;exact h3
 | succ t ih =>
  intro h1 h2 h3
  by_cases e:n=t+1
  ·rw [e];exact h3
  ·have h4:=List.all_eq_true.1 hc (t+1) (List.mem_range.2 h2)
   simp only [Bool.or_eq_true,decide_eq_true_eq] at h4
   rcases h4 with h4|h4
   ·omega
   ·obtain ⟨ot,hot,e,he,hb,hon⟩:=Region.waitsFor_spec h4
    have h5:=inv _ ot hot h3 e he hb
    rw [hon,Nat.add_sub_cancel] at h5
    exact ih om om h5
theorem tail_not_ready {i f:Nat} {listed:Array Bool} (inv:Closed md ops listed) (hc:Region.chainB md ops n=true) (hl:leads md ops n f i=true) (hu:listed.getD i true=false) :
  ∀ t,n≤t→t ∉ Region.ready md ops listed:=by
 intro t ht hr
 obtain ⟨_,ot,hot,hall⟩:=mem_ready.1 hr
 have htl:t < ops.size:=(Array.getElem?_eq_some_iff.1 hot).1
 have hu':=getD_both hu
 have inv2:=inv.set hr
 have h1:(listed.setIfInBounds t true).getD n false=true∨n=t:=by
  by_cases e:n=t
  ·exact Or.inr e
  ·left
   have h4:=List.all_eq_true.1 hc t (List.mem_range.2 htl)
   simp only [Bool.or_eq_true,decide_eq_true_eq] at h4
   rcases h4 with h4|h4
   ·omega
   ·obtain ⟨o',ho',e',he,hb,hon⟩:=Region.waitsFor_spec h4
    obtain rfl:o'=ot:=Option.some.inj (ho'.symm.trans hot)
    have h5:=hall e' he hb
    rw [hon] at h5
    exact getD_set_true (tail_listed inv hc (t - 1) om om h5)
 have key:∀ (f i:Nat),leads md ops n f i=true→listed.getD i false=true:=by
  intro f
  induction f with
  | zero=>intro i h;cases h
  | succ f ih =>
   intro i h
   obtain ⟨j,_,hj⟩:=List.any_eq_true.1 h
   simp only [Bool.and_eq_true,Bool.or_eq_true,beq_iff_eq] at hj
   obtain ⟨oj,hoj,e,he,hb,hon⟩:=Region.waitsFor_spec hj.1.2
   rcases hj.2 with e2|e2
   ·subst e2
    rcases h1 with h1|h1
    ·by_cases hnt:t=j
     ·subst hnt
      obtain rfl:oj=ot:=Option.some.inj (hoj.symm.trans hot)
      have:=hall e he hb
      rwa [hon] at this
     ·rw [getD_set_ne false hnt] at h1
      have:=inv j oj hoj h1 e he hb
      rwa [hon] at this
    ·subst h1
     obtain rfl:oj=ot:=Option.some.inj (hoj.symm.trans hot)
     have:=hall e he hb
     rwa [hon] at this
   ·have:=inv j oj hoj (ih j e2) e he hb
    rwa [hon] at this
 rw [key f i hl] at hu'
 cases hu'
theorem getD_set_tt {listed:Array Bool} {j k:Nat} (h:listed.getD k true=true):(listed.setIfInBounds j true).getD k true=true:=by
 by_cases e:j=k
 ·subst e
  rcases Nat.lt_or_ge j listed.size with h'|h'
  ·simp [h']
  ·simp [Nat.not_lt.2 h']
 ·rw [getD_set_ne true e];exact h
def duty (n:Nat) (F:List Nat) (i:Nat):Bool:=decide (i < n) && !F.contains i
def wpAnyT (P:Program) (md:Region.Mode) (ops:Array Oper) (Q:Exit→Act→World→Prop) (S:World→Prop) (n:Nat) (F:List Nat):Nat→Array Bool→Act→World→Prop
 | 0,listed,a,w=>Region.ready md ops listed=[]∧Q .normal a w
 | fuel+1,listed,a,w =>
  (Region.ready md ops listed=[]→Q .normal a w) ∧
  ∀ i∈Region.ready md ops listed,wpOp P ops Q i (fun a' w'=>(duty n F i=true→S w')∧wpAnyT P md ops Q S n F fuel (listed.setIfInBounds i true) a' w') a w
theorem wpAny_of_T {F:List Nat}:∀ (fuel:Nat) (listed:Array Bool) (a:Act) (w:World),wpAnyT P md ops Q S n F fuel listed a w→wpAny P md ops Q fuel listed a w
 | 0,_,_,_,h=>h
 | fuel+1,_,_,_,h=>⟨h.1,fun i hi=>wpOp_mono (fun a' w' h'=>wpAny_of_T fuel _ a' w' h'.2) (h.2 i hi)⟩
theorem wpAnyT_first {F:List Nat} {i f:Nat} {oi:Oper} {v:Value} (hi:ops[i]? = some oi) (hsel:∀ (j:Nat) (o:Oper) cs b,ops[j]? = some o→o.op ≠ .select cs b)
  (hQ:∀ c a w,Q (.panic c) (a.put oi.dst v) w→Q (.panic c) a w) (hc:Region.chainB md ops n=true) (hl:leads md ops n f i=true) :
  ∀ (fuel:Nat) (listed:Array Bool) (a:Act) (w:World),Closed md ops listed→(∀ j∈F,listed.getD j true=true) →
   (∀ j oj,ops[j]? = some oj→j≠i→listed.getD j true=false→(∀ e∈oj.after,Region.binds md e=true→e.on≠i)→oi.apart ops oj=true) →
   i∈Region.ready md ops listed→YieldsIf P ops S oi v a→S w →
   wpAnyT P md ops Q S n F fuel (listed.setIfInBounds i true) (a.put oi.dst v) w→wpAnyT P md ops Q S n F (fuel+1) listed a w:=by
 intro fuel
 induction fuel with
 | zero =>
  intro listed a w _ _ _ hr hy hS H
  refine ⟨fun h=>(by rw [h] at hr;cases hr),fun j hj=>?_⟩
  by_cases hji:j=i
  ·subst hji;exact hy.wpOp hi hS ⟨fun _=>hS,H⟩
  ·have:=ready_mono hj hji
   rw [H.1] at this
   cases this
 | succ fuel ih =>
  intro listed a w inv hF hfree hr hy hS H
  refine ⟨fun h=>(by rw [h] at hr;cases hr),fun j hj=>?_⟩
  by_cases hji:j=i
  ·subst hji;exact hy.wpOp hi hS ⟨fun _=>hS,H⟩
  ·have h1:=H.2 j (ready_mono hj hji)
   obtain ⟨hjun,oj,hoj,hall⟩:=mem_ready.1 hj
   have hjn:duty n F j=true:=by
    unfold duty
    rw [Bool.and_eq_true]
    refine ⟨?_,?_⟩
    ·rcases Nat.lt_or_ge j n with h|h
     ·exact decide_eq_true h
     ·exact absurd hj (tail_not_ready inv hc hl (mem_ready.1 hr).1 j h)
    ·rw [Bool.not_eq_true']
     cases hcn:F.contains j with
     | false=>rfl
     | true =>
      have:=hF j (by simpa using hcn)
      rw [hjun] at this
      cases this
   have hnot:∀ e∈oj.after,Region.binds md e=true→e.on≠i:=fun e he hb heq=>by
    have h1:=hall e he hb
    have h0:=(mem_ready.1 hr).1
    rw [heq,getD_both h0] at h1
    cases h1
   have h2:=wpOp_putIf hoj (hfree j oj hoj hji hjun hnot) (fun cs b=>hsel i oi cs b hi) (fun cs b=>hsel j oj cs b hoj) hQ hy h1
   have hfree':∀ k ok,ops[k]? = some ok→k≠i→(listed.setIfInBounds j true).getD k true=false →
     (∀ e∈ok.after,Region.binds md e=true→e.on≠i)→oi.apart ops ok=true:=fun k ok hk hki hun hno=>by
    refine hfree k ok hk hki ?_ hno
    by_cases hjk:j=k
    ·subst hjk;exact hjun
    ·rw [getD_set_ne true hjk] at hun;exact hun
   refine wpOp_mono (fun a' w' h3=>⟨h3.2.1,ih (listed.setIfInBounds j true) a' w' (inv.set hj) (fun k hk=>getD_set_tt (hF k hk)) hfree' (ready_mono hr (Ne.symm hji)) h3.1 (h3.2.1 hjn) ?_⟩) h2
   rw [Array.setIfInBounds_comm _ _ hji]
   exact h3.2.2
theorem wpAnyT_free {F:List Nat} {i:Nat} {oi:Oper} {v:Value} (hi:ops[i]? = some oi) (hsel:∀ (j:Nat) (o:Oper) cs b,ops[j]? = some o→o.op ≠ .select cs b) (hin:duty n F i=false)
  (hQ:∀ c a w,Q (.panic c) (a.put oi.dst v) w→Q (.panic c) a w) :
  ∀ (fuel:Nat) (listed:Array Bool) (a:Act) (w:World),
   (∀ j oj,ops[j]? = some oj→j≠i→listed.getD j true=false→(∀ e∈oj.after,Region.binds md e=true→e.on≠i)→oi.apart ops oj=true) →
   i∈Region.ready md ops listed→YieldsIf P ops (fun _=>True) oi v a →
   wpAnyT P md ops Q S n F fuel (listed.setIfInBounds i true) (a.put oi.dst v) w→wpAnyT P md ops Q S n F (fuel+1) listed a w:=by
 have hno:∀ w:World,duty n F i=true→S w:=fun w h=>by rw [hin] at h;cases h
 intro fuel
 induction fuel with
 | zero =>
  intro listed a w _ hr hy H
  refine ⟨fun h=>(by rw [h] at hr;cases hr),fun j hj=>?_⟩
  by_cases hji:j=i
  ·subst hji;exact hy.wpOp hi trivial ⟨hno w,H⟩
  ·have:=ready_mono hj hji
   rw [H.1] at this
   cases this
 | succ fuel ih =>
  intro listed a w hfree hr hy H
  refine ⟨fun h=>(by rw [h] at hr;cases hr),fun j hj=>?_⟩
  by_cases hji:j=i
  ·subst hji;exact hy.wpOp hi trivial ⟨hno w,H⟩
  ·have h1:=H.2 j (ready_mono hj hji)
   obtain ⟨hjun,oj,hoj,hall⟩:=mem_ready.1 hj
   have hnot:∀ e∈oj.after,Region.binds md e=true→e.on≠i:=fun e he hb heq=>by
    have h1:=hall e he hb
    have h0:=(mem_ready.1 hr).1
    rw [heq,getD_both h0] at h1
    cases h1
   have h2:=wpOp_putIf hoj (hfree j oj hoj hji hjun hnot) (fun cs b=>hsel i oi cs b hi) (fun cs b=>hsel j oj cs b hoj) hQ hy h1
   have hfree':∀ k ok,ops[k]? = some ok→k≠i→(listed.setIfInBounds j true).getD k true=false →
     (∀ e∈ok.after,Region.binds md e=true→e.on≠i)→oi.apart ops ok=true:=fun k ok hk hki hun hno=>by
    refine hfree k ok hk hki ?_ hno
    by_cases hjk:j=k
    ·subst hjk;exact hjun
    ·rw [getD_set_ne true hjk] at hun;exact hun
   refine wpOp_mono (fun a' w' h3=>⟨h3.2.1,ih (listed.setIfInBounds j true) a' w' hfree' (ready_mono hr (Ne.symm hji)) h3.1 ?_⟩) h2
   rw [Array.setIfInBounds_comm _ _ hji]
   exact h3.2.2
theorem zDO {F:List Nat} {i:Nat} {oi:Oper} {v:Value} {fuel:Nat} {listed:Array Bool} {a:Act} {w:World} (hC:Closed md ops listed) (hi:ops[i]? = some oi)
  (hs:Region.noSelect ops=true) (hf:Region.free md ops listed i=true) (hr:(Region.ready md ops listed).contains i=true) (hin:duty n F i=false)
  (hQ:∀ c a w,Q (.panic c) (a.put oi.dst v) w→Q (.panic c) a w) (hw:Region.wanted oi (yielded ops a.tmps)=true) (hy:∀ w,(execOp a.eval oi).run P w = .ok (.value v) w)
  (h:Closed md ops (listed.setIfInBounds i true)→wpAnyT P md ops Q S n F fuel (listed.setIfInBounds i true) (a.put oi.dst v) w):wpAnyT P md ops Q S n F (fuel+1) listed a w :=
 wpAnyT_free hi (Region.noSelect_spec hs) hin hQ fuel listed a w (Region.free_spec hi hf) (by simpa using hr) (Or.inl ⟨hw,fun w _=>hy w⟩) (h (hC.set (by simpa using hr)))
theorem zAE {F:List Nat} {i f:Nat} {oi:Oper} {v:Value} {fuel:Nat} {listed:Array Bool} {a:Act} {w:World} (hC:Closed md ops listed) (hS:S w) (hi:ops[i]? = some oi)
  (hs:Region.noSelect ops=true) (hf:Region.free md ops listed i=true) (hr:(Region.ready md ops listed).contains i=true) (hc:Region.chainB md ops n=true) (hl:leads md ops n f i=true) (hF:(F.all fun j=>listed.getD j true)=true)
  (hQ:∀ c a w,Q (.panic c) (a.put oi.dst v) w→Q (.panic c) a w) (hw:Region.wanted oi (yielded ops a.tmps)=true) (hy:∀ w,S w→(execOp a.eval oi).run P w = .ok (.value v) w)
  (h:Closed md ops (listed.setIfInBounds i true)→wpAnyT P md ops Q S n F fuel (listed.setIfInBounds i true) (a.put oi.dst v) w):wpAnyT P md ops Q S n F (fuel+1) listed a w :=
 wpAnyT_first hi (Region.noSelect_spec hs) hQ hc hl fuel listed a w hC (List.all_eq_true.1 hF) (Region.free_spec hi hf) (by simpa using hr) (Or.inl ⟨hw,hy⟩) hS (h (hC.set (by simpa using hr)))
theorem zAL {F:List Nat} {i:Nat} {o:Oper} {fuel:Nat} {listed:Array Bool} {a:Act} {w:World} (hC:Closed md ops listed) (ho:ops[i]? = some o) (hr:Region.ready md ops listed=[i])
  (h:∀ K':Act→World→Prop,Shut (∀ a w,(duty n F i=true→S w)→(Closed md ops (listed.setIfInBounds i true)→wpAnyT P md ops Q S n F fuel (listed.setIfInBounds i true) a w)→K' a w)→if Region.wanted o (yielded ops a.tmps)=true then Oper.wp P o a w K' Q else K' (a.put o.dst undef) w) :
  wpAnyT P md ops Q S n F (fuel+1) listed a w:=by
 have hC2:=hC.set (i:=i) (by rw [hr];exact List.mem_singleton.2 rfl)
 refine ⟨fun h0=>(by rw [hr] at h0;cases h0),fun j hj=>?_⟩
 rw [hr] at hj
 obtain rfl:=List.mem_singleton.1 hj
 exact wpOp_step ho (fun K' hK=>h K' (fun a w hS hW=>hK a w ⟨hS,hW hC2⟩))
theorem zCH {F:List Nat} {listed:Array Bool} {a:Act} {w:World} (hr:Region.ready md ops listed=[]) (h:Q .normal a w):∀ fuel,wpAnyT P md ops Q S n F fuel listed a w
 | 0=>⟨hr,h⟩
 | _+1=>⟨fun _=>h,by rw [hr];simp⟩
theorem zCI (S:World→Prop) (n:Nat) (F:List Nat) (N:Nat) (L:Array Bool) {id:Nat} {a:Act} {w:World} (hm:P.follows .mixedOrders=true) (hN:ops.size=N) (hL:Array.replicate N false=L) (hS:S w.drew)
  (h:S w.drew→Closed .any ops L→wpAnyT P .any ops Q S n F N L a w.drew):(Code.region id ops true).wp P Q a w:=by
 subst hN
 subst hL
 exact wp_region_any hm (wpAny_of_T _ _ _ _ (h hS (fun j oj _ hl=>(by rw [getD_replicate_false] at hl;cases hl))))
end
end Go.Proofs.YtdkgilioejdmeaaGreat
namespace Go.Proofs.YtdkgilioejdmeaaGreat
open Go.RowKit
theorem wrap_neg_sign {s:Int} (h:s=1∨s = -1):IntKind.i64.wrap (-s) = -s:=by rcases h with h|h <;> subst h <;> rfl
set_option maxRecDepth 4000 in
set_option maxHeartbeats 8000000 in
theorem ratCmp_any (na nb:Bool) (A B C D:Option Addr) (k m j l:Nat) (a b:Int) (c d:Nat) (w:World) (h:IsRat w na A k B m a c) (hb:IsRat w nb C j D l b d) :
  Calls Tryz.prog 103 #[.agg #[.bool na,.slice A k k,.slice B m m],.agg #[.bool nb,.slice C j j,.slice D l l]] w fun e w'=>e = .returned (.int .i64 (cmpQ a c b d))∧Ext w w':=by
 obtain ⟨W0,HWW0,hXW0,hsW0,c0a,f0a,c0b,f0b,c0c,f0c,c1a,f1a,c1b,f1b,c1c,f1c⟩:=bx33 w 144 144 (.bool na) (.slice A k k) (.slice B m m) (.bool nb) (.slice C j j) (.slice D l l)
 have HX:=zH hXW0
 have HR0:=zH (h.ext hXW0)
 have HR1:=zH (hb.ext hXW0)
 obtain ⟨Q,hQ⟩:∃ Q,cmpQ a c b d=Q:=⟨_,rfl⟩
 have HQ0:Hid (1*cmpQ a c b d=Q):=by rw [hQ];exact Int.one_mul _
 rw [hQ]
 clear hQ
 clear h hb hXW0
 go_enter Tryz.func103,Tryz.ntmps103
 go_wp2
 rw [HWW0.out]
 clear HWW0
 go_upto_region 1 with (fail)
 go_cut [5,6,7] (fun s5 s6 s7 wx=>∃ b5 b6,s5 = .pointer (some ⟨b5,0,none⟩)∧s6 = .pointer (some ⟨b6,0,none⟩)∧s7 = .int .i64 1∧W0.heap.size≤b5∧W0.heap.size≤b6∧b5≠b6∧Hid (RatB wx b5 a c)∧Hid (RatB wx b6 b d)∧Hid (Ext W0 wx))
 case first =>
  have HKeep:=zH (fun (w':World) (hx:Ext W0 w')=>(show w'.cell? ⟨w.heap.size,0,none⟩=some (.bool na)∧w'.cell? ⟨w.heap.size,1,none⟩=some (.slice A k k)∧w'.cell? ⟨w.heap.size,2,none⟩=some (.slice B m m)∧w'.cell? ⟨w.heap.size+1,0,none⟩=some (.bool nb)∧w'.cell? ⟨w.heap.size+1,1,none⟩=some (.slice C j j)∧w'.cell? ⟨w.heap.size+1,2,none⟩=some (.slice D l l) from ⟨hx.cell c0a,hx.cell c0b,hx.cell c0c,hx.cell c1a,hx.cell c1b,hx.cell c1c⟩))
  go_region_held3 (fun w'=>w'.cell? ⟨w.heap.size,0,none⟩=some (.bool na)∧w'.cell? ⟨w.heap.size,1,none⟩=some (.slice A k k)∧w'.cell? ⟨w.heap.size,2,none⟩=some (.slice B m m)∧w'.cell? ⟨w.heap.size+1,0,none⟩=some (.bool nb)∧w'.cell? ⟨w.heap.size+1,1,none⟩=some (.slice C j j)∧w'.cell? ⟨w.heap.size+1,2,none⟩=some (.slice D l l)) (exact HKeep.out _ (by repeat (first|with_reducible exact Ext.refl _|refine Ext.drew ?_|refine Ext.alloc ?_ _))) (fail)
  all_goals
   go_wp2
   refine Met.intro ?_
   go_step
   (repeat apply Exists.intro)
   refine And.symm ⟨?_,?_⟩
   ·first|with_reducible rfl
   exact ⟨_,_,rfl,rfl,rfl,(by first|exact Nat.le_refl _|omega),(by first|exact Nat.le_refl _|omega),(by first|omega),zH (RatB.mk2 (by (with_reducible repeat (first  | (refine Blk.at ?_;· (first|rfl|(simp only [World.size_setCell,World.size_alloc,World.size_drew];done)))|refine Blk.al ?_|refine Blk.drew ?_))) (by (with_reducible repeat (first|exact HR0.out|refine IsRat.al ?_|refine IsRat.dr ?_)))),zH (RatB.mk2 (by (with_reducible repeat (first  | (refine Blk.at ?_;· (first|rfl|(simp only [World.size_setCell,World.size_alloc,World.size_drew];done)))|refine Blk.al ?_|refine Blk.drew ?_))) (by (with_reducible repeat (first|exact HR1.out|refine IsRat.al ?_|refine IsRat.dr ?_)))),zH (by repeat (first|with_reducible exact Ext.refl _|refine Ext.drew ?_|refine Ext.alloc ?_ _))⟩
 obtain ⟨b5,b6,rfl,rfl,rfl,hb5,hb6,hne,HB5,HB6,HX1⟩:=hcut
 obtain ⟨W1,hWn⟩:∃ W1,wc=W1:=⟨_,rfl⟩
 rw [hWn] at HB5 HB6 HX1 ⊢
 replace HX:=zH (HX.out.trans HX1.out)
 have hw5:w.heap.size+2≤b5:=by omega
 have hw6:w.heap.size+2≤b6:=by omega
 have hle5:w.heap.size≤b5:=by omega
 have hle6:w.heap.size≤b6:=by omega
 clear hWn wc c0a f0a c0b f0b c0c f0c c1a f1a c1b f1b c1c f1c HR0 HR1 HX1 hb5 hb6 hsW0
 go_wp2
 go_loopg [7] c (fun kk s7 wr=>∃ (x y s:Int) (dx dy:Nat),kk=dx∧s7 = .int .i64 s∧Hid (RatB wr b5 x dx)∧Hid (RatB wr b6 y dy)∧Hid (Ext w wr)∧Hid (s=1∨s = -1)∧Hid (s*cmpQ x dx y dy=Q))
 case atStart=>exact ⟨a,b,1,c,d,rfl,rfl,HB5,HB6,HX,Or.inl rfl,HQ0⟩
 clear HB5 HB6 HX HQ0
 obtain ⟨x,y,s,dx,dy,hkk,rfl,HB5,HB6,HX,HS,HQ⟩:=hrel
 obtain ⟨n5,A5,k5,B5,m5,q5,hr5⟩:=HB5.out.box
 obtain ⟨c5a,f5a,c5b,f5b,c5c,f5c⟩:=q5.three
 obtain ⟨n6,A6,k6,B6,m6,q6,hr6⟩:=HB6.out.box
 obtain ⟨c6a,f6a,c6b,f6b,c6c,f6c⟩:=q6.three
 have hl5:=q5.lt
 have hl6:=q6.lt
 have HK5:=zH q5
 have HK6:=zH q6
 have HR5:=zH hr5
 have HR6:=zH hr6
 clear q5 q6 hr5 hr6 HB5 HB6
 have HF5:=zH (fun W (hx:Ext wr W)=>zCP n5 A5 B5 k5 m5 x dx W (HR5.out.ext hx))
 have HF6:=zH (fun W (hx:Ext wr W)=>zCP n6 A6 B6 k6 m6 y dy W (HR6.out.ext hx))
 obtain ⟨p,hp⟩:∃ p,floorQ x dx=p:=⟨_,rfl⟩
 obtain ⟨p',hp'⟩:∃ p',floorQ y dy=p':=⟨_,rfl⟩
 have HP:=zH (And.intro hp hp')
 rw [hp] at HF5
 rw [hp'] at HF6
 clear hp hp'
 go_upto_region 2 with (fail)
 go_cut [8,9] (fun s8 s9 wx=>∃ b8,∃ b9,s8 = .pointer (some ⟨b8,0,none⟩)∧s9 = .pointer (some ⟨b9,0,none⟩)∧wr.heap.size≤b8∧wr.heap.size≤b9∧Hid (IntB wx b8 p)∧Hid (IntB wx b9 p')∧Hid (Ext wr wx))
 case first =>
  have HKeep:=zH (fun (w':World) (hx:Ext wr w')=>(show w'.cell? ⟨b5,0,none⟩=some (.bool n5)∧w'.cell? ⟨b5,1,none⟩=some (.slice A5 k5 k5)∧w'.cell? ⟨b5,2,none⟩=some (.slice B5 m5 m5)∧w'.cell? ⟨b6,0,none⟩=some (.bool n6)∧w'.cell? ⟨b6,1,none⟩=some (.slice A6 k6 k6)∧w'.cell? ⟨b6,2,none⟩=some (.slice B6 m6 m6) from ⟨hx.cell c5a,hx.cell c5b,hx.cell c5c,hx.cell c6a,hx.cell c6b,hx.cell c6c⟩))
  go_region_held3 (fun w'=>w'.cell? ⟨b5,0,none⟩=some (.bool n5)∧w'.cell? ⟨b5,1,none⟩=some (.slice A5 k5 k5)∧w'.cell? ⟨b5,2,none⟩=some (.slice B5 m5 m5)∧w'.cell? ⟨b6,0,none⟩=some (.bool n6)∧w'.cell? ⟨b6,1,none⟩=some (.slice A6 k6 k6)∧w'.cell? ⟨b6,2,none⟩=some (.slice B6 m6 m6)) (exact HKeep.out _ Ext.ua)
   (first
    | (go_at_call 106;with_reducible refine Calls.mono (HF5.out _ ?_) ?_;exact Ext.ua;rintro e w1 ⟨n1,e1,a1,rfl,hn1,hx⟩;(first|(have k1:=blk2 hx)|(have k1:=blk1 hx)|(have k1:=True.intro));have hxN:Ext wr w1:=Ext.trans Ext.ua hx;have hxA:=hxN;clear hxN;have HN1:=zH hn1;clear hn1;have hs1:=hxA.size;have hz1:=hx.size;(try simp only [World.size_alloc,World.size_drew,World.size_setCell] at hz1);  clear hx)
    | (go_at_call 106;with_reducible refine Calls.mono (HF6.out _ ?_) ?_;exact Ext.ua;rintro e w2 ⟨n2,e2,a2,rfl,hn2,hx⟩;(first|(have k2:=blk2n hx)|(have k2:=blk1n hx)|(have k2:=True.intro));(first|(have kk:=carry2 k1 (Ext.trans Ext.ud hx);clear k1;have k1:=kk;clear kk)|(have kk:=carry1 k1 (Ext.trans Ext.ud hx);clear k1;have k1:=kk;clear kk)|skip);have hxN:Ext wr w2:=Ext.trans Ext.ua hx;(try clear hxA);have hxA:=hxN;clear hxN;have HN2:=zH hn2;clear hn2;(first|(have hh:=zH (HN1.out.ext (Ext.trans Ext.ub hx));clear HN1;have HN1:=hh;clear hh));have hs2:=hxA.size;have hz2:=hx.size;(try simp only [World.size_alloc,World.size_drew,World.size_setCell] at hz2);(first|(have zl1:=Blk.lt k1)|skip);(first|(have zz:=Blk.two k1;obtain ⟨zc1,zf1,zd1,zg1⟩:=zz)|skip);(first|(have zl1a:=Blk.lt k1.1)|skip);(first|(have zz:=Blk.two k1.1;obtain ⟨zc1a,zf1a,zd1a,zg1a⟩:=zz)|skip);(first|(have zl1b:=Blk.lt k1.2)|skip);(first|(have zz:=Blk.two k1.2;obtain ⟨zc1b,zf1b,zd1b,zg1b⟩:=zz)|skip);(first|(have zl2:=Blk.lt k2)|skip);(first|(have zz:=Blk.two k2;obtain ⟨zc2,zf2,zd2,zg2⟩:=zz)|skip);(first|(have zl2a:=Blk.lt k2.1)|skip);(first|(have zz:=Blk.two k2.1;obtain ⟨zc2a,zf2a,zd2a,zg2a⟩:=zz)|skip);(first|(have zl2b:=Blk.lt k2.2)|skip);(first|(have zz:=Blk.two k2.2;obtain ⟨zc2b,zf2b,zd2b,zg2b⟩:=zz)|skip);  clear hx))
  all_goals
   go_wp2
   refine Met.intro ?_
   go_step
   (repeat apply Exists.intro)
   refine And.symm ⟨?_,?_⟩
   ·first|with_reducible rfl
   first
   | exact ⟨_,_,rfl,rfl,(by first|exact Nat.le_refl _|assumption|omega),(by first|exact Nat.le_refl _|assumption|omega),zH (IntB.mk2 (by (with_reducible repeat (first  | (refine Blk.at ?_;· (first|rfl|(simp only [World.size_setCell,World.size_alloc,World.size_drew];done)))|(refine Blk.put2 ?_;· (repeat (first|exact BlkN.of k1 rfl|exact BlkN.of k1.1 rfl|exact BlkN.of k1.2 rfl|exact BlkN.of k2 rfl|exact BlkN.of k2.1 rfl|exact BlkN.of k2.2 rfl)))|(refine Blk.far2 ?_ ?_;· (first|omega))|refine Blk.al ?_))) (by (with_reducible repeat (first|exact HN1.out|refine IsInt.al ?_|(refine IsInt.setN ?_ ?_;· (repeat (first|exact NB.of k1 (by decide)|exact NB.of k1.1 (by decide)|exact NB.of k1.2 (by decide)|exact NB.of k2 (by decide)|exact NB.of k2.1 (by decide)|exact NB.of k2.2 (by decide)|refine NB.set ?_))))))),zH (IntB.mk2 (by (with_reducible repeat (first  | (refine Blk.at ?_;· (first|rfl|(simp only [World.size_setCell,World.size_alloc,World.size_drew];done)))|(refine Blk.put2 ?_;· (repeat (first|exact BlkN.of k1 rfl|exact BlkN.of k1.1 rfl|exact BlkN.of k1.2 rfl|exact BlkN.of k2 rfl|exact BlkN.of k2.1 rfl|exact BlkN.of k2.2 rfl|(refine BlkN.far2 ?_ ?_;· (first|omega)))))|refine Blk.al ?_))) (by (with_reducible repeat (first|exact HN2.out|refine IsInt.al ?_|(refine IsInt.setN ?_ ?_;· (repeat (first|exact NB.of k1 (by decide)|exact NB.of k1.1 (by decide)|exact NB.of k1.2 (by decide)|exact NB.of k2 (by decide)|exact NB.of k2.1 (by decide)|exact NB.of k2.2 (by decide)|refine NB.set ?_))))))),zH Ext.ua⟩
 obtain ⟨b8,b9,rfl,rfl,hb8,hb9,HB8,HB9,HX1⟩:=hcut
 obtain ⟨W1,hWn⟩:∃ W1,wc=W1:=⟨_,rfl⟩
 rw [hWn] at HB8 HB9 HX1 ⊢
 clear hWn wc
 replace f5a:=HX1.out.free f5a (zAA c5a)
 replace c5a:=HX1.out.cell c5a
 replace f5b:=HX1.out.free f5b (zAA c5b)
 replace c5b:=HX1.out.cell c5b
 replace f5c:=HX1.out.free f5c (zAA c5c)
 replace c5c:=HX1.out.cell c5c
 replace f6a:=HX1.out.free f6a (zAA c6a)
 replace c6a:=HX1.out.cell c6a
 replace f6b:=HX1.out.free f6b (zAA c6b)
 replace c6b:=HX1.out.cell c6b
 replace f6c:=HX1.out.free f6c (zAA c6c)
 replace c6c:=HX1.out.cell c6c
 replace HK5:=zH (HK5.out.ext HX1.out)
 replace HK6:=zH (HK6.out.ext HX1.out)
 replace HR5:=zH (HR5.out.ext HX1.out)
 replace HR6:=zH (HR6.out.ext HX1.out)
 replace HX:=zH (HX.out.trans HX1.out)
 have hszW1:=HX1.out.size
 obtain ⟨n8,A8,k8,q8,hn8⟩:=HB8.out.box
 obtain ⟨c8a,f8a,c8b,f8b⟩:=q8.two
 have hl8:=q8.lt
 have HN8:=zH hn8
 clear hn8 q8 HB8
 obtain ⟨n9,A9,k9,q9,hn9⟩:=HB9.out.box
 obtain ⟨c9a,f9a,c9b,f9b⟩:=q9.two
 have hl9:=q9.lt
 have HN9:=zH hn9
 clear hn9 q9 HB9
 clear HF5 HF6
 have HC:=zH (fun W (hx:Ext W1 W)=>zCmp_any n8 n9 A8 A9 k8 k9 p p' W (HN8.out.ext hx) (HN9.out.ext hx))
 obtain ⟨cc,hcc⟩:∃ cc,cmpZ p p'=cc:=⟨_,rfl⟩
 rw [hcc] at HC
 by_cases hc0:cc=0
 rotate_left
 ·have HV:Hid (s*cc=Q):=by
   have h1:=HQ.out
   have h2:=HP.out
   rw [cmpQ_floor (by rw [h2.1,h2.2,hcc];exact hc0),h2.1,h2.2,hcc] at h1
   exact h1
  have hc1:cc=1∨cc = -1:=by
   rw [← hcc] at hc0 ⊢
   unfold cmpZ at hc0 ⊢
   by_cases h1:p < p'
   ·rw [if_pos h1];exact Or.inr rfl
   ·rw [if_neg h1] at hc0 ⊢
    by_cases h2:p=p'
    ·rw [if_pos h2] at hc0;exact absurd rfl hc0
    ·rw [if_neg h2];exact Or.inl rfl
  clear hcc hc0 HQ HP
  rcases HS.out with hs1|hs1 <;> rcases hc1 with hc1|hc1 <;> subst hs1 <;> subst hc1
  all_goals
   go_wp2_with (first
    | (go_at_call 23;refine (HC.out _ Ext.ua).mono ?_;rintro e w1 ⟨rfl,hx⟩;have hxN:Ext W1 w1:=Ext.trans Ext.ua hx;have hxA:=hxN;clear hxN;  clear hx))
   exact bodyPost_ret (v:=.int .i64 Q) (by rw [← HV.out];simp [results,Tryz.results103,go_sem]) rfl ⟨rfl,HX.out.trans hxA⟩
 ·subst hc0
  have HE:=zH (show floorQ x dx=floorQ y dy by rw [HP.out.1,HP.out.2];exact cmpZ_zero hcc)
  clear hcc HP
  go_upto_region 6 with (first
    | (go_at_call 23;refine (HC.out _ Ext.ua).mono ?_;rintro e u1 ⟨rfl,hx⟩;have hxN:Ext W1 u1:=Ext.trans Ext.ua hx;have hxA:=hxN;clear hxN;  clear hx))
  have HXq:=zH hxA
  clear hxA HC
  clear c8a f8a c8b f8b c9a f9a c9b f9b HN8 HN9
  replace f5a:=HXq.out.free f5a (zAA c5a)
  replace c5a:=HXq.out.cell c5a
  replace f5b:=HXq.out.free f5b (zAA c5b)
  replace c5b:=HXq.out.cell c5b
  replace f5c:=HXq.out.free f5c (zAA c5c)
  replace c5c:=HXq.out.cell c5c
  replace f6a:=HXq.out.free f6a (zAA c6a)
  replace c6a:=HXq.out.cell c6a
  replace f6b:=HXq.out.free f6b (zAA c6b)
  replace c6b:=HXq.out.cell c6b
  replace f6c:=HXq.out.free f6c (zAA c6c)
  replace c6c:=HXq.out.cell c6c
  replace HK5:=zH (HK5.out.ext HXq.out)
  replace HK6:=zH (HK6.out.ext HXq.out)
  replace HR5:=zH (HR5.out.ext HXq.out)
  replace HR6:=zH (HR6.out.ext HXq.out)
  replace HX:=zH (HX.out.trans HXq.out)
  have hszu1:=HXq.out.size
  have hrl:=zBP x dx
  have hsl:=zBP y dy
  have HT5:=zH (fun W (hx:Ext u1 W)=>zCw n5 A5 B5 k5 m5 x dx W (HR5.out.ext hx))
  have HT6:=zH (fun W (hx:Ext u1 W)=>zCw n6 A6 B6 k6 m6 y dy W (HR6.out.ext hx))
  have HBr:=zH (show bitsN (restQ x dx)≤4096 from Nat.le_trans (zAG (Nat.le_of_lt hrl)) HR5.out.bits)
  have HBt:=zH (show bitsN (restQ y dy)≤4096 from Nat.le_trans (zAG (Nat.le_of_lt hsl)) HR6.out.bits)
  obtain ⟨r,hr⟩:∃ r,restQ x dx=r:=⟨_,rfl⟩
  obtain ⟨t,ht⟩:∃ t,restQ y dy=t:=⟨_,rfl⟩
  have HRT:=zH (And.intro hr ht)
  rw [hr] at HT5 HBr hrl
  rw [ht] at HT6 HBt hsl
  clear hr ht
  go_cut [11,12] (fun s11 s12 wx=>∃ b11,∃ b12,s11 = .pointer (some ⟨b11,0,none⟩)∧s12 = .pointer (some ⟨b12,0,none⟩)∧u1.heap.size≤b11∧u1.heap.size≤b12∧Hid (NatB wx b11 r)∧Hid (NatB wx b12 t)∧Hid (Ext u1 wx))
  case first =>
   have HKeep:=zH (fun (w':World) (hx:Ext u1 w')=>(show w'.cell? ⟨b5,0,none⟩=some (.bool n5)∧w'.cell? ⟨b5,1,none⟩=some (.slice A5 k5 k5)∧w'.cell? ⟨b5,2,none⟩=some (.slice B5 m5 m5)∧w'.cell? ⟨b6,0,none⟩=some (.bool n6)∧w'.cell? ⟨b6,1,none⟩=some (.slice A6 k6 k6)∧w'.cell? ⟨b6,2,none⟩=some (.slice B6 m6 m6) from ⟨hx.cell c5a,hx.cell c5b,hx.cell c5c,hx.cell c6a,hx.cell c6b,hx.cell c6c⟩))
   go_region_held3 (fun w'=>w'.cell? ⟨b5,0,none⟩=some (.bool n5)∧w'.cell? ⟨b5,1,none⟩=some (.slice A5 k5 k5)∧w'.cell? ⟨b5,2,none⟩=some (.slice B5 m5 m5)∧w'.cell? ⟨b6,0,none⟩=some (.bool n6)∧w'.cell? ⟨b6,1,none⟩=some (.slice A6 k6 k6)∧w'.cell? ⟨b6,2,none⟩=some (.slice B6 m6 m6)) (exact HKeep.out _ Ext.ua)
    (first
     | (go_at_call 147;with_reducible refine Calls.mono (HT5.out _ ?_) ?_;exact Ext.ua;rintro e w1 ⟨e1,a1,rfl,hn1,hx⟩;(first|(have k1:=blk2 hx)|(have k1:=blk1 hx)|(have k1:=True.intro));have hxN:Ext u1 w1:=Ext.trans Ext.ua hx;have hxA:=hxN;clear hxN;have HN1:=zH hn1;clear hn1;have hs1:=hxA.size;have hz1:=hx.size;(try simp only [World.size_alloc,World.size_drew,World.size_setCell] at hz1);  clear hx)
     | (go_at_call 147;with_reducible refine Calls.mono (HT6.out _ ?_) ?_;exact Ext.ua;rintro e w2 ⟨e2,a2,rfl,hn2,hx⟩;(first|(have k2:=blk2n hx)|(have k2:=blk1n hx)|(have k2:=True.intro));(first|(have kk:=carry2 k1 (Ext.trans Ext.ud hx);clear k1;have k1:=kk;clear kk)|(have kk:=carry1 k1 (Ext.trans Ext.ud hx);clear k1;have k1:=kk;clear kk)|skip);have hxN:Ext u1 w2:=Ext.trans Ext.ua hx;(try clear hxA);have hxA:=hxN;clear hxN;have HN2:=zH hn2;clear hn2;(first|(have hh:=zH (HN1.out.ext (Ext.trans Ext.ub hx));clear HN1;have HN1:=hh;clear hh));have hs2:=hxA.size;have hz2:=hx.size;(try simp only [World.size_alloc,World.size_drew,World.size_setCell] at hz2);(first|(have zl1:=Blk.lt k1)|skip);(first|(have zz:=Blk.one k1;obtain ⟨zc1,zf1⟩:=zz)|skip);(first|(have zl1a:=Blk.lt k1.1)|skip);(first|(have zz:=Blk.one k1.1;obtain ⟨zc1a,zf1a⟩:=zz)|skip);(first|(have zl1b:=Blk.lt k1.2)|skip);(first|(have zz:=Blk.one k1.2;obtain ⟨zc1b,zf1b⟩:=zz)|skip);(first|(have zl2:=Blk.lt k2)|skip);(first|(have zz:=Blk.one k2;obtain ⟨zc2,zf2⟩:=zz)|skip);(first|(have zl2a:=Blk.lt k2.1)|skip);(first|(have zz:=Blk.one k2.1;obtain ⟨zc2a,zf2a⟩:=zz)|skip);(first|(have zl2b:=Blk.lt k2.2)|skip);(first|(have zz:=Blk.one k2.2;obtain ⟨zc2b,zf2b⟩:=zz)|skip);  clear hx))
   all_goals
    go_wp2
    refine Met.intro ?_
    go_step
    (repeat apply Exists.intro)
    refine And.symm ⟨?_,?_⟩
    ·first|with_reducible rfl
    first
    | exact ⟨_,_,rfl,rfl,(by first|exact Nat.le_refl _|assumption|omega),(by first|exact Nat.le_refl _|assumption|omega),zH (NatB.mk2 (HBr.out) (by (with_reducible repeat (first  | (refine Blk.at ?_;· (first|rfl|(simp only [World.size_setCell,World.size_alloc,World.size_drew];done)))|(refine Blk.put1 ?_;· (repeat (first|exact BlkN.of k1 rfl|exact BlkN.of k1.1 rfl|exact BlkN.of k1.2 rfl|exact BlkN.of k2 rfl|exact BlkN.of k2.1 rfl|exact BlkN.of k2.2 rfl)))|(refine Blk.far2 ?_ ?_;· (first|omega))|refine Blk.al ?_))) (by (with_reducible repeat (first|exact HN1.out|refine IsNat.al ?_|(refine IsNat.setN ?_ ?_;· (repeat (first|exact NB.of k1 (by decide)|exact NB.of k1.1 (by decide)|exact NB.of k1.2 (by decide)|exact NB.of k2 (by decide)|exact NB.of k2.1 (by decide)|exact NB.of k2.2 (by decide)|refine NB.set ?_))))))),zH (NatB.mk2 (HBt.out) (by (with_reducible repeat (first  | (refine Blk.at ?_;· (first|rfl|(simp only [World.size_setCell,World.size_alloc,World.size_drew];done)))|(refine Blk.put1 ?_;· (repeat (first|exact BlkN.of k1 rfl|exact BlkN.of k1.1 rfl|exact BlkN.of k1.2 rfl|exact BlkN.of k2 rfl|exact BlkN.of k2.1 rfl|exact BlkN.of k2.2 rfl|(refine BlkN.far2 ?_ ?_;· (first|omega)))))|refine Blk.al ?_))) (by (with_reducible repeat (first|exact HN2.out|refine IsNat.al ?_|(refine IsNat.setN ?_ ?_;· (repeat (first|exact NB.of k1 (by decide)|exact NB.of k1.1 (by decide)|exact NB.of k1.2 (by decide)|exact NB.of k2 (by decide)|exact NB.of k2.1 (by decide)|exact NB.of k2.2 (by decide)|refine NB.set ?_))))))),zH Ext.ua⟩
  obtain ⟨b11,b12,rfl,rfl,hb11,hb12,HB11,HB12,HX2⟩:=hcut
  obtain ⟨W2,hWn⟩:∃ W2,wc=W2:=⟨_,rfl⟩
  rw [hWn] at HB11 HB12 HX2 ⊢
  clear hWn wc
  replace f5a:=HX2.out.free f5a (zAA c5a)
  replace c5a:=HX2.out.cell c5a
  replace f5b:=HX2.out.free f5b (zAA c5b)
  replace c5b:=HX2.out.cell c5b
  replace f5c:=HX2.out.free f5c (zAA c5c)
  replace c5c:=HX2.out.cell c5c
  replace f6a:=HX2.out.free f6a (zAA c6a)
  replace c6a:=HX2.out.cell c6a
  replace f6b:=HX2.out.free f6b (zAA c6b)
  replace c6b:=HX2.out.cell c6b
  replace f6c:=HX2.out.free f6c (zAA c6c)
  replace c6c:=HX2.out.cell c6c
  replace HK5:=zH (HK5.out.ext HX2.out)
  replace HK6:=zH (HK6.out.ext HX2.out)
  replace HR5:=zH (HR5.out.ext HX2.out)
  replace HR6:=zH (HR6.out.ext HX2.out)
  replace HX:=zH (HX.out.trans HX2.out)
  have hszW2:=HX2.out.size
  obtain ⟨A11,k11,q11,hn11⟩:=HB11.out.box
  obtain ⟨c11,f11⟩:=q11.one
  have hl11:=q11.lt
  have HN11:=zH hn11
  clear hn11 q11 HB11
  obtain ⟨A12,k12,q12,hn12⟩:=HB12.out.box
  obtain ⟨c12,f12⟩:=q12.one
  have hl12:=q12.lt
  have HN12:=zH hn12
  clear hn12 q12 HB12
  clear HT5 HT6
  have HI1:=zH (fun W (hx:Ext W2 W)=>zAc A11 k11 r W (HN11.out.ext hx) (by have:=zAK HN11.out HBr.out;omega))
  have HI2:=zH (fun W (hx:Ext W2 W)=>zAc A12 k12 t W (HN12.out.ext hx) (by have:=zAK HN12.out HBt.out;omega))
  obtain ⟨br,hbr⟩:∃ br,bitsN r=br:=⟨_,rfl⟩
  obtain ⟨bt,hbt⟩:∃ bt,bitsN t=bt:=⟨_,rfl⟩
  rw [hbr] at HI1
  rw [hbt] at HI2
  by_cases h1:r=0 <;> by_cases h2:t=0
  ·obtain rfl:br=0:=by rw [← hbr,h1];rfl
   obtain rfl:bt=0:=by rw [← hbt,h2];rfl
   have HV:Hid ((0:Int)=Q):=by
    have h3:=HQ.out
    rw [cmpQ_both HE.out (HRT.out.1.trans h1) (HRT.out.2.trans h2),Int.mul_zero] at h3
    exact h3
   clear hbr hbt h1 h2 HQ HE HRT hrl hsl
   go_wp2_with (first
    | (go_at_call 132;with_reducible refine Calls.mono (HI1.out _ ?_) ?_;exact Ext.ua;rintro e w1 ⟨rfl,hx⟩;have hxN:Ext W2 w1:=Ext.trans Ext.ua hx;have hxA:=hxN;clear hxN;  have tc11:=hxA.cell c11;have uc11:=hxA.free f11 (zAA c11);have tc12:=hxA.cell c12;have uc12:=hxA.free f12 (zAA c12);clear hx)
    | (go_at_call 132;with_reducible refine Calls.mono (HI2.out _ ?_) ?_;exact Ext.ua;rintro e w2 ⟨rfl,hx⟩;have hxN:Ext W2 w2:=Ext.trans Ext.ua hx;(try clear hxA);have hxA:=hxN;clear hxN;  (try clear tc11 uc11);have tc11:=hxA.cell c11;have uc11:=hxA.free f11 (zAA c11);(try clear tc12 uc12);have tc12:=hxA.cell c12;have uc12:=hxA.free f12 (zAA c12);clear hx))
   exact bodyPost_ret (v:=.int .i64 Q) (by rw [← HV.out];simp [results,Tryz.results103,go_sem]) rfl ⟨rfl,HX.out.trans hxA⟩
  ·obtain rfl:br=0:=by rw [← hbr,h1];rfl
   have hb2:0 < bt:=by rw [← hbt];exact zAf h2
   have HV:Hid (s * -1=Q):=by
    have h3:=HQ.out
    rw [cmpQ_left HE.out (HRT.out.1.trans h1) (by rw [HRT.out.2];exact h2)] at h3
    exact h3
   clear hbr hbt h1 h2 HQ HE HRT hrl hsl
   rcases HS.out with hs1|hs1 <;> subst hs1
   all_goals
    go_wp2_with (first
     | (go_at_call 132;with_reducible refine Calls.mono (HI1.out _ ?_) ?_;exact Ext.ua;rintro e w1 ⟨rfl,hx⟩;have hxN:Ext W2 w1:=Ext.trans Ext.ua hx;(try clear hxA);have hxA:=hxN;clear hxN;  (try clear tc11 uc11);have tc11:=hxA.cell c11;have uc11:=hxA.free f11 (zAA c11);(try clear tc12 uc12);have tc12:=hxA.cell c12;have uc12:=hxA.free f12 (zAA c12);clear hx)
     | (go_at_call 132;with_reducible refine Calls.mono (HI2.out _ ?_) ?_;exact Ext.ua;rintro e w2 ⟨rfl,hx⟩;have hxN:Ext W2 w2:=Ext.trans Ext.ua hx;(try clear hxA);have hxA:=hxN;clear hxN;  (try clear tc11 uc11);have tc11:=hxA.cell c11;have uc11:=hxA.free f11 (zAA c11);(try clear tc12 uc12);have tc12:=hxA.cell c12;have uc12:=hxA.free f12 (zAA c12);clear hx))
    exact bodyPost_ret (v:=.int .i64 Q) (by rw [← HV.out];simp [results,Tryz.results103,go_sem]) rfl ⟨rfl,HX.out.trans hxA⟩
  ·have hb1:0 < br:=by rw [← hbr];exact zAf h1
   obtain rfl:bt=0:=by rw [← hbt,h2];rfl
   have HV:Hid (s*1=Q):=by
    have h3:=HQ.out
    rw [cmpQ_right HE.out (by rw [HRT.out.1];exact h1) (HRT.out.2.trans h2)] at h3
    exact h3
   clear hbr hbt h1 h2 HQ HE HRT hrl hsl
   rcases HS.out with hs1|hs1 <;> subst hs1
   all_goals
    go_wp2_with (first
     | (go_at_call 132;with_reducible refine Calls.mono (HI1.out _ ?_) ?_;exact Ext.ua;rintro e w1 ⟨rfl,hx⟩;have hxN:Ext W2 w1:=Ext.trans Ext.ua hx;(try clear hxA);have hxA:=hxN;clear hxN;  (try clear tc11 uc11);have tc11:=hxA.cell c11;have uc11:=hxA.free f11 (zAA c11);(try clear tc12 uc12);have tc12:=hxA.cell c12;have uc12:=hxA.free f12 (zAA c12);clear hx)
     | (go_at_call 132;with_reducible refine Calls.mono (HI2.out _ ?_) ?_;exact Ext.ua;rintro e w2 ⟨rfl,hx⟩;have hxN:Ext W2 w2:=Ext.trans Ext.ua hx;(try clear hxA);have hxA:=hxN;clear hxN;  (try clear tc11 uc11);have tc11:=hxA.cell c11;have uc11:=hxA.free f11 (zAA c11);(try clear tc12 uc12);have tc12:=hxA.cell c12;have uc12:=hxA.free f12 (zAA c12);clear hx))
    exact bodyPost_ret (v:=.int .i64 Q) (by rw [← HV.out];simp [results,Tryz.results103,go_sem]) rfl ⟨rfl,HX.out.trans hxA⟩
  ·have hb1:0 < br:=by rw [← hbr];exact zAf h1
   have hb2:0 < bt:=by rw [← hbt];exact zAf h2
   have HV:Hid (-s*cmpQ ((dx+1:Nat):Int) (r - 1) ((dy+1:Nat):Int) (t - 1)=Q):=by
    have h3:=HQ.out
    rw [cmpQ_turn HE.out (by rw [HRT.out.1];exact h1) (by rw [HRT.out.2];exact h2),HRT.out.1,HRT.out.2] at h3
    rw [Int.neg_mul,← Int.mul_neg];exact h3
   have HZ:=zH (And.intro h1 h2)
   clear hbr hbt h1 h2 HQ HE HRT
   go_upto_region 13 with (first
     | (go_at_call 132;with_reducible refine Calls.mono (HI1.out _ ?_) ?_;exact Ext.ua;rintro e v1 ⟨rfl,hx⟩;have hxN:Ext W2 v1:=Ext.trans Ext.ua hx;(try clear hxA);have hxA:=hxN;clear hxN;  (try clear tc11 uc11);have tc11:=hxA.cell c11;have uc11:=hxA.free f11 (zAA c11);(try clear tc12 uc12);have tc12:=hxA.cell c12;have uc12:=hxA.free f12 (zAA c12);clear hx)
     | (go_at_call 132;with_reducible refine Calls.mono (HI2.out _ ?_) ?_;exact Ext.ua;rintro e v2 ⟨rfl,hx⟩;have hxN:Ext W2 v2:=Ext.trans Ext.ua hx;(try clear hxA);have hxA:=hxN;clear hxN;  (try clear tc11 uc11);have tc11:=hxA.cell c11;have uc11:=hxA.free f11 (zAA c11);(try clear tc12 uc12);have tc12:=hxA.cell c12;have uc12:=hxA.free f12 (zAA c12);clear hx))
   have HXr:=zH hxA
   clear hxA HI1 HI2 tc11 uc11 tc12 uc12
   replace f5a:=HXr.out.free f5a (zAA c5a)
   replace c5a:=HXr.out.cell c5a
   replace f5b:=HXr.out.free f5b (zAA c5b)
   replace c5b:=HXr.out.cell c5b
   replace f5c:=HXr.out.free f5c (zAA c5c)
   replace c5c:=HXr.out.cell c5c
   replace f6a:=HXr.out.free f6a (zAA c6a)
   replace c6a:=HXr.out.cell c6a
   replace f6b:=HXr.out.free f6b (zAA c6b)
   replace c6b:=HXr.out.cell c6b
   replace f6c:=HXr.out.free f6c (zAA c6c)
   replace c6c:=HXr.out.cell c6c
   replace f11:=HXr.out.free f11 (zAA c11)
   replace c11:=HXr.out.cell c11
   replace f12:=HXr.out.free f12 (zAA c12)
   replace c12:=HXr.out.cell c12
   replace HK5:=zH (HK5.out.ext HXr.out)
   replace HK6:=zH (HK6.out.ext HXr.out)
   replace HR5:=zH (HR5.out.ext HXr.out)
   replace HR6:=zH (HR6.out.ext HXr.out)
   replace HN11:=zH (HN11.out.ext HXr.out)
   replace HN12:=zH (HN12.out.ext HXr.out)
   replace HX:=zH (HX.out.trans HXr.out)
   have hszv2:=HXr.out.size
   have HD5:=zH (fun W (hx:Ext v2 W)=>zA0 n5 A5 B5 k5 m5 x dx W (HR5.out.ext hx))
   have HD6:=zH (fun W (hx:Ext v2 W)=>zA0 n6 A6 B6 k6 m6 y dy W (HR6.out.ext hx))
   have HO5:=zH (fun W E e (he:IsNat W E e (dx+1)) (hx:Ext v2 W)=>over_any E A11 e k11 (dx+1) r W he (HN11.out.ext hx) HR5.out.bits HBr.out HZ.out.1)
   have HO6:=zH (fun W E e (he:IsNat W E e (dy+1)) (hx:Ext v2 W)=>over_any E A12 e k12 (dy+1) t W he (HN12.out.ext hx) HR6.out.bits HBt.out HZ.out.2)
   have HKeepT:=zH (fun (w':World) (hx:Ext v2 w')=>(show w'.cell? ⟨b5,0,none⟩=some (.bool n5)∧w'.cell? ⟨b5,1,none⟩=some (.slice A5 k5 k5)∧w'.cell? ⟨b5,2,none⟩=some (.slice B5 m5 m5)∧w'.cell? ⟨b6,0,none⟩=some (.bool n6)∧w'.cell? ⟨b6,1,none⟩=some (.slice A6 k6 k6)∧w'.cell? ⟨b6,2,none⟩=some (.slice B6 m6 m6)∧w'.cell? ⟨b11,0,none⟩=some (.slice A11 k11 k11)∧w'.cell? ⟨b12,0,none⟩=some (.slice A12 k12 k12) from ⟨hx.cell c5a,hx.cell c5b,hx.cell c5c,hx.cell c6a,hx.cell c6b,hx.cell c6c,hx.cell c11,hx.cell c12⟩))
   refine zCI (fun w'=>w'.cell? ⟨b5,0,none⟩=some (.bool n5)∧w'.cell? ⟨b5,1,none⟩=some (.slice A5 k5 k5)∧w'.cell? ⟨b5,2,none⟩=some (.slice B5 m5 m5)∧w'.cell? ⟨b6,0,none⟩=some (.bool n6)∧w'.cell? ⟨b6,1,none⟩=some (.slice A6 k6 k6)∧w'.cell? ⟨b6,2,none⟩=some (.slice B6 m6 m6)∧w'.cell? ⟨b11,0,none⟩=some (.slice A11 k11 k11)∧w'.cell? ⟨b12,0,none⟩=some (.slice A12 k12 k12)) 10 [8,9] 13 #[false,false,false,false,false,false,false,false,false,false,false,false,false] kr kr kr ?_ (fun hH hC=>?_)
   ·exact HKeepT.out _ Ext.ua
   refine zDO hC (i:=8) (v:=?_) Sg kr kr kr (by rfl) Iq (by rfl) ?_ (fun hC=>?_)
   rotate_left
   ·intro w';go_simp;(try with_reducible rfl)
   try simp only [Act.put,sA,sB,sC]
   refine zDO hC (i:=9) (v:=?_) Sg kr kr kr (by rfl) Iq (by rfl) ?_ (fun hC=>?_)
   rotate_left
   ·intro w';go_simp;(try with_reducible rfl)
   try simp only [Act.put,sA,sB,sC]
   refine zAE hC hH (i:=0) (f:=13) (v:=?_) Sg kr kr kr kr kr kr Iq (by rfl) ?_ (fun hC=>?_)
   rotate_left
   ·intro w' hSw;go_simp;(try with_reducible rfl)
   try simp only [Act.put,sA,sB,sC]
   refine zAE hC hH (i:=2) (f:=13) (v:=?_) Sg kr kr kr kr kr kr Iq (by rfl) ?_ (fun hC=>?_)
   rotate_left
   ·intro w' hSw;go_simp;(try with_reducible rfl)
   try simp only [Act.put,sA,sB,sC]
   refine zAE hC hH (i:=4) (f:=13) (v:=?_) Sg kr kr kr kr kr kr Iq (by rfl) ?_ (fun hC=>?_)
   rotate_left
   ·intro w' hSw;go_simp;(try with_reducible rfl)
   try simp only [Act.put,sA,sB,sC]
   refine zAE hC hH (i:=6) (f:=13) (v:=?_) Sg kr kr kr kr kr kr Iq (by rfl) ?_ (fun hC=>?_)
   rotate_left
   ·intro w' hSw;go_simp;(try with_reducible rfl)
   try simp only [Act.put,sA,sB,sC]
   refine zAL hC (i:=1) Sg kr (fun K hK=>?_)
   go_simp
   (go_at_call 146;refine (HD5.out _ Ext.ua).mono ?_;rintro e w1 ⟨e1,a1,rfl,hn1,hx⟩;have hxN:Ext v2 w1:=Ext.trans Ext.ua hx;have hxA:=hxN;clear hxN;have HN1:=zH hn1;clear hn1;clear hx)
   try go_wp2_with fail
   have hHeldN:=HKeepT.out w1 Ext.ua
   refine hK.out _ _ (fun _=>hHeldN) (fun hC=>?_)
   clear hK K hH
   have hH:=hHeldN
   clear hHeldN
   try simp only [Act.put,sA,sB,sC]
   refine zAL hC (i:=3) Sg kr (fun K hK=>?_)
   go_simp
   (go_at_call 148;refine (HO5.out _ _ _ (HN1.out.ext Ext.ub) Ext.ua).mono ?_;rintro e w2 ⟨n2,A2,e2,B2,m2,rfl,hn2,hx⟩;have hxN:Ext v2 w2:=Ext.trans Ext.ua hx;(try clear hxA);have hxA:=hxN;clear hxN;have HN2:=zH hn2;clear hn2;(first|(have hh:=zH (HN1.out.ext (Ext.trans Ext.ub hx));clear HN1;have HN1:=hh;clear hh));clear hx)
   try go_wp2_with fail
   have hHeldN:=HKeepT.out w2 Ext.ua
   refine hK.out _ _ (fun _=>hHeldN) (fun hC=>?_)
   clear hK K hH
   have hH:=hHeldN
   clear hHeldN
   try simp only [Act.put,sA,sB,sC]
   refine zAL hC (i:=5) Sg kr (fun K hK=>?_)
   go_simp
   (go_at_call 146;refine (HD6.out _ Ext.ua).mono ?_;rintro e w3 ⟨e3,a3,rfl,hn3,hx⟩;have hxN:Ext v2 w3:=Ext.trans Ext.ua hx;(try clear hxA);have hxA:=hxN;clear hxN;have HN3:=zH hn3;clear hn3;(first|(have hh:=zH (HN1.out.ext (Ext.trans Ext.ub hx));clear HN1;have HN1:=hh;clear hh));(first|(have hh:=zH (HN2.out.ext (Ext.trans Ext.ub hx));clear HN2;have HN2:=hh;clear hh));clear hx)
   try go_wp2_with fail
   have hHeldN:=HKeepT.out w3 Ext.ua
   refine hK.out _ _ (fun _=>hHeldN) (fun hC=>?_)
   clear hK K hH
   have hH:=hHeldN
   clear hHeldN
   try simp only [Act.put,sA,sB,sC]
   refine zAL hC (i:=7) Sg kr (fun K hK=>?_)
   go_simp
   (go_at_call 148;refine (HO6.out _ _ _ (HN3.out.ext Ext.ub) Ext.ua).mono ?_;rintro e w4 ⟨n4,A4,e4,B4,m4,rfl,hn4,hx⟩;have hxN:Ext v2 w4:=Ext.trans Ext.ua hx;(try clear hxA);have hxA:=hxN;clear hxN;have HN4:=zH hn4;clear hn4;(first|(have hh:=zH (HN1.out.ext (Ext.trans Ext.ub hx));clear HN1;have HN1:=hh;clear hh));(first|(have hh:=zH (HN2.out.ext (Ext.trans Ext.ub hx));clear HN2;have HN2:=hh;clear hh));(first|(have hh:=zH (HN3.out.ext (Ext.trans Ext.ub hx));clear HN3;have HN3:=hh;clear hh));have tc5a:=hxA.cell c5a;have uc5a:=hxA.free f5a (zAA c5a);have tc5b:=hxA.cell c5b;have uc5b:=hxA.free f5b (zAA c5b);have tc5c:=hxA.cell c5c;have uc5c:=hxA.free f5c (zAA c5c);have tc6a:=hxA.cell c6a;have uc6a:=hxA.free f6a (zAA c6a);have tc6b:=hxA.cell c6b;have uc6b:=hxA.free f6b (zAA c6b);have tc6c:=hxA.cell c6c;have uc6c:=hxA.free f6c (zAA c6c);have q5:=HK5.out.ext hxA;have q6:=HK6.out.ext hxA;clear hx)
   try go_wp2_with fail
   have hHeldN:=HKeepT.out w4 Ext.ua
   refine hK.out _ _ (fun _=>hHeldN) (fun hC=>?_)
   clear hK K hH
   have hH:=hHeldN
   clear hHeldN
   try simp only [Act.put,sA,sB,sC]
   refine zAL hC (i:=10) Sg kr (fun K hK=>?_)
   go_simp
   refine hK.out _ _ (fun h=>by cases h) (fun hC=>?_)
   clear hK K
   try simp only [Act.put,sA,sB,sC]
   refine zAL hC (i:=11) Sg kr (fun K hK=>?_)
   go_simp
   refine hK.out _ _ (fun h=>by cases h) (fun hC=>?_)
   clear hK K
   try simp only [Act.put,sA,sB,sC]
   refine zAL hC (i:=12) Sg kr (fun K hK=>?_)
   go_simp
   refine hK.out _ _ (fun h=>by cases h) (fun hC=>?_)
   clear hK K
   try simp only [Act.put,sA,sB,sC]
   refine zCH kr ?_ _
   clear hC hH HKeepT
   go_wp2
   go_roundg (r - 1)
   case measure=>have:=HZ.out.1;omega
   case rel =>
    exact ⟨((dx+1:Nat):Int),((dy+1:Nat):Int),-s,r - 1,t - 1,rfl,congrArg (Value.int .i64) (wrap_neg_sign HS.out),zH (RatB.mk2 (by (with_reducible repeat (first|(refine Blk.put3 ?_;· (repeat (first|exact BlkN.of q5 rfl)))|(refine Blk.far2 ?_ ?_;· (first|assumption))))) (by (with_reducible repeat (first|exact HN2.out|(refine IsRat.setN ?_ ?_;· (repeat (first|exact NB.of q5 (by decide)|exact NB.of q6 (by decide)|refine NB.set ?_))))))),zH (RatB.mk2 (by (with_reducible repeat (first|(refine Blk.put3 ?_;· (repeat (first|exact BlkN.of q6 rfl|(refine BlkN.far2 ?_ ?_;· (first|exact Ne.symm (by assumption))))))))) (by (with_reducible repeat (first|exact HN4.out|(refine IsRat.setN ?_ ?_;· (repeat (first|exact NB.of q5 (by decide)|exact NB.of q6 (by decide)|refine NB.set ?_))))))),zH (by have hh:=HX.out.trans hxA;repeat (first|with_reducible exact hh|refine Ext.setCell ?_ (by first|exact hle5|exact hle6) _)),zH (by rcases HS.out with h|h;exact Or.inr (by rw [h]);exact Or.inl (by rw [h];rfl)),HV⟩
def Rep (num:Int) (less:Nat) (p:Int) (q:Nat):Prop:=0 < q∧num*(q:Int)=p*((less:Int)+1)∧Nat.gcd num.natAbs (less+1)=1
theorem Rep.abs {n:Int} {l:Nat} {p:Int} {q:Nat} (h:Rep n l p q):n.natAbs*q=p.natAbs*(l+1):=by
 have:=congrArg Int.natAbs h.2.1
 rw [Int.natAbs_mul,Int.natAbs_mul,Int.natAbs_natCast] at this
 rw [this];congr 1
theorem Rep.den {n:Int} {l:Nat} {p:Int} {q:Nat} (h:Rep n l p q):l+1≤q:=by
 have h1:l+1∣n.natAbs*q:=⟨p.natAbs,by rw [h.abs,Nat.mul_comm]⟩
 have h2:Nat.Coprime (l+1) n.natAbs:=Nat.Coprime.symm h.2.2
 exact Nat.le_of_dvd h.1 (Nat.Coprime.dvd_of_dvd_mul_left h2 h1)
theorem Rep.num {n:Int} {l:Nat} {p:Int} {q:Nat} (h:Rep n l p q):n.natAbs≤p.natAbs:=by
 by_cases hp:p.natAbs=0
 ·have:=h.abs
  rw [hp,Nat.zero_mul] at this
  rcases Nat.mul_eq_zero.1 this with h1|h1
  ·omega
  ·have:=h.1;omega
 ·have h1:n.natAbs∣p.natAbs*(l+1):=⟨q,h.abs.symm⟩
  exact Nat.le_of_dvd om (Nat.Coprime.dvd_of_dvd_mul_right h.2.2 h1)
theorem Rep.conv {n:Int} {l:Nat} {p p2:Int} {q q2:Nat} (h:Rep n l p q) (hq:0 < q2) (e:p*(q2:Int)=p2*q):Rep n l p2 q2:=by
 refine ⟨hq,?_,h.2.2⟩
 refine Int.eq_of_mul_eq_mul_right (show (q:Int)≠0 by have:=h.1;omega) ?_
 have h1:=h.2.1
 have e1:n*(q2:Int)*q=(n*q)*q2:=by grind
 rw [e1,h1]
 have e2:p*((l:Int)+1)*q2=(p*q2)*((l:Int)+1):=by grind
 rw [e2,e];grind
theorem rep_low {p:Int} {q:Nat} (hq:0 < q):Rep (lowNum p q) (lowLess p q) p q:=by
 unfold lowNum lowLess
 have hg:0 < Nat.gcd p.natAbs q:=Nat.gcd_pos_of_pos_right _ hq
 obtain ⟨a,ha⟩:=Nat.gcd_dvd_left p.natAbs q
 obtain ⟨b,hb⟩:=Nat.gcd_dvd_right p.natAbs q
 have hco:=Nat.coprime_div_gcd_div_gcd hg
 generalize Nat.gcd p.natAbs q=g at *
 have hb0:0 < b:=by
  rcases Nat.eq_zero_or_pos b with h|h
  ·rw [h,Nat.mul_zero] at hb;omega
  ·exact h
 have hqb:q / g=b:=by rw [hb,Nat.mul_div_cancel_left _ hg]
 obtain ⟨s,hs⟩:∃ s:Int,p=g*s∧s.natAbs=a:=by
  rcases Int.natAbs_eq p with h|h
  ·exact ⟨a,by rw [h,ha];simp,by simp⟩
  ·exact ⟨-a,by rw [h,ha];simp [Int.mul_neg],by simp⟩
 have hpa:p / (g:Int)=s:=by rw [hs.1,Int.mul_ediv_cancel_left _ om]
 have hna:p.natAbs / g=a:=by rw [ha,Nat.mul_div_cancel_left _ hg]
 rw [hpa,hqb]
 refine ⟨hq,?_,?_⟩
 ·rw [show (((b - 1:Nat):Int)+1)=(b:Int) by omega,hs.1,hb,Int.natCast_mul];grind
 ·rw [hs.2,show b - 1+1=b by omega]
  rw [hqb,hna] at hco
  exact hco
theorem rep_of (z:Int):Rep z 0 z 1:=⟨by omega,by omega,Nat.gcd_one_right _⟩
theorem Rep.neg {n:Int} {l:Nat} {p:Int} {q:Nat} (h:Rep n l p q):Rep (-n) l (-p) q:=⟨h.1,by rw [Int.neg_mul,Int.neg_mul,h.2.1],by rw [Int.natAbs_neg];exact h.2.2⟩
theorem zDG {a b:Int} (ha:0 < a) (h:0 < a*b):0 < b:=by
 rcases Int.lt_trichotomy 0 b with h1|h1|h1
 ·exact h1
 ·subst h1;simp at h
 ·have:=Int.mul_neg_of_pos_of_neg ha h1;omega
theorem zBb {x:Nat} (h:x < 2 ^ 4096):bitsN x≤4096:=(zAW _ _).2 h
theorem rep_mul {a b p r:Int} {c d q s:Nat} (h:Rep a c p q) (h':Rep b d r s) (h1:p.natAbs*r.natAbs < 2 ^ 4096) (h2:q*s < 2 ^ 4096) :
  codeR (a*b) ((c+1)*(d+1))=0∧Rep (numR (a*b) ((c+1)*(d+1))) (lessR (a*b) ((c+1)*(d+1))) (p*r) (q*s):=by
 have hf:fitsR (a*b) ((c+1)*(d+1)):=⟨zBb (by rw [Int.natAbs_mul];exact Nat.lt_of_le_of_lt (Nat.mul_le_mul h.num h'.num) h1),zBb (Nat.lt_of_le_of_lt (Nat.mul_le_mul h.den h'.den) h2)⟩
 unfold codeR numR lessR
 rw [if_pos hf,if_pos hf,if_pos hf]
 refine ⟨rfl,(rep_low (Nat.mul_pos (Nat.succ_pos c) (Nat.succ_pos d))).conv (Nat.mul_pos h.1 h'.1) ?_⟩
 have e1:=h.2.1
 have e2:=h'.2.1
 rw [Int.natCast_mul,Int.natCast_mul,show ((c.succ:Nat):Int)=(c:Int)+1 by omega,show ((d.succ:Nat):Int)=(d:Int)+1 by omega]
 have:a*b*((q:Int)*s)=(a*q)*(b*s):=by grind
 rw [this,e1,e2]
 show _=p*r*(((c:Int)+1)*((d:Int)+1))
 grind
theorem rep_cross {op:Int→Int→Int} (hop:(∀ x y,op x y=x+y)∨(∀ x y,op x y=x - y)) {a b p r:Int} {c d q s:Nat} (h:Rep a c p q) (h':Rep b d r s) (h1:p.natAbs*s+r.natAbs*q < 2 ^ 4096) (h2:q*s < 2 ^ 4096) :
  codeC op a b c d=0∧Rep (numC op a b c d) (lessC op a b c d) (op (p*s) (r*q)) (q*s):=by
 have k1:(a*((d+1:Nat):Int)).natAbs≤p.natAbs*s:=by rw [Int.natAbs_mul,Int.natAbs_natCast];exact Nat.mul_le_mul h.num h'.den
 have k2:(b*((c+1:Nat):Int)).natAbs≤r.natAbs*q:=by rw [Int.natAbs_mul,Int.natAbs_natCast];exact Nat.mul_le_mul h'.num h.den
 have k3:(op (a*((d+1:Nat):Int)) (b*((c+1:Nat):Int))).natAbs≤p.natAbs*s+r.natAbs*q:=by
  rcases hop with e|e
  ·rw [e];exact Nat.le_trans (Int.natAbs_add_le _ _) (Nat.add_le_add k1 k2)
  ·rw [e];exact Nat.le_trans (Int.natAbs_sub_le _ _) (Nat.add_le_add k1 k2)
 have hf:crossFits op a b c d:=⟨zBb om,zBb om,zBb (Nat.lt_of_le_of_lt (Nat.mul_le_mul h.den h'.den) h2),zBb om⟩
 unfold codeC numC lessC
 rw [if_pos hf,if_pos hf,if_pos hf]
 refine ⟨rfl,(rep_low (Nat.mul_pos (Nat.succ_pos c) (Nat.succ_pos d))).conv (Nat.mul_pos h.1 h'.1) ?_⟩
 have e1:=h.2.1
 have e2:=h'.2.1
 have ec:((c+1:Nat):Int)=(c:Int)+1:=by omega
 have ed:((d+1:Nat):Int)=(d:Int)+1:=by omega
 rw [Int.natCast_mul,Int.natCast_mul,ec,ed]
 have g1:a*((d:Int)+1)*((q:Int)*s)=(a*q)*(((d:Int)+1)*s):=by grind
 have g2:b*((c:Int)+1)*((q:Int)*s)=(b*s)*(((c:Int)+1)*q):=by grind
 rcases hop with e|e
 ·rw [e,e,Int.add_mul,g1,g2,e1,e2];grind
 ·rw [e,e,Int.sub_mul,g1,g2,e1,e2];grind
theorem rep_div {a b p r:Int} {c d q s:Nat} (h:Rep a c p q) (h':Rep b d r s) (hr:0 < r) (h1:p.natAbs*s < 2 ^ 4096) (h2:q*r.natAbs < 2 ^ 4096) :
  codeD a b c d=0∧Rep (numD a b c d) (lessD a b c d) (p*s) (q*r.natAbs):=by
 have hb:0 < b:=by
  have e:=h'.2.1
  have:0 < b*(s:Int):=by rw [e];exact Int.mul_pos hr om
  rw [Int.mul_comm] at this
  exact zDG (by have:=h'.1;omega) this
 unfold codeD numD lessD
 rw [if_neg om,if_neg om,if_neg om,show sgnD b d=((d+1:Nat):Int) by unfold sgnD;rw [if_neg om]]
 have hf:fitsR (a*((d+1:Nat):Int)) ((c+1)*b.natAbs):=⟨zBb (by rw [Int.natAbs_mul,Int.natAbs_natCast];exact Nat.lt_of_le_of_lt (Nat.mul_le_mul h.num h'.den) h1),zBb (Nat.lt_of_le_of_lt (Nat.mul_le_mul h.den h'.num) h2)⟩
 unfold codeR numR lessR
 rw [if_pos hf,if_pos hf,if_pos hf]
 refine ⟨rfl,(rep_low (Nat.mul_pos (Nat.succ_pos c) om)).conv (Nat.mul_pos h.1 om) ?_⟩
 have e1:=h.2.1
 have e2:=h'.2.1
 have eb:((b.natAbs:Nat):Int)=b:=by omega
 have er:((r.natAbs:Nat):Int)=r:=by omega
 have ec:((c+1:Nat):Int)=(c:Int)+1:=by omega
 have ed:((d+1:Nat):Int)=(d:Int)+1:=by omega
 rw [Int.natCast_mul,Int.natCast_mul,eb,er,ec,ed]
 have g1:a*((d:Int)+1)*((q:Int)*r)=(a*q)*(r*((d:Int)+1)):=by grind
 rw [g1,e1,← e2];grind
def IsQ (w:World) (neg:Bool) (A:Option Addr) (k:Nat) (B:Option Addr) (m:Nat) (p:Int) (q:Nat):Prop:=∃ num less,IsRat w neg A k B m num less∧Rep num less p q
theorem IsQ.ext {w w':World} {neg:Bool} {A B:Option Addr} {k m:Nat} {p:Int} {q:Nat} (h:IsQ w neg A k B m p q) (hx:Ext w w'):IsQ w' neg A k B m p q:=by
 obtain ⟨n,l,h1,h2⟩:=h;exact ⟨n,l,h1.ext hx,h2⟩
theorem IsQ.conv {w:World} {neg:Bool} {A B:Option Addr} {k m:Nat} {p p2:Int} {q q2:Nat} (h:IsQ w neg A k B m p q) (hq:0 < q2) (e:p*(q2:Int)=p2*q):IsQ w neg A k B m p2 q2:=by
 obtain ⟨n,l,h1,h2⟩:=h;exact ⟨n,l,h1,h2.conv hq e⟩
theorem isQ_zero (w:World):IsQ w false none 0 none 0 0 1:=⟨0,0,zAZ w,rep_of 0⟩
theorem ofV (neg:Bool) (A:Option Addr) (k:Nat) (z:Int) (w:World) (h:IsInt w neg A k z) :
  Calls Tryz.prog 140 #[.agg #[.bool neg,.slice A k k]] w fun e w'=>e = .returned (.agg #[.bool neg,.slice A k k,.slice none 0 0])∧IsQ w' neg A k none 0 z 1∧Ext w w' :=
 (ratOf_any neg A k z w h).mono fun e w' ⟨h1,h2,h3⟩=>⟨h1,⟨z,0,h2,rep_of z⟩,h3⟩
theorem negV (na:Bool) (A B:Option Addr) (k m:Nat) (p:Int) (q:Nat) (w:World) (h:IsQ w na A k B m p q) :
  Calls Tryz.prog 108 #[.agg #[.bool na,.slice A k k,.slice B m m]] w fun e w'=>∃ n A' k' B' m',e = .returned (.agg #[.bool n,.slice A' k' k',.slice B' m' m'])∧IsQ w' n A' k' B' m' (-p) q∧Ext w w':=by
 obtain ⟨x,l,h1,h2⟩:=h
 refine (ratNeg_any na A B k m x l w h1).mono ?_
 rintro e w' ⟨n,A',k',B',m',rfl,hr,hx⟩
 exact ⟨n,A',k',B',m',rfl,⟨_,_,hr,h2.neg⟩,hx⟩
theorem mulV (na nb:Bool) (A B C D:Option Addr) (k m j l:Nat) (p r:Int) (q s:Nat) (w:World) (h:IsQ w na A k B m p q) (hb:IsQ w nb C j D l r s) (h1:p.natAbs*r.natAbs < 2 ^ 4096) (h2:q*s < 2 ^ 4096) :
  Calls Tryz.prog 102 #[.agg #[.bool na,.slice A k k,.slice B m m],.agg #[.bool nb,.slice C j j,.slice D l l]] w fun e w'=>∃ n A' k' B' m',e = .returned (.tuple #[.agg #[.bool n,.slice A' k' k',.slice B' m' m'],.int .i64 0])∧IsQ w' n A' k' B' m' (p*r) (q*s)∧Ext w w':=by
 obtain ⟨a,c,ha,hra⟩:=h
 obtain ⟨b,d,hb,hrb⟩:=hb
 obtain ⟨e1,e2⟩:=rep_mul hra hrb h1 h2
 refine (ratMul_any na nb A B C D k m j l a b c d w ha hb).mono ?_
 rintro e w' ⟨n,A',k',B',m',rfl,hr,hx⟩
 exact ⟨n,A',k',B',m',by rw [e1],⟨_,_,hr,e2⟩,hx⟩
theorem addV_ (na nb:Bool) (A B C D:Option Addr) (k m j l:Nat) (p r:Int) (q s:Nat) (w:World) (h:IsQ w na A k B m p q) (hb:IsQ w nb C j D l r s) (h1:p.natAbs*s+r.natAbs*q < 2 ^ 4096) (h2:q*s < 2 ^ 4096) :
  Calls Tryz.prog 100 #[.agg #[.bool na,.slice A k k,.slice B m m],.agg #[.bool nb,.slice C j j,.slice D l l]] w fun e w'=>∃ n A' k' B' m',e = .returned (.tuple #[.agg #[.bool n,.slice A' k' k',.slice B' m' m'],.int .i64 0])∧IsQ w' n A' k' B' m' (p*s+r*q) (q*s)∧Ext w w':=by
 obtain ⟨a,c,ha,hra⟩:=h
 obtain ⟨b,d,hb,hrb⟩:=hb
 obtain ⟨e1,e2⟩:=rep_cross (op:=fun x y=>x+y) (Or.inl fun x y=>rfl) hra hrb h1 h2
 refine (ratAdd_any na nb A B C D k m j l a b c d w ha hb).mono ?_
 rintro e w' ⟨n,A',k',B',m',rfl,hr,hx⟩
 exact ⟨n,A',k',B',m',by rw [e1],⟨_,_,hr,e2⟩,hx⟩
theorem subV (na nb:Bool) (A B C D:Option Addr) (k m j l:Nat) (p r:Int) (q s:Nat) (w:World) (h:IsQ w na A k B m p q) (hb:IsQ w nb C j D l r s) (h1:p.natAbs*s+r.natAbs*q < 2 ^ 4096) (h2:q*s < 2 ^ 4096) :
  Calls Tryz.prog 104 #[.agg #[.bool na,.slice A k k,.slice B m m],.agg #[.bool nb,.slice C j j,.slice D l l]] w fun e w'=>∃ n A' k' B' m',e = .returned (.tuple #[.agg #[.bool n,.slice A' k' k',.slice B' m' m'],.int .i64 0])∧IsQ w' n A' k' B' m' (p*s - r*q) (q*s)∧Ext w w':=by
 obtain ⟨a,c,ha,hra⟩:=h
 obtain ⟨b,d,hb,hrb⟩:=hb
 obtain ⟨e1,e2⟩:=rep_cross (op:=fun x y=>x - y) (Or.inr fun x y=>rfl) hra hrb h1 h2
 refine (ratSub_any na nb A B C D k m j l a b c d w ha hb).mono ?_
 rintro e w' ⟨n,A',k',B',m',rfl,hr,hx⟩
 exact ⟨n,A',k',B',m',by rw [e1],⟨_,_,hr,e2⟩,hx⟩
theorem divV (na nb:Bool) (A B C D:Option Addr) (k m j l:Nat) (p r:Int) (q s:Nat) (w:World) (h:IsQ w na A k B m p q) (hb:IsQ w nb C j D l r s) (hr:0 < r) (h1:p.natAbs*s < 2 ^ 4096) (h2:q*r.natAbs < 2 ^ 4096) :
  Calls Tryz.prog 143 #[.agg #[.bool na,.slice A k k,.slice B m m],.agg #[.bool nb,.slice C j j,.slice D l l]] w fun e w'=>∃ n A' k' B' m',e = .returned (.tuple #[.agg #[.bool n,.slice A' k' k',.slice B' m' m'],.int .i64 0])∧IsQ w' n A' k' B' m' (p*s) (q*r.natAbs)∧Ext w w':=by
 obtain ⟨a,c,ha,hra⟩:=h
 obtain ⟨b,d,hb,hrb⟩:=hb
 obtain ⟨e1,e2⟩:=rep_div hra hrb hr h1 h2
 refine (ratDiv_any na nb A B C D k m j l a b c d w ha hb).mono ?_
 rintro e w' ⟨n,A',k',B',m',rfl,hr,hx⟩
 exact ⟨n,A',k',B',m',by rw [e1],⟨_,_,hr,e2⟩,hx⟩
theorem signZ_mul {x y:Int} (hy:0 < y):signZ (x*y)=signZ x:=by
 unfold signZ
 rcases Int.lt_trichotomy x 0 with h|h|h
 ·have:=Int.mul_neg_of_neg_of_pos h hy
  rw [if_neg om,if_pos om,if_neg om,if_pos h]
 ·subst h;simp
 ·have:=Int.mul_pos h hy
  rw [if_neg om,if_neg om,if_neg om,if_neg om]
theorem rep_cmp {a b p r:Int} {c d q s:Nat} (h:Rep a c p q) (h':Rep b d r s):cmpQ a c b d=signZ (p*s - r*q):=by
 unfold cmpQ
 have hq:(0:Int) < q:=by have:=h.1;omega
 have hs:(0:Int) < s:=by have:=h'.1;omega
 have hc:(0:Int) < (c:Int)+1:=by omega
 have hd:(0:Int) < (d:Int)+1:=by omega
 rw [← signZ_mul (x:=a*((d:Int)+1) - b*((c:Int)+1)) (Int.mul_pos hq hs),← signZ_mul (x:=p*s - r*q) (Int.mul_pos hc hd)]
 congr 1
 have e1:=h.2.1
 have e2:=h'.2.1
 rw [Int.sub_mul,Int.sub_mul]
 have g1:a*((d:Int)+1)*((q:Int)*s)=(a*q)*(((d:Int)+1)*s):=by grind
 have g2:b*((c:Int)+1)*((q:Int)*s)=(b*s)*(((c:Int)+1)*q):=by grind
 rw [g1,g2,e1,e2];grind
theorem cmpV (na nb:Bool) (A B C D:Option Addr) (k m j l:Nat) (p r:Int) (q s:Nat) (w:World) (h:IsQ w na A k B m p q) (hb:IsQ w nb C j D l r s) :
  Calls Tryz.prog 103 #[.agg #[.bool na,.slice A k k,.slice B m m],.agg #[.bool nb,.slice C j j,.slice D l l]] w fun e w'=>e = .returned (.int .i64 (signZ (p*s - r*q)))∧Ext w w':=by
 obtain ⟨a,c,ha,hra⟩:=h
 obtain ⟨b,d,hb,hrb⟩:=hb
 refine (ratCmp_any na nb A B C D k m j l a b c d w ha hb).mono ?_
 rintro e w' ⟨rfl,hx⟩
 exact ⟨by rw [rep_cmp hra hrb],hx⟩
theorem rep_floor {n p:Int} {l q:Nat} (h:Rep n l p q):n / ((l:Int)+1)=p / q:=by
 have hq:(0:Int) < q:=by have:=h.1;omega
 have hl:(0:Int) < (l:Int)+1:=by omega
 have e1:n*(q:Int) / (((l:Int)+1)*q)=n / ((l:Int)+1):=Int.mul_ediv_mul_of_pos_left _ _ hq
 have e2:p*((l:Int)+1) / ((q:Int)*((l:Int)+1))=p / q:=Int.mul_ediv_mul_of_pos_left _ _ hl
 rw [← e1,← e2,h.2.1,Int.mul_comm (q:Int)]
theorem floorV (na:Bool) (A B:Option Addr) (k m:Nat) (p:Int) (q:Nat) (w:World) (h:IsQ w na A k B m p q) :
  Calls Tryz.prog 106 #[.agg #[.bool na,.slice A k k,.slice B m m]] w fun e w'=>∃ n A' k',e = .returned (.agg #[.bool n,.slice A' k' k'])∧IsInt w' n A' k' (p / q)∧Ext w w':=by
 obtain ⟨a,c,ha,hra⟩:=h
 refine (zCP na A B k m a c w ha).mono ?_
 rintro e w' ⟨n,A',k',rfl,hi,hx⟩
 exact ⟨n,A',k',rfl,by rw [← rep_floor hra];exact hi,hx⟩
def nearF (p:Int) (q:Nat):Int:=if 2*(p % q) < q then p / q else p / q+1
theorem rep_round {n p:Int} {l q:Nat} (h:Rep n l p q) (hs:(p / q+1).natAbs < 2 ^ 4096):roundQ n l=nearF p q:=by
 have hq:(0:Int) < q:=by have:=h.1;omega
 have hl:(0:Int) < (l:Int)+1:=by omega
 have ef:=rep_floor h
 have h1:=Int.mul_ediv_add_emod n ((l:Int)+1)
 have h2:=Int.mul_ediv_add_emod p (q:Int)
 have h3:=Int.emod_nonneg n (show (l:Int)+1≠0 by omega)
 have er:(restQ n l:Int)=n % ((l:Int)+1):=by unfold restQ;rw [Int.toNat_of_nonneg h3]
 have hrl:=zBP n l
 have key:(n % ((l:Int)+1))*q=(p % q)*((l:Int)+1):=by
  have e1:=h.2.1
  have:n % ((l:Int)+1)=n - ((l:Int)+1)*(p / q):=by rw [← ef];omega
  have h4:p % (q:Int)=p - q*(p / q):=by omega
  rw [this,h4,Int.sub_mul,Int.sub_mul,e1];grind
 unfold roundQ nearF
 rw [show floorQ n l=p / q from ef]
 have hiff:(restQ n l < l+1 - restQ n l)↔2*(p % q) < q:=by
  have hnat:(restQ n l < l+1 - restQ n l)↔2*(restQ n l:Int) < (l:Int)+1:=by omega
  rw [hnat,er]
  constructor
  ·intro hh
   have g1:=Int.mul_lt_mul_of_pos_right hh hq
   have g2:2*(n % ((l:Int)+1))*q=(2*(p % q))*((l:Int)+1):=by grind
   rw [g2,Int.mul_comm ((l:Int)+1)] at g1
   exact Int.lt_of_mul_lt_mul_right g1 (Int.le_of_lt hl)
  ·intro hh
   have g1:=Int.mul_lt_mul_of_pos_right hh hl
   have g2:2*(n % ((l:Int)+1))*q=(2*(p % q))*((l:Int)+1):=by grind
   rw [← g2,Int.mul_comm (q:Int)] at g1
   exact Int.lt_of_mul_lt_mul_right g1 (Int.le_of_lt hq)
 by_cases hh:2*(p % (q:Int)) < q
 ·rw [if_pos (hiff.2 hh),if_pos hh]
 ·rw [if_neg (fun x=>hh (hiff.1 x)),if_neg hh]
  unfold fitZ;rw [if_pos (zBb hs)]
theorem roundV (na:Bool) (A B:Option Addr) (k m:Nat) (p:Int) (q:Nat) (w:World) (h:IsQ w na A k B m p q) (hs:(p / q+1).natAbs < 2 ^ 4096) :
  Calls Tryz.prog 109 #[.agg #[.bool na,.slice A k k,.slice B m m]] w fun e w'=>∃ n A' k',e = .returned (.agg #[.bool n,.slice A' k' k'])∧IsInt w' n A' k' (nearF p q)∧Ext w w':=by
 obtain ⟨a,c,ha,hra⟩:=h
 refine (round_any na A B k m a c w ha).mono ?_
 rintro e w' ⟨n,A',k',rfl,hi,hx⟩
 exact ⟨n,A',k',rfl,by rw [← rep_round hra hs];exact hi,hx⟩
end Go.Proofs.YtdkgilioejdmeaaGreat
namespace Go.Proofs.YtdkgilioejdmeaaGreat
open Go.RowKit
def barNew (r:Nat) (last:Int) (m:Nat→Nat→Int) (i k:Nat):Int:=exactZ (fitZ (fitZ (m r r*m i k) - fitZ (m i r*m r k))) last
def barStep (n r:Nat) (last:Int) (m:Nat→Nat→Int):Nat→Nat→Int:=fun i k=>if r < i∧i < n∧r < k∧k < n then barNew r last m i k else m i k
def barPos (n:Nat):Nat→Nat→Int→(Nat→Nat→Int)→Bool
 | 0,_,_,_=>true
 | fuel+1,r,last,m=>if m r r≤0 then false else barPos n fuel (r+1) (m r r) (barStep n r last m)
def posB (n:Nat) (m:Nat→Nat→Int):Bool:=barPos n n 0 1 m
def rowsTo (n r i:Nat) (last:Int) (m:Nat→Nat→Int):Nat→Nat→Int:=fun a b=>if r < a∧a < i∧r < b∧b < n then barNew r last m a b else m a b
def colsTo (n r i k:Nat) (last:Int) (m:Nat→Nat→Int):Nat→Nat→Int:=fun a b=>if a=i∧r < b∧b < k then barNew r last m a b else rowsTo n r i last m a b
theorem MatZ.ext {w w':World} {lo g n:Nat} {h:Nat→Nat} {m:Nat→Nat→Int} (M:MatZ w lo g n h m) (hx:Ext w w'):MatZ w' lo g n h m :=
 ⟨fun i hi=>hx.cell (M.rows i hi),fun i hi=>(M.row i hi).ext hx,M.inj,M.low,M.glow,M.typ.of_eq (Below.block hx g M.typ.lt)⟩
theorem MatZ.congr {w:World} {lo g n:Nat} {h:Nat→Nat} {m m':Nat→Nat→Int} (M:MatZ w lo g n h m) (e:∀ i j,i < n→j < n→m i j=m' i j):MatZ w lo g n h m' :=
 ⟨M.rows,fun i hi=>(M.row i hi).congr fun j hj=>e i j hi hj,M.inj,M.low,M.glow,M.typ⟩
theorem MatZ.ne {w:World} {lo g n:Nat} {h:Nat→Nat} {m:Nat→Nat→Int} (M:MatZ w lo g n h m) {i:Nat} (hi:i < n):h i≠g:=(M.row i hi).typ.ne M.typ (by decide)
theorem MatZ.set_ {w:World} {lo g n:Nat} {h:Nat→Nat} {m:Nat→Nat→Int} (M:MatZ w lo g n h m) {i j:Nat} (hi:i < n) (hj:j < n) {neg:Bool} {A:Option Addr} {k:Nat} {z:Int} (hz:IsInt w neg A k z) :
  MatZ (setInt w (h i) (j*2) neg A k) lo g n h (fun a b=>if a=i∧b=j then z else m a b):=by
 obtain ⟨neg0,A0,k0,g1,g2,_⟩:=(M.row i hi).cells j hj
 refine ⟨fun a ha=>?_,fun a ha=>?_,M.inj,M.low,M.glow,zBG M.typ⟩
 ·rw [zAb (fun e=>absurd e.symm (M.ne hi))];exact M.rows a ha
 ·by_cases e:a=i
  ·subst e
   exact ((M.row a ha).set_ hj hz).congr fun b hb=>by by_cases e:b=j <;> simp [e]
  ·exact ((M.row a ha).far (b:=h i) (o:=j*2) (fun e'=>e (M.inj _ _ ha hi e'.symm)) g1 g2).congr fun b hb=>by simp [e]
theorem rowsTo_start (n r:Nat) (last:Int) (m:Nat→Nat→Int):rowsTo n r (r+1) last m=m:=by
 funext a b;unfold rowsTo;rw [if_neg om]
theorem rowsTo_end (n r:Nat) (last:Int) (m:Nat→Nat→Int):rowsTo n r n last m=barStep n r last m:=by
 funext a b;unfold rowsTo barStep;rfl
theorem colsTo_start (n r i:Nat) (last:Int) (m:Nat→Nat→Int):colsTo n r i (r+1) last m=rowsTo n r i last m:=by
 funext a b;unfold colsTo;rw [if_neg om]
theorem colsTo_end (n r i:Nat) (last:Int) (m:Nat→Nat→Int) (hr:r < i) (a b:Nat) (hb:b < n):colsTo n r i n last m a b=rowsTo n r (i+1) last m a b:=by
 unfold colsTo rowsTo
 by_cases e:a=i
 ·subst e
  by_cases h:r < b
  ·rw [if_pos ⟨rfl,h,hb⟩,if_pos ⟨hr,by omega,h,hb⟩]
  ·rw [if_neg om,if_neg om,if_neg om]
 ·rw [if_neg om]
  by_cases h:r < a∧a < i∧r < b∧b < n
  ·rw [if_pos h,if_pos om]
  ·rw [if_neg h,if_neg om]
theorem colsTo_step (n r i k:Nat) (last:Int) (m:Nat→Nat→Int) (hk:r < k) (a b:Nat):(if a=i∧b=k then barNew r last m i k else colsTo n r i k last m a b)=colsTo n r i (k+1) last m a b:=by
 unfold colsTo
 by_cases h:a=i∧b=k
 ·rw [if_pos h,if_pos om];rw [h.1,h.2]
 ·rw [if_neg h]
  by_cases h2:a=i∧r < b∧b < k
  ·rw [if_pos h2,if_pos om]
  ·rw [if_neg h2,if_neg om]
theorem colsTo_reads (n r i k:Nat) (last:Int) (m:Nat→Nat→Int) (hr:r < i) (hk:r < k):colsTo n r i k last m r r=m r r∧colsTo n r i k last m i k=m i k∧colsTo n r i k last m i r=m i r∧colsTo n r i k last m r k=m r k:=by
 unfold colsTo rowsTo
 refine ⟨?_,?_,?_,?_⟩ <;> rw [if_neg om,if_neg om]
structure PosInv (w0 wr:World) (lo n r g bl:Nat) (h:Nat→Nat) (last:Int) (m:Nat→Nat→Int) (R:Bool):Prop where
 mat:MatZ wr lo g n h m
 box:MRow wr bl 1 (fun _=>last)
 ne:∀ i,i < n→h i≠bl
 low:w0.heap.size≤bl
 ext:Ext w0 wr
 pos:barPos n (n - r) r last m=R
theorem newbox {w w4:World} (hx:Ext (w.alloc (.cells #[.bool false,.slice none 0 0] 49)).drew w4):w4.cell? ⟨w.heap.size,0,none⟩=some (.bool false)∧w4.cell? ⟨w.heap.size,1,none⟩=some (.slice none 0 0) ∧
  w4.frozen? ⟨w.heap.size,0,none⟩=false∧w4.frozen? ⟨w.heap.size,1,none⟩=false∧Hid (TB w4 49 w.heap.size∧∀ o,w4.frozen? ⟨w.heap.size,o,none⟩=false):=by
 have hh:(w.alloc (.cells #[.bool false,.slice none 0 0] 49)).drew.heap[w.heap.size]? = some (.cells #[.bool false,.slice none 0 0] 49):=zA7 _ _
 have h0:w.heap.size < (w.alloc (.cells #[.bool false,.slice none 0 0] 49)).drew.heap.size:=by simp [World.drew]
 have e:=Below.block hx w.heap.size h0
 have hh4:=e.trans hh
 refine ⟨by rw [cell_of_row _ _ _ _ _ _ hh4];rfl,by rw [cell_of_row _ _ _ _ _ _ hh4];rfl,by simp only [World.frozen?,hh4];rfl,by simp only [World.frozen?,hh4];rfl,⟨⟨_,_,hh4⟩,fun o=>by simp only [World.frozen?,hh4];rfl⟩⟩
theorem MRow.new1 {w:World} {nx:Bool} {Ax:Option Addr} {kx:Nat} {z:Int} (hi:IsInt w nx Ax kx z):MRow (w.alloc (.cells #[.bool nx,.slice Ax kx kx] 49)) w.heap.size 1 (fun _=>z):=by
 have hh:=zA7 w (.cells #[.bool nx,.slice Ax kx kx] 49)
 refine ⟨fun j hj=>?_,fun o=>by simp only [World.frozen?,hh];rfl,⟨_,_,hh⟩⟩
 obtain rfl:j=0:=by omega
 exact ⟨nx,Ax,kx,by rw [cell_of_row _ _ _ _ _ _ hh];rfl,by rw [cell_of_row _ _ _ _ _ _ hh];rfl,hi.ext ((Ext.refl w).alloc _)⟩
theorem MRow.put1 {w:World} {b:Nat} {nx n0:Bool} {Ax A0:Option Addr} {kx k0 m0:Nat} {z:Int} (hi:IsInt w nx Ax kx z) (d1:w.cell? ⟨b,0,none⟩=some (.bool n0)) (d2:w.cell? ⟨b,1,none⟩=some (.slice A0 k0 m0)) (d5:Hid (TB w 49 b∧∀ o,w.frozen? ⟨b,o,none⟩=false)) :
  MRow ((w.setCell ⟨b,0,none⟩ (.bool nx)).setCell ⟨b,1,none⟩ (.slice Ax kx kx)) b 1 (fun _=>z):=by
 have hs:=zDI (neg:=nx) (A:=Ax) (k:=kx) d1 d2
 refine ⟨fun j hj=>?_,fun o=>?_,(d5.out.1.set_ _ _).set_ _ _⟩
 ·obtain rfl:j=0:=by omega
  exact ⟨nx,Ax,kx,hs.1,hs.2,zBA d1 d2 hi⟩
 ·rw [World.frozen?_setCell,World.frozen?_setCell];exact d5.out.2 o
theorem MRow.one {w:World} {b:Nat} {z:Int} (h:MRow w b 1 (fun _=>z)):∃ neg A k,w.cell? ⟨b,0,none⟩=some (.bool neg)∧w.cell? ⟨b,1,none⟩=some (.slice A k k)∧IsInt w neg A k z:=h.cells 0 om
set_option maxHeartbeats 400000 in
theorem zBD (na:Bool) (A:Option Addr) (k:Nat) (z c:Int) (w:World) (h:IsInt w na A k z) :
  Calls Tryz.prog 249 #[.agg #[.bool na,.slice A k k],.int .i64 c] w fun e w'=>e = .returned (.agg #[.bool na,.slice A k k])∧IsInt w' na A k z∧Ext w w':=by
 have HI:=zH h
 clear h
 go_enter Tryz.func249,Tryz.ntmps249
 go_wp2
 exact bodyPost_ret (v:=.agg #[.bool na,.slice A k k]) (by simp [results,Tryz.results249,go_sem]) rfl ⟨rfl,HI.out.ext (((Ext.refl w).alloc _).alloc _),((Ext.refl w).alloc _).alloc _⟩
set_option maxHeartbeats 8000000 in
theorem zAV (na nb:Bool) (A B:Option Addr) (k m:Nat) (a b:Int) (w:World) (h:IsInt w na A k a) (hb:IsInt w nb B m b) :
  Calls Tryz.prog 248 #[.agg #[.bool na,.slice A k k],.agg #[.bool nb,.slice B m m]] w fun e w'=>∃ n A' k',e = .returned (.agg #[.bool n,.slice A' k' k'])∧IsInt w' n A' k' (fitZ (a*b))∧Ext w w':=by
 obtain ⟨W0,HWW0,hXW0,hsW0,c0a,f0a,c0b,f0b,c1a,f1a,c1b,f1b,c2a,f2a,c2b,f2b⟩:=bx222 w 49 49 49 (.bool na) (.slice A k k) (.bool nb) (.slice B m m) (.bool false) (.slice none 0 0)
 have HX:=zH hXW0
 have HI0:=zH (h.ext hXW0)
 have HI1:=zH (hb.ext hXW0)
 have HM:=zH (fun W (hx:Ext W0 W)=>zCW na nb A B k m a b W (HI0.out.ext hx) (HI1.out.ext hx))
 obtain ⟨z,hz⟩:∃ z,fitZ (a*b)=z:=⟨_,rfl⟩
 obtain ⟨cz,hcz⟩:∃ cz,codeZ (a*b)=cz:=⟨_,rfl⟩
 rw [hz,hcz] at HM
 rw [hz]
 clear hz hcz
 clear h hb hXW0
 go_enter Tryz.func248,Tryz.ntmps248
 go_wp2_with fail
 rw [HWW0.out]
 clear HWW0
 go_wp2_with (first
  | (go_at_call 66;refine (HM.out _ Ext.ua).mono ?_;rintro e w1 ⟨n1,A1,e1,rfl,hn1,hx⟩;have hxN:Ext W0 w1:=Ext.trans Ext.ua hx;have hxA:=hxN;clear hxN;have HN1:=zH hn1;clear hn1;  have tc2a:=hxA.cell c2a;have uc2a:=hxA.free f2a (zAA c2a);have tc2b:=hxA.cell c2b;have uc2b:=hxA.free f2b (zAA c2b);clear hx)
  | (go_at_call 249;refine (zBD n1 A1 e1 z cz _ (HN1.out.ext Ext.ub)).mono ?_;rintro e w2 ⟨rfl,hn2,hx⟩;have hxN:Ext W0 w2:=Ext.trans Ext.ua hx;(try clear hxA);have hxA:=hxN;clear hxN;have HN2:=zH hn2;clear hn2;(first|(have hh:=zH (HN1.out.ext (Ext.trans Ext.ub hx));clear HN1;have HN1:=hh;clear hh));  (try clear tc2a uc2a);have tc2a:=hxA.cell c2a;have uc2a:=hxA.free f2a (zAA c2a);(try clear tc2b uc2b);have tc2b:=hxA.cell c2b;have uc2b:=hxA.free f2b (zAA c2b);clear hx))
 exact bodyPost_ret (v:=.agg #[.bool n1,.slice A1 e1 e1]) (by simp [results,Tryz.results248,go_sem,tc2a,tc2b]) rfl ⟨n1,A1,e1,rfl,(HN2.out.setBool tc2a _).setBox (zBJ tc2b (by decide)) _,by have hh:=HX.out.trans hxA;exact (by repeat (first|exact hh|refine Ext.setCell ?_ (by first|(simp only [];omega)) _))⟩
set_option maxHeartbeats 8000000 in
theorem zA1 (na nb:Bool) (A B:Option Addr) (k m:Nat) (a b:Int) (w:World) (h:IsInt w na A k a) (hb:IsInt w nb B m b) :
  Calls Tryz.prog 250 #[.agg #[.bool na,.slice A k k],.agg #[.bool nb,.slice B m m]] w fun e w'=>∃ n A' k',e = .returned (.agg #[.bool n,.slice A' k' k'])∧IsInt w' n A' k' (fitZ (a - b))∧Ext w w':=by
 obtain ⟨W0,HWW0,hXW0,hsW0,c0a,f0a,c0b,f0b,c1a,f1a,c1b,f1b,c2a,f2a,c2b,f2b⟩:=bx222 w 49 49 49 (.bool na) (.slice A k k) (.bool nb) (.slice B m m) (.bool false) (.slice none 0 0)
 have HX:=zH hXW0
 have HI0:=zH (h.ext hXW0)
 have HI1:=zH (hb.ext hXW0)
 have HM:=zH (fun W (hx:Ext W0 W)=>zSub_any na nb A B k m a b W (HI0.out.ext hx) (HI1.out.ext hx))
 obtain ⟨z,hz⟩:∃ z,fitZ (a - b)=z:=⟨_,rfl⟩
 obtain ⟨cz,hcz⟩:∃ cz,codeZ (a - b)=cz:=⟨_,rfl⟩
 rw [hz,hcz] at HM
 rw [hz]
 clear hz hcz
 clear h hb hXW0
 go_enter Tryz.func250,Tryz.ntmps250
 go_wp2_with fail
 rw [HWW0.out]
 clear HWW0
 go_wp2_with (first
  | (go_at_call 129;refine (HM.out _ Ext.ua).mono ?_;rintro e w1 ⟨n1,A1,e1,rfl,hn1,hx⟩;have hxN:Ext W0 w1:=Ext.trans Ext.ua hx;have hxA:=hxN;clear hxN;have HN1:=zH hn1;clear hn1;  have tc2a:=hxA.cell c2a;have uc2a:=hxA.free f2a (zAA c2a);have tc2b:=hxA.cell c2b;have uc2b:=hxA.free f2b (zAA c2b);clear hx)
  | (go_at_call 249;refine (zBD n1 A1 e1 z cz _ (HN1.out.ext Ext.ub)).mono ?_;rintro e w2 ⟨rfl,hn2,hx⟩;have hxN:Ext W0 w2:=Ext.trans Ext.ua hx;(try clear hxA);have hxA:=hxN;clear hxN;have HN2:=zH hn2;clear hn2;(first|(have hh:=zH (HN1.out.ext (Ext.trans Ext.ub hx));clear HN1;have HN1:=hh;clear hh));  (try clear tc2a uc2a);have tc2a:=hxA.cell c2a;have uc2a:=hxA.free f2a (zAA c2a);(try clear tc2b uc2b);have tc2b:=hxA.cell c2b;have uc2b:=hxA.free f2b (zAA c2b);clear hx))
 exact bodyPost_ret (v:=.agg #[.bool n1,.slice A1 e1 e1]) (by simp [results,Tryz.results250,go_sem,tc2a,tc2b]) rfl ⟨n1,A1,e1,rfl,(HN2.out.setBool tc2a _).setBox (zBJ tc2b (by decide)) _,by have hh:=HX.out.trans hxA;exact (by repeat (first|exact hh|refine Ext.setCell ?_ (by first|(simp only [];omega)) _))⟩
structure ZRows (w:World) (lo:Nat) (T:Nat→Prop) (bl ln:Nat→Nat) (ct:Nat→Nat→Int):Prop where
 row:∀ s,T s→MRow w (bl s) (ln s) (ct s)
 inj:∀ s t,T s→T t→bl s=bl t→s=t
 low:∀ s,T s→lo≤bl s
theorem ZRows.ext {w w':World} {lo:Nat} {T:Nat→Prop} {bl ln:Nat→Nat} {ct:Nat→Nat→Int} (r:ZRows w lo T bl ln ct) (hx:Ext w w'):ZRows w' lo T bl ln ct:=⟨fun s hs=>(r.row s hs).ext hx,r.inj,r.low⟩
theorem ZRows.set_ {w:World} {lo:Nat} {T:Nat→Prop} {bl ln:Nat→Nat} {ct:Nat→Nat→Int} (r:ZRows w lo T bl ln ct) {s j:Nat} (hs:T s) (hj:j < ln s) {neg:Bool} {A:Option Addr} {k:Nat} {z:Int} (hz:IsInt w neg A k z) :
  ZRows (setInt w (bl s) (j*2) neg A k) lo T bl ln (fun s' j'=>if s'=s∧j'=j then z else ct s' j'):=by
 refine ⟨fun s' hs'=>?_,r.inj,r.low⟩
 by_cases e:s'=s
 ·subst e
  refine ((r.row s' hs').set_ hj hz).congr fun i hi=>?_
  by_cases e2:i=j
  ·rw [if_pos e2,if_pos ⟨rfl,e2⟩]
  ·rw [if_neg e2,if_neg (fun h=>e2 h.2)]
 ·obtain ⟨neg0,A0,k0,g1,g2,_⟩:=(r.row s hs).cells j hj
  refine ((r.row s' hs').far (fun h=>e (r.inj s' s hs' hs h.symm)) g1 g2).congr fun i hi=>?_
  rw [if_neg (fun h=>e h.1)]
def latT (n f:Nat) (s:Nat):Prop:=s < 2*n+1∨(2*n+1≤s∧s < 2*n+1+f)
def latLn (n:Nat) (s:Nat):Nat:=if s < 2*n then n else if s=2*n then n+1 else s - (2*n+1)
structure IsLat (w:World) (lo p n f:Nat) (gA gU gL cA cU:Nat) (bl:Nat→Nat) (ct:Nat→Nat→Int):Prop where
 box:Blk w p 239 #[.slice (some ⟨gA,0,none⟩) n cA,.slice (some ⟨gU,0,none⟩) n cU,.slice (some ⟨bl (2*n),0,none⟩) (n+1) (n+1),.slice (some ⟨gL,0,none⟩) n n]
 rows:ZRows w lo (latT n f) bl (latLn n) ct
 tA:TB w 41 gA
 tU:TB w 41 gU
 tL:TB w 41 gL
 neAU:gA≠gU
 neAL:gA≠gL
 neUL:gU≠gL
 cellA:∀ i,i < n→w.cell? ⟨gA,i,none⟩=some (.slice (some ⟨bl i,0,none⟩) n n)
 cellU:∀ i,i < n→w.cell? ⟨gU,i,none⟩=some (.slice (some ⟨bl (n+i),0,none⟩) n n)
 cellL:∀ i,i < f→w.cell? ⟨gL,i,none⟩=some (.slice (some ⟨bl (2*n+1+i),0,none⟩) i i)
 restL:∀ i,f≤i→i < n→∃ a k c,w.cell? ⟨gL,i,none⟩=some (.slice a k c)
 freeA:∀ i,w.frozen? ⟨gA,i,none⟩=false
 freeU:∀ i,w.frozen? ⟨gU,i,none⟩=false
 freeL:∀ i,w.frozen? ⟨gL,i,none⟩=false
 lowp:lo≤p
 lowA:lo≤gA
 lowU:lo≤gU
 lowL:lo≤gL
theorem IsLat.ext {w w':World} {lo p n f gA gU gL cA cU:Nat} {bl:Nat→Nat} {ct:Nat→Nat→Int} (h:IsLat w lo p n f gA gU gL cA cU bl ct) (hx:Ext w w'):IsLat w' lo p n f gA gU gL cA cU bl ct :=
 ⟨h.box.ext hx,h.rows.ext hx,h.tA.of_eq (hx.block _ h.tA.lt),h.tU.of_eq (hx.block _ h.tU.lt),h.tL.of_eq (hx.block _ h.tL.lt),h.neAU,h.neAL,h.neUL,
 fun i hi=>hx.cell (h.cellA i hi),fun i hi=>hx.cell (h.cellU i hi),fun i hi=>hx.cell (h.cellL i hi),fun i h1 h2=>by obtain ⟨a,k,c,e⟩:=h.restL i h1 h2;exact ⟨a,k,c,hx.cell e⟩,
 fun i=>hx.free (h.freeA i) h.tA.lt,fun i=>hx.free (h.freeU i) h.tU.lt,fun i=>hx.free (h.freeL i) h.tL.lt,h.lowp,h.lowA,h.lowU,h.lowL⟩
def sw (a b s:Nat):Nat:=if s=a then b else if s=b then a else s
theorem sw_sw (a b s:Nat):sw a b (sw a b s)=s:=by
 unfold sw
 by_cases h1:s=a
 ·rw [if_pos h1]
  by_cases h2:b=a
  ·rw [if_pos h2];omega
  ·rw [if_neg h2,if_pos rfl];exact h1.symm
 ·rw [if_neg h1]
  by_cases h2:s=b
  ·rw [if_pos h2,if_pos rfl];exact h2.symm
  ·rw [if_neg h2,if_neg h1,if_neg h2]
theorem ZRows.swap {w:World} {lo:Nat} {T:Nat→Prop} {bl ln:Nat→Nat} {ct:Nat→Nat→Int} (r:ZRows w lo T bl ln ct) {a b:Nat} (ha:T a) (hb:T b) (hl:ln a=ln b):ZRows w lo T (fun s=>bl (sw a b s)) ln (fun s=>ct (sw a b s)):=by
 have hT:∀ s,T s→T (sw a b s):=by
  intro s hs
  unfold sw
  split
  ·exact hb
  ·split
   ·exact ha
   ·exact hs
 have hL:∀ s,ln (sw a b s)=ln s:=by
  intro s
  unfold sw
  split
  ·rename_i e;rw [e,hl]
  ·split
   ·rename_i e;rw [e,hl]
   ·rfl
 refine ⟨fun s hs=>by have:=r.row _ (hT s hs);rw [hL s] at this;exact this,fun s t hs ht e=>?_,fun s hs=>r.low _ (hT s hs)⟩
 have:=r.inj _ _ (hT s hs) (hT t ht) e
 have h2:=congrArg (sw a b) this
 rwa [sw_sw,sw_sw] at h2
theorem ZRows.setB {w:World} {lo:Nat} {T:Nat→Prop} {bl ln:Nat→Nat} {ct:Nat→Nat→Int} (r:ZRows w lo T bl ln ct) {g i:Nat} {v:Value} {t:TypeId} (hg:TB w t g) (ht:t≠49) (ht2:t≠133):ZRows (w.setCell ⟨g,i,none⟩ v) lo T bl ln ct:=by
 refine ⟨fun s hs=>(r.row s hs).typed (heap_setCell_other w ⟨g,i,none⟩ _ v ((r.row s hs).typ.ne hg (Ne.symm ht))) fun b hb=>heap_setCell_other w ⟨g,i,none⟩ b v (hb.ne hg (Ne.symm ht2)),r.inj,r.low⟩
theorem zAJ {w:World} {b c i j:Nat} {v:Value} (hne:b≠c):(w.setCell ⟨c,j,none⟩ v).cell? ⟨b,i,none⟩=w.cell? ⟨b,i,none⟩:=World.cell?_setCell_other _ _ _ _ (by intro e;injection e with e1 e2;exact hne e1.symm)
theorem zAU {w:World} {b c i j:Nat} {v:Value} (hne:i≠j):(w.setCell ⟨c,j,none⟩ v).cell? ⟨b,i,none⟩=w.cell? ⟨b,i,none⟩:=World.cell?_setCell_other _ _ _ _ (by intro e;injection e with e1 e2;exact hne e2.symm)
theorem IsLat.swapU {w:World} {lo p n f gA gU gL cA cU:Nat} {bl:Nat→Nat} {ct:Nat→Nat→Int} (h:IsLat w lo p n f gA gU gL cA cU bl ct) {k:Nat} (hk:k < n) (hk1:1≤k) :
  IsLat ((w.setCell ⟨gU,k,none⟩ (.slice (some ⟨bl (n+(k - 1)),0,none⟩) n n)).setCell ⟨gU,k - 1,none⟩ (.slice (some ⟨bl (n+k),0,none⟩) n n)) lo p n f gA gU gL cA cU (fun s=>bl (sw (n+k) (n+(k - 1)) s)) (fun s=>ct (sw (n+k) (n+(k - 1)) s)):=by
 have hpU:p≠gU:=h.box.typ.ne h.tU (by decide)
 have hne:k - 1≠k:=by omega
 have hD:sw (n+k) (n+(k - 1)) (2*n)=2*n:=by unfold sw;rw [if_neg om,if_neg om]
 have hA:∀ i,i < n→sw (n+k) (n+(k - 1)) i=i:=fun i hi=>by unfold sw;rw [if_neg om,if_neg om]
 have hL:∀ i,sw (n+k) (n+(k - 1)) (2*n+1+i)=2*n+1+i:=fun i=>by unfold sw;rw [if_neg om,if_neg om]
 have hU:∀ i,i < n→i≠k→i≠k - 1→sw (n+k) (n+(k - 1)) (n+i)=n+i:=fun i hi h1 h2=>by unfold sw;rw [if_neg om,if_neg om]
 have hTB:TB (w.setCell ⟨gU,k,none⟩ (.slice (some ⟨bl (n+(k - 1)),0,none⟩) n n)) 41 gU:=h.tU.set_ _ _
 have ck:=h.cellU k hk
 have ck1:=h.cellU (k - 1) om
 refine ⟨?_,?_,(h.tA.set_ _ _).set_ _ _,(h.tU.set_ _ _).set_ _ _,(h.tL.set_ _ _).set_ _ _,h.neAU,h.neAL,h.neUL,fun i hi=>?_,fun i hi=>?_,fun i hi=>?_,fun i h1 h2=>?_,fun i=>?_,fun i=>?_,fun i=>?_,h.lowp,h.lowA,h.lowU,h.lowL⟩
 ·simp only [hD];exact (h.box.far hpU _ _).far hpU _ _
 ·exact ((h.rows.setB h.tU (by decide) (by decide)).setB hTB (by decide) (by decide)).swap (Or.inl om) (Or.inl om) (by unfold latLn;rw [if_pos om,if_pos om])
 ·rw [zAJ h.neAU,zAJ h.neAU,hA i hi];exact h.cellA i hi
 ·by_cases e1:i=k - 1
  ·subst e1
   refine (setc (u:=.slice (some ⟨bl (n+(k - 1)),0,none⟩) n n) (by rw [zAU hne];exact ck1)).trans ?_
   unfold sw;rw [if_neg om,if_pos rfl]
  ·rw [zAU e1]
   by_cases e2:i=k
   ·subst e2
    refine (setc ck).trans ?_
    unfold sw;rw [if_pos rfl]
   ·rw [zAU e2,hU i hi e2 e1];exact h.cellU i hi
 ·rw [zAJ (Ne.symm h.neUL),zAJ (Ne.symm h.neUL),hL i];exact h.cellL i hi
 ·obtain ⟨a,k',c,e⟩:=h.restL i h1 h2
  exact ⟨a,k',c,by rw [zAJ (Ne.symm h.neUL),zAJ (Ne.symm h.neUL)];exact e⟩
 ·rw [World.frozen?_setCell,World.frozen?_setCell];exact h.freeA i
 ·rw [World.frozen?_setCell,World.frozen?_setCell];exact h.freeU i
 ·rw [World.frozen?_setCell,World.frozen?_setCell];exact h.freeL i
theorem IsLat.swapA {w:World} {lo p n f gA gU gL cA cU:Nat} {bl:Nat→Nat} {ct:Nat→Nat→Int} (h:IsLat w lo p n f gA gU gL cA cU bl ct) {k:Nat} (hk:k < n) (hk1:1≤k) :
  IsLat ((w.setCell ⟨gA,k,none⟩ (.slice (some ⟨bl (k - 1),0,none⟩) n n)).setCell ⟨gA,k - 1,none⟩ (.slice (some ⟨bl k,0,none⟩) n n)) lo p n f gA gU gL cA cU (fun s=>bl (sw k (k - 1) s)) (fun s=>ct (sw k (k - 1) s)):=by
 have hpA:p≠gA:=h.box.typ.ne h.tA (by decide)
 have hne:k - 1≠k:=by omega
 have hO:∀ i,n≤i→sw k (k - 1) i=i:=fun i hi=>by unfold sw;rw [if_neg om,if_neg om]
 have hA:∀ i,i≠k→i≠k - 1→sw k (k - 1) i=i:=fun i h1 h2=>by unfold sw;rw [if_neg h1,if_neg h2]
 have hTB:TB (w.setCell ⟨gA,k,none⟩ (.slice (some ⟨bl (k - 1),0,none⟩) n n)) 41 gA:=h.tA.set_ _ _
 have ck:=h.cellA k hk
 have ck1:=h.cellA (k - 1) om
 refine ⟨?_,?_,(h.tA.set_ _ _).set_ _ _,(h.tU.set_ _ _).set_ _ _,(h.tL.set_ _ _).set_ _ _,h.neAU,h.neAL,h.neUL,fun i hi=>?_,fun i hi=>?_,fun i hi=>?_,fun i h1 h2=>?_,fun i=>?_,fun i=>?_,fun i=>?_,h.lowp,h.lowA,h.lowU,h.lowL⟩
 ·simp only [hO (2*n) om];exact (h.box.far hpA _ _).far hpA _ _
 ·exact ((h.rows.setB h.tA (by decide) (by decide)).setB hTB (by decide) (by decide)).swap (Or.inl om) (Or.inl om) (by unfold latLn;rw [if_pos om,if_pos om])
 ·by_cases e1:i=k - 1
  ·subst e1
   refine (setc (u:=.slice (some ⟨bl (k - 1),0,none⟩) n n) (by rw [zAU hne];exact ck1)).trans ?_
   unfold sw;rw [if_neg hne,if_pos rfl]
  ·rw [zAU e1]
   by_cases e2:i=k
   ·subst e2
    refine (setc ck).trans ?_
    unfold sw;rw [if_pos rfl]
   ·rw [zAU e2,hA i e2 e1];exact h.cellA i hi
 ·rw [zAJ (Ne.symm h.neAU),zAJ (Ne.symm h.neAU),hO (n+i) om];exact h.cellU i hi
 ·rw [zAJ (Ne.symm h.neAL),zAJ (Ne.symm h.neAL),hO (2*n+1+i) om];exact h.cellL i hi
 ·obtain ⟨a,k',c,e⟩:=h.restL i h1 h2
  exact ⟨a,k',c,by rw [zAJ (Ne.symm h.neAL),zAJ (Ne.symm h.neAL)];exact e⟩
 ·rw [World.frozen?_setCell,World.frozen?_setCell];exact h.freeA i
 ·rw [World.frozen?_setCell,World.frozen?_setCell];exact h.freeU i
 ·rw [World.frozen?_setCell,World.frozen?_setCell];exact h.freeL i
theorem IsLat.set_ {w:World} {lo p n f gA gU gL cA cU:Nat} {bl:Nat→Nat} {ct:Nat→Nat→Int} (h:IsLat w lo p n f gA gU gL cA cU bl ct) {s j:Nat} (hs:latT n f s) (hj:j < latLn n s) {neg:Bool} {A:Option Addr} {k:Nat} {z:Int} (hz:IsInt w neg A k z) :
  IsLat (setInt w (bl s) (j*2) neg A k) lo p n f gA gU gL cA cU bl (fun s' j'=>if s'=s∧j'=j then z else ct s' j'):=by
 have hr:=(h.rows.row s hs).typ
 have hb:p≠bl s:=h.box.typ.ne hr (by decide)
 have hA:gA≠bl s:=h.tA.ne hr (by decide)
 have hU:gU≠bl s:=h.tU.ne hr (by decide)
 have hL:gL≠bl s:=h.tL.ne hr (by decide)
 refine ⟨(h.box.far hb _ _).far hb _ _,h.rows.set_ hs hj hz,zBG h.tA,zBG h.tU,zBG h.tL,h.neAU,h.neAL,h.neUL,fun i hi=>?_,fun i hi=>?_,fun i hi=>?_,fun i h1 h2=>?_,fun i=>?_,fun i=>?_,fun i=>?_,h.lowp,h.lowA,h.lowU,h.lowL⟩
 ·rw [zAb (fun e=>absurd e hA)];exact h.cellA i hi
 ·rw [zAb (fun e=>absurd e hU)];exact h.cellU i hi
 ·rw [zAb (fun e=>absurd e hL)];exact h.cellL i hi
 ·obtain ⟨a,k',c,e⟩:=h.restL i h1 h2
  exact ⟨a,k',c,by rw [zAb (fun e=>absurd e hL)];exact e⟩
 ·rw [zAz];exact h.freeA i
 ·rw [zAz];exact h.freeU i
 ·rw [zAz];exact h.freeL i
theorem IsRat.typed {w w':World} {neg:Bool} {A B:Option Addr} {k m:Nat} {num:Int} {less:Nat} (h:IsRat w neg A k B m num less) (hk:∀ b,TB w 133 b→w'.heap[b]? = w.heap[b]?):IsRat w' neg A k B m num less:=⟨h.num.typed hk,h.den.typed hk,h.bits⟩
theorem IsQ.typed {w w':World} {neg:Bool} {A B:Option Addr} {k m:Nat} {p:Int} {q:Nat} (h:IsQ w neg A k B m p q) (hk:∀ b,TB w 133 b→w'.heap[b]? = w.heap[b]?):IsQ w' neg A k B m p q:=by
 obtain ⟨n,l,h1,h2⟩:=h;exact ⟨n,l,h1.typed hk,h2⟩
theorem IsQ.setB {w:World} {neg:Bool} {A B:Option Addr} {k m:Nat} {p:Int} {q:Nat} (h:IsQ w neg A k B m p q) {c:Nat} {t:TypeId} (hc:TB w t c) (ht:t≠133) (i:Nat) (v:Value):IsQ (w.setCell ⟨c,i,none⟩ v) neg A k B m p q:=by
 obtain ⟨n,l,h1,h2⟩:=h;exact ⟨n,l,h1.setB hc ht i v,h2⟩
def setQ (w:World) (h o:Nat) (neg:Bool) (A:Option Addr) (k:Nat) (B:Option Addr) (m:Nat):World:=((w.setCell ⟨h,o,none⟩ (.bool neg)).setCell ⟨h,o+1,none⟩ (.slice A k k)).setCell ⟨h,o+2,none⟩ (.slice B m m)
theorem zBY {w:World} {h o:Nat} {neg:Bool} {A B:Option Addr} {k m b o':Nat} (hne:b=h→o'≠o∧o'≠o+1∧o'≠o+2):(setQ w h o neg A k B m).cell? ⟨b,o',none⟩=w.cell? ⟨b,o',none⟩:=by
 unfold setQ
 rw [World.cell?_setCell_other _ _ _ _ (by intro e;injection e with e1 e2;have:=hne e1.symm;omega),World.cell?_setCell_other _ _ _ _ (by intro e;injection e with e1 e2;have:=hne e1.symm;omega),World.cell?_setCell_other _ _ _ _ (by intro e;injection e with e1 e2;have:=hne e1.symm;omega)]
theorem setQ_frozen {w:World} {h o:Nat} {neg:Bool} {A B:Option Addr} {k m:Nat} {p:Addr}:(setQ w h o neg A k B m).frozen? p=w.frozen? p:=by
 unfold setQ;rw [World.frozen?_setCell,World.frozen?_setCell,World.frozen?_setCell]
theorem setQ_typ {w:World} {h o:Nat} {neg:Bool} {A B:Option Addr} {k m:Nat} {t:TypeId} {b:Nat} (ht:TB w t b):TB (setQ w h o neg A k B m) t b:=by
 unfold setQ;exact ((ht.set_ _ _).set_ _ _).set_ _ _
theorem zBg {a w:World} {h o:Nat} {neg:Bool} {A B:Option Addr} {k m:Nat} (hx:Ext a w) (hh:a.heap.size≤h):Ext a (setQ w h o neg A k B m):=by
 unfold setQ;exact ((hx.setCell (p:=⟨h,o,none⟩) hh _).setCell (p:=⟨h,o+1,none⟩) hh _).setCell (p:=⟨h,o+2,none⟩) hh _
theorem setQ_but (w:World) (g o:Nat) (neg:Bool) (A B:Option Addr) (k m:Nat):ExtBut (fun x=>x=g) w (setQ w g o neg A k B m):=by
 unfold setQ;exact (((ExtBut.refl (fun x=>x=g) w).setCell (p:=⟨g,o,none⟩) (Or.inl rfl) _).setCell (p:=⟨g,o+1,none⟩) (Or.inl rfl) _).setCell (p:=⟨g,o+2,none⟩) (Or.inl rfl) _
theorem IsQ.setQ {w:World} {neg:Bool} {A B:Option Addr} {k m:Nat} {p:Int} {q:Nat} (h:IsQ w neg A k B m p q) {c o:Nat} {t:TypeId} (hc:TB w t c) (ht:t≠133) {n2:Bool} {A2 B2:Option Addr} {k2 m2:Nat}:IsQ (Go.Proofs.YtdkgilioejdmeaaGreat.setQ w c o n2 A2 k2 B2 m2) neg A k B m p q:=by
 unfold Go.Proofs.YtdkgilioejdmeaaGreat.setQ;exact ((h.setB hc ht _ _).setB (hc.set_ _ _) ht _ _).setB ((hc.set_ _ _).set_ _ _) ht _ _
structure QRow (w:World) (h n:Nat) (P:Nat→Int) (Q:Nat→Nat):Prop where
 cells:∀ j,j < n→∃ neg A k B m,w.cell? ⟨h,j*3,none⟩=some (.bool neg)∧w.cell? ⟨h,j*3+1,none⟩=some (.slice A k k)∧w.cell? ⟨h,j*3+2,none⟩=some (.slice B m m)∧IsQ w neg A k B m (P j) (Q j)
 free:∀ o,w.frozen? ⟨h,o,none⟩=false
 typ:TB w 144 h
theorem QRow.lt {w:World} {h n:Nat} {P:Nat→Int} {Q:Nat→Nat} (r:QRow w h n P Q):h < w.heap.size:=r.typ.lt
theorem QRow.ext {w w':World} {h n:Nat} {P:Nat→Int} {Q:Nat→Nat} (r:QRow w h n P Q) (hb:Ext w w'):QRow w' h n P Q:=by
 refine ⟨fun j hj=>?_,fun o=>hb.free (r.free o) r.lt,r.typ.of_eq (hb.block h r.lt)⟩
 obtain ⟨neg,A,k,B,m,h1,h2,h3,h4⟩:=r.cells j hj
 exact ⟨neg,A,k,B,m,hb.cell h1,hb.cell h2,hb.cell h3,h4.ext hb⟩
theorem QRow.congr {w:World} {h n:Nat} {P P':Nat→Int} {Q Q':Nat→Nat} (r:QRow w h n P Q) (e:∀ j,j < n→P j=P' j∧Q j=Q' j):QRow w h n P' Q':=by
 refine ⟨fun j hj=>?_,r.free,r.typ⟩
 rw [← (e j hj).1,← (e j hj).2];exact r.cells j hj
theorem QRow.set_ {w:World} {h n:Nat} {P:Nat→Int} {Q:Nat→Nat} (r:QRow w h n P Q) {j:Nat} (hj:j < n) {neg:Bool} {A B:Option Addr} {k m:Nat} {p:Int} {q:Nat} (hz:IsQ w neg A k B m p q) :
  QRow (setQ w h (j*3) neg A k B m) h n (fun i=>if i=j then p else P i) (fun i=>if i=j then q else Q i):=by
 obtain ⟨n0,A0,k0,B0,m0,g1,g2,g3,_⟩:=r.cells j hj
 refine ⟨fun i hi=>?_,fun o=>by rw [setQ_frozen];exact r.free o,setQ_typ r.typ⟩
 by_cases e:i=j
 ·subst e
  rw [if_pos rfl,if_pos rfl]
  refine ⟨neg,A,k,B,m,?_,?_,?_,hz.setQ r.typ (by decide)⟩
  ·unfold setQ;rw [zAU om,zAU om];exact setc g1
  ·unfold setQ;rw [zAU om];exact setc (u:=.slice A0 k0 k0) (by rw [zAU om];exact g2)
  ·unfold setQ;exact setc (u:=.slice B0 m0 m0) (by rw [zAU om,zAU om];exact g3)
 ·rw [if_neg e,if_neg e]
  obtain ⟨n1,A1,k1,B1,m1,h1,h2,h3,h4⟩:=r.cells i hi
  exact ⟨n1,A1,k1,B1,m1,by rw [zBY (fun _=>by omega)];exact h1,by rw [zBY (fun _=>by omega)];exact h2,by rw [zBY (fun _=>by omega)];exact h3,h4.setQ r.typ (by decide)⟩
theorem QRow.typed {w w':World} {h n:Nat} {P:Nat→Int} {Q:Nat→Nat} (r:QRow w h n P Q) (e:w'.heap[h]? = w.heap[h]?) (hk:∀ b,TB w 133 b→w'.heap[b]? = w.heap[b]?):QRow w' h n P Q:=by
 refine ⟨fun j hj=>?_,fun o=>by rw [zBp e];exact r.free o,r.typ.of_eq e⟩
 obtain ⟨neg,A,k,B,m,h1,h2,h3,h4⟩:=r.cells j hj
 exact ⟨neg,A,k,B,m,by rw [zBB e];exact h1,by rw [zBB e];exact h2,by rw [zBB e];exact h3,h4.typed hk⟩
theorem QRow.but {w w':World} {h n g:Nat} {P:Nat→Int} {Q:Nat→Nat} {t:TypeId} (r:QRow w h n P Q) (hx:ExtBut (fun x=>x=g) w w') (hg:h≠g) (ht:TB w t g) (h32:t≠133):QRow w' h n P Q :=
 r.typed (hx.block h r.lt hg) fun b hb=>hx.block b hb.lt (hb.ne ht (Ne.symm h32))
theorem Tryz.infoQ:(Tryz.prog.info? 144).map (fun i=>(i.zero,i.size,i.bytes))=some (some (.agg #[.bool false,.slice none 0 0,.slice none 0 0]),3,56):=by kernel_rfl
theorem make_rats (m:Int) (n:Nat) (h:m=n) (hn:n≤100000) (w:World) :
  ∃ cs,(Instr.makeSlice 139 (.int .i64 m) (.int .i64 m)).run Tryz.prog w = .ok (.slice (some ⟨w.heap.size,0,none⟩) n n) (w.alloc (.cells cs 144))∧QRow (w.alloc (.cells cs 144)) w.heap.size n (fun _=>0) (fun _=>1):=by
 subst h
 obtain ⟨i0,hi,hz0,hz1,hz2⟩:=info_parts Tryz.infoQ
 have hr:=run_make (P:=Tryz.prog) w 139 144 i0 _ Tryz.underlying139 hi hz0 .i64 .i64 n n om om (by rw [hz2];omega) om
 simp only [Int.toNat_natCast] at hr
 have hcells:∀ o,o < n*3→(madeCells (Value.agg #[.bool false,.slice none 0 0,.slice none 0 0]).cells (n*i0.size))[o]? = some (if o % 3=0 then Value.bool false else .slice none 0 0):=by
  intro o ho
  rw [hz1]
  unfold madeCells
  rw [Array.getElem?_map,Array.getElem?_range,if_pos ho]
  have h3:o % 3=0∨o % 3=1∨o % 3=2:=by omega
  rcases h3 with e|e|e <;> simp [Value.cells,e]
 have hh:=fun cs=>zA7 w (.cells cs 144)
 refine ⟨_,hr,⟨fun j hj=>⟨false,none,0,none,0,?_,?_,?_,isQ_zero _⟩,fun o=>by simp only [World.frozen?,hh];rfl,⟨_,_,hh _⟩⟩⟩
 ·rw [cell_of_row _ _ _ _ _ _ (hh _),hcells (j*3) om,if_pos om]
 ·rw [cell_of_row _ _ _ _ _ _ (hh _),hcells (j*3+1) om,if_neg om]
 ·rw [cell_of_row _ _ _ _ _ _ (hh _),hcells (j*3+2) om,if_neg om]
structure MatQ (w:World) (lo g n:Nat) (h:Nat→Nat) (P:Nat→Nat→Int) (Q:Nat→Nat→Nat):Prop where
 rows:∀ i,i < n→w.cell? ⟨g,i,none⟩=some (.slice (some ⟨h i,0,none⟩) n n)
 row:∀ i,i < n→QRow w (h i) n (P i) (Q i)
 inj:∀ i j,i < n→j < n→h i=h j→i=j
 low:∀ i,i < n→lo≤h i
 glow:lo≤g
 typ:TB w 139 g
theorem Tryz.infoQs:(Tryz.prog.info? 139).map (fun i=>(i.zero,i.size,i.bytes))=some (some (.slice none 0 0),1,24):=by kernel_rfl
structure SqInvQ (w0 wr:World) (n i:Nat) (v:Value) (h:Nat→Nat) (P:Nat→Nat→Int) (Q:Nat→Nat→Nat):Prop where
 own:wr.ownsRow w0.heap.size 139 1 v i ((List.range i).map fun j=>Value.slice (some ⟨h j,0,none⟩) n n)
 row:∀ j,j < i→QRow wr (h j) n (P j) (Q j)
 inj:∀ j k,j < i→k < i→h j=h k→j=k
 low:∀ j,j < i→w0.heap.size≤h j
 ext:Ext w0 wr
theorem ldlEnt (bx:Nat) (n1:Bool) (A B:Option Addr) (k m:Nat) (i j:Nat) (w:World) (hb:Blk w bx 144 #[.bool n1,.slice A k k,.slice B m m]) (hq:IsQ w n1 A k B m 1 1) (hi:i < 1000) (hj:j < 1000) :
  Calls Tryz.prog 142 #[.int .i64 i,.int .i64 j,.pointer (some ⟨bx,0,none⟩)] w fun e w'=>∃ ng A k B m,e = .returned (.agg #[.bool ng,.slice A k k,.slice B m m])∧IsQ w' ng A k B m (if i=j then 1 else 0) 1∧Ext w w':=by
 obtain ⟨c1,f1,c2,f2,c3,f3⟩:=hb.three
 have l1:=hb.lt
 by_cases e:i=j
 ·subst e
  have key:Calls Tryz.prog 142 #[.int .i64 i,.int .i64 i,.pointer (some ⟨bx,0,none⟩)] w fun e w'=>e = .returned (.agg #[.bool n1,.slice A k k,.slice B m m])∧Ext w w':=by
   go_enter Tryz.func142,Tryz.ntmps142
   go_wp2
   exact bodyPost_ret (v:=.agg #[.bool n1,.slice A k k,.slice B m m]) (by simp [results,Tryz.results142,go_sem]) rfl ⟨rfl,(Ext.refl w).alloc _⟩
  exact key.mono fun e w' ⟨h1,h2⟩=>⟨n1,A,k,B,m,h1,by rw [if_pos rfl];exact hq.ext h2,h2⟩
 ·have e2:(i:Int)≠(j:Int):=by omega
  have key:Calls Tryz.prog 142 #[.int .i64 i,.int .i64 j,.pointer (some ⟨bx,0,none⟩)] w fun e w'=>e = .returned (.agg #[.bool false,.slice none 0 0,.slice none 0 0])∧Ext w w':=by
   go_enter Tryz.func142,Tryz.ntmps142
   go_wp2
   exact bodyPost_ret (v:=.agg #[.bool false,.slice none 0 0,.slice none 0 0]) (by simp [results,Tryz.results142,go_sem]) rfl ⟨rfl,(Ext.refl w).alloc _⟩
  exact key.mono fun e' w' ⟨h1,h2⟩=>⟨false,none,0,none,0,h1,by rw [if_neg e];exact isQ_zero _,h2⟩
set_option maxHeartbeats 1000000 in
theorem squareQ_any (n bx:Nat) (P:Nat→Nat→Int) (Q:Nat→Nat→Nat) (w:World) (hn1:1≤n) (hn8:n≤100)
  (hent:∀ i j W,i < n→j < n→Ext w W→Calls Tryz.prog 142 #[.int .i64 i,.int .i64 j,.pointer (some ⟨bx,0,none⟩)] W fun e w'=>∃ ng A k B m,e = .returned (.agg #[.bool ng,.slice A k k,.slice B m m])∧IsQ w' ng A k B m (P i j) (Q i j)∧Ext W w') :
  Calls Tryz.prog 141 #[.int .i64 n,.func (.func 142) #[] #[.pointer (some ⟨bx,0,none⟩)]] w fun e w'=>∃ g cap h,e = .returned (.slice (some ⟨g,0,none⟩) n cap)∧n≤cap∧MatQ w' w.heap.size g n h P Q∧Ext w w':=by
 have HEnt:=zH hent
 obtain ⟨i0,hi,hz0,hz1,hz2⟩:=info_parts Tryz.infoQs
 have HI0:=zH (show Tryz.prog.info? 139=some i0∧i0.zero=some (.slice none 0 0)∧i0.size=1∧i0.bytes=24 from ⟨hi,hz0,hz1,hz2⟩)
 clear hent hi hz0 hz1 hz2
 go_enter Tryz.func141,Tryz.ntmps141
 go_wp2
 go_loopg [5,10] n (fun kk v iv wr=>∃ (i:Nat) (h:Nat→Nat),kk+i=n∧iv = .int .i64 i∧Hid (SqInvQ w wr n i v h P Q))
 case atStart=>exact ⟨0,fun _=>0,by omega,rfl,⟨World.ownsRow_nil _ _ _ _,fun j hj=>by omega,fun j k hj=>by omega,fun j hj=>by omega,Ext.refl _⟩⟩
 obtain ⟨i,h,hki,rfl,HI⟩:=hrel
 by_cases hin:i < n
 ·obtain ⟨cs,hmk,hrow⟩:=make_rats (n:Int) n rfl om wr
  have HMk:=zH hrow
  clear hrow
  go_wp2
  obtain ⟨W1,hW1⟩:∃ W1,wr.alloc (.cells cs 144)=W1:=⟨_,rfl⟩
  rw [hW1] at HMk
  rw [hW1]
  have hX1:Ext wr W1:=by rw [← hW1];exact (Ext.refl wr).alloc _
  have HX1:=zH hX1
  have HXw:=zH (HI.out.ext.trans hX1)
  have hlo:w.heap.size≤wr.heap.size:=HI.out.ext.size
  obtain ⟨hr,hhr⟩:∃ hr,wr.heap.size=hr:=⟨_,rfl⟩
  have HHr:=zH hhr
  rw [hhr] at HMk hlo
  rw [hhr]
  clear hW1 hX1 hmk hhr
  go_loopg [17] n (fun kk jv wi=>∃ j:Nat,kk+j=n∧jv = .int .i64 j∧Hid (QRow wi hr n (fun j'=>if j' < j then P i j' else 0) (fun j'=>if j' < j then Q i j' else 1))∧Hid (ExtBut (fun x=>x=hr) W1 wi))
  case atStart=>exact ⟨0,by omega,rfl,HMk.out.congr (fun j hj=>by simp),ExtBut.refl _ _⟩
  obtain ⟨j,hkj,rfl,HR,HE⟩:=hrel
  by_cases hjn:j < n
  ·have HC:=zH (HEnt.out i j wr hin hjn (HXw.out.but HE.out (by rintro g rfl;exact hlo)))
   obtain ⟨ng0,A0,k0,B0,m0,c1,c2,c3,_⟩:=HR.out.cells j hjn
   have f1:=HR.out.free (j*3)
   have f2:=HR.out.free (j*3+1)
   have f3:=HR.out.free (j*3+2)
   have hlt:=HR.out.lt
   go_wp2_with fail
   refine HC.out.mono ?_
   rintro e w2 ⟨ng,A2,k2,B2,m2,rfl,hz,hx⟩
   replace f1:=hx.free f1 (zAA c1)
   replace c1:=hx.cell c1
   replace f2:=hx.free f2 (zAA c2)
   replace c2:=hx.cell c2
   replace f3:=hx.free f3 (zAA c3)
   replace c3:=hx.cell c3
   have HR2:=zH ((HR.out.ext hx).set_ hjn hz)
   have HE2:=zH (HE.out.ext hx)
   clear hz hx HC HR HE
   have HX3:Hid (ExtBut (fun x=>x=hr) W1 (((w2.setCell ⟨hr,j*3,none⟩ (.bool ng)).setCell ⟨hr,j*3+1,none⟩ (.slice A2 k2 k2)).setCell ⟨hr,j*3+2,none⟩ (.slice B2 m2 m2))):=HE2.out.trans (setQ_but _ _ _ _ _ _ _ _)
   have HR3:Hid (QRow (((w2.setCell ⟨hr,j*3,none⟩ (.bool ng)).setCell ⟨hr,j*3+1,none⟩ (.slice A2 k2 k2)).setCell ⟨hr,j*3+2,none⟩ (.slice B2 m2 m2)) hr n (fun j'=>if j' < j+1 then P i j' else 0) (fun j'=>if j' < j+1 then Q i j' else 1)) :=
    HR2.out.congr fun j' _=>by
     by_cases e:j'=j
     ·subst e;rw [if_pos rfl,if_pos om,if_pos rfl,if_pos om];exact ⟨rfl,rfl⟩
     ·rw [if_neg e,if_neg e]
      by_cases e2:j' < j
      ·rw [if_pos e2,if_pos om,if_pos e2,if_pos om];exact ⟨rfl,rfl⟩
      ·rw [if_neg e2,if_neg om,if_neg e2,if_neg om];exact ⟨rfl,rfl⟩
   clear HR2 HE2
   go_wp2
   go_roundg (gk - 1)
   case measure=>omega
   case rel=>exact ⟨j+1,by omega,by go_num,HR3,HX3⟩
  ·obtain rfl:n=j:=by omega
   obtain ⟨ii,hii,hz0,hz1,hz2⟩:∃ ii,Tryz.prog.info? 139=some ii∧ii.zero=some (.slice none 0 0)∧ii.size=1∧ii.bytes=24:=⟨i0,HI0.out⟩
   have HTy:=zH HR.out.typ
   have hlt:=HR.out.lt
   have HOwn:Hid (wr.ownsRow w.heap.size 139 1 u5 i ((List.range i).map fun j=>Value.slice (some ⟨h j,0,none⟩) n n)):=by
    refine (HI.out.own.kept (row:=none) ?_ (by cases u5.ownBlock <;> simp)).kept HE.out.grown ?_
    ·exact ⟨Below.os HX1.out,Below.tape HX1.out,Below.output HX1.out,HX1.out.size,fun k hk _=>Below.block HX1.out k hk⟩
    ·rcases hob:u5.ownBlock with _|g
     ·exact .inl rfl
     ·refine .inr ?_
      have:=HI.out.own.lt g hob
      have:=HHr.out
      intro e;injection e with e;omega
   have HRows:Hid (∀ j,j < i→QRow wr (h j) n (P j) (Q j)):=fun j hj =>
    ((HI.out.row j hj).ext HX1.out).but HE.out (by have:=(HI.out.row j hj).lt;have:=HHr.out;omega) HMk.out.typ (by decide)
   have HNew:Hid (QRow wr hr n (P i) (Q i)):=HR.out.congr fun j' hj'=>⟨if_pos hj',if_pos hj'⟩
   have HXn:=zH (HXw.out.but HE.out (by rintro g rfl;exact hlo))
   clear HR HE
   have hws:w.heap.size≤wr.heap.size:=HXn.out.size
   go_wp2_with (at_builtin;refine wpList_append_own _ rfl _ _ 138 rfl w.heap.size 139 ii (.slice none 0 0) 1 24 Tryz.underlying138 hii hz0 hz1 hz2 rfl (by decide) _ _ _ rfl (HOwn.out.alloc _) ⟨wr.heap.size,0,none⟩ 1 1 [.slice (some ⟨hr,0,none⟩) n n] rfl rfl ?c1 ?c2 ?c3 ?c4 ?c5 ?_)
   case c1=>exact cell_one_new _ _ _
   case c2=>intro u hu;rw [List.mem_singleton.1 hu];rfl
   case c3=>unfold maxLen;omega
   case c4=>omega
   case c5=>simp only [World.size_alloc];omega
   intro v' w5 hown' hgrow _
   have hOwnA:=HOwn.out.alloc (.cells #[.slice (some ⟨hr,0,none⟩) n n] 139)
   have hk104:∀ b,TB (wr.alloc (.cells #[.slice (some ⟨hr,0,none⟩) n n] 139)) 144 b→w5.heap[b]? = (wr.alloc (.cells #[.slice (some ⟨hr,0,none⟩) n n] 139)).heap[b]?:=fun b hb=>zAR hOwnA hgrow hb (by decide)
   have hk32:∀ b,TB (wr.alloc (.cells #[.slice (some ⟨hr,0,none⟩) n n] 139)) 133 b→w5.heap[b]? = (wr.alloc (.cells #[.slice (some ⟨hr,0,none⟩) n n] 139)).heap[b]?:=fun b hb=>zAR hOwnA hgrow hb (by decide)
   have hXA:Ext wr (wr.alloc (.cells #[.slice (some ⟨hr,0,none⟩) n n] 139)):=(Ext.refl wr).alloc _
   have HS:Hid (SqInvQ w w5 n (i+1) v' (fun j=>if j=i then hr else h j) P Q):=by
    refine ⟨?_,fun j hj=>?_,fun j k hj hk e=>?_,fun j hj=>?_,?_⟩
    ·rw [← zBF i (fun j=>Value.slice (some ⟨h j,0,none⟩) n n) _ (.slice (some ⟨hr,0,none⟩) n n) (fun j hj=>by simp only [if_neg (show ¬ j=i by omega)]) (by simp)]
     exact hown'
    ·by_cases e:j=i
     ·subst e
      simp only [if_true]
      exact (HNew.out.ext hXA).typed (hk104 _ (HNew.out.ext hXA).typ) hk32
     ·simp only [if_neg e]
      have h2:=(HRows.out j om).ext hXA
      exact h2.typed (hk104 _ h2.typ) hk32
    ·by_cases e1:j=i <;> by_cases e2:k=i
     ·omega
     ·rw [if_pos e1,if_neg e2] at e
      have h1:=(HI.out.row k om).lt
      have h2:=HHr.out
      omega
     ·rw [if_neg e1,if_pos e2] at e
      have h1:=(HI.out.row j om).lt
      have h2:=HHr.out
      omega
     ·rw [if_neg e1,if_neg e2] at e
      exact HI.out.inj j k om om e
    ·by_cases e1:j=i
     ·simp only [if_pos e1];exact hlo
     ·simp only [if_neg e1];exact HI.out.low j om
    ·exact (HXn.out.alloc _).grown hgrow (fun k hk=>(hOwnA.lt k hk).1)
   clear hown' hgrow hOwnA hk104 hk32 hXA
   go_wp2
   go_roundg (n - (i+1))
   case measure=>omega
   case rel=>exact ⟨i+1,_,by omega,by go_num,HS⟩
 ·obtain rfl:n=i:=by omega
  rcases HI.out.own.2 with ⟨_,h0⟩|⟨g,cap,cur,rfl,hg,hh,hnc,hcm,hcs,hct⟩
  ·omega
  ·have HM:Hid (MatQ wr w.heap.size g n h P Q):=by
    refine ⟨fun i hi=>?_,HI.out.row,HI.out.inj,HI.out.low,hg,⟨_,_,hh⟩⟩
    have h1:=HI.out.own.cells (g:=g) rfl i (.slice (some ⟨h i,0,none⟩) n n) (by simp [hi])
    rw [← h1]
    unfold Addr.add
    split
    ·subst_vars;rfl
    ·simp
   have HX:=zH HI.out.ext
   clear hh hcs hct HI
   go_wp2
   go_ret
   exact ⟨g,cap,h,rfl,hnc,HM.out,HX.out⟩
end Go.Proofs.YtdkgilioejdmeaaGreat
