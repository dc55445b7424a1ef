/- YtdkgilioejdmeaaGreatBA2: what is proved here stands in the theorems' own rows. -/
import Derived.Deep.LoopGhost
import Derived.Deep.DeepCutAuto
import Derived.Deep.CutBlock
import Derived.Outline
import Derived.RegionTactic
import Derived.Maps.AppendAt
import Derived.Deep.AppendLies
import Derived.Deep.RegionWith
import Derived.Deep.RegionHeld3
import Derived.Test.YtdkgilioejdmeaaGreatBA1
set_option linter.unusedVariables false
set_option linter.unusedSimpArgs false
namespace Go.Proofs.YtdkgilioejdmeaaGreat
open Go.RowKit
theorem Lead_any (d:Nat) (h:d < 4294967296) (w:World):Calls Tryz.prog 222 #[.int .u32 d] w fun e w'=>e = .returned (.int .i64 ((32 - bitsN d:Nat):Int))∧w'=w :=
 (Tryz.bits_LeadingZeros32 d w om om).mono fun e w' ⟨he,hw⟩=>⟨by
  have:=(zAW d 32).2 h
  rw [he,Int.toNat_natCast,zCj d h];congr 2;omega,hw⟩
structure BackInv (gu:Nat) (pre x post v:List Nat) (wr:World) (i c:Nat) (p:List Nat):Prop where
 len:p.length=i
 lt:∀ d∈p,d < 4294967296
 row:Row wr 133 gu (pre ++ ((p ++ x.drop i) ++ post))
 val:ofD p+4294967296 ^ i*c=ofD (x.take i)+ofD (v.take i)
set_option maxHeartbeats 4000000 in
set_option maxRecDepth 100000 in
theorem long_any (A B:Option Addr) (k n a b:Nat) (w:World) (ha:IsNat w A k a) (hb:IsNat w B n b) (hk:k≤10000) (hn:2≤n) (hab:b≤a) :
  Calls Tryz.prog 192 #[.agg #[.slice A k k],.agg #[.slice B n n]] w fun e w'=>∃ A1 k1 A2 k2,e = .returned (.tuple #[.agg #[.slice A1 k1 k1],.agg #[.slice A2 k2 k2]])∧IsNat w' A1 k1 (a / b)∧IsNat w' A2 k2 (a % b)∧Ext w w':=by
 have hnk:n≤k:=by rw [hb.1,zAr,ha.1];exact Nat.lt_of_le_of_lt hab (zCY a)
 obtain ⟨bb,bo,vt,rfl,hbb,hvt,hvl,cvt⟩:=hb.cell (n - 1) om
 have HA:=zH ha;clear ha
 have HB:=zH hb;clear hb
 have hlead:=Lead_any vt hvl
 have HL:=zH hlead;clear hlead
 go_enter Tryz.func192,Tryz.ntmps192
 go_wp2
 go_step3
 go_wp2
 obtain ⟨W0,hW0⟩:∃ W0:World,(((w.alloc (.cells #[.slice A k k] 47)).alloc (.cells #[.slice (some ⟨bb,bo,none⟩) n n] 47)).alloc (.cells #[.slice none 0 0] 47)).alloc (.cells #[.slice none 0 0] 47)=W0:=⟨_,rfl⟩
 have hX0:Ext w W0:=by rw [← hW0];exact ((((Ext.refl w).alloc _).alloc _).alloc _).alloc _
 have c0:W0.cell? ⟨w.heap.size,0,none⟩=some (.slice A k k):=by rw [← hW0];simp [go_sem]
 have c1:W0.cell? ⟨w.heap.size+1,0,none⟩=some (.slice (some ⟨bb,bo,none⟩) n n):=by rw [← hW0];simp [go_sem]
 have c2:W0.cell? ⟨w.heap.size+1+1,0,none⟩=some (.slice none 0 0):=by rw [← hW0];simp [go_sem]
 have c3:W0.cell? ⟨w.heap.size+1+1+1,0,none⟩=some (.slice none 0 0):=by rw [← hW0];simp [go_sem]
 have f2:W0.frozen? ⟨w.heap.size+1+1,0,none⟩=false:=by rw [← hW0];simp [go_sem]
 have f3:W0.frozen? ⟨w.heap.size+1+1+1,0,none⟩=false:=by rw [← hW0];simp [go_sem]
 have hs0:w.heap.size+3 < W0.heap.size:=by rw [← hW0];simp
 have cvt0:=hX0.cell cvt
 rw [hW0]
 have HX0:=zH hX0
 clear hW0 hX0 cvt
 have e1:IntKind.i64.wrap ((n:Int) - 1)=(n:Int) - 1:=IntWalk.i64_in _ om
 have e4:((n:Int) - 1).toNat=n - 1:=by omega
 have p1:(0:Int)≤(n:Int) - 1:=by omega
 have p2:(n:Int) - 1 < n:=by omega
 have p3:(1:Int)≤n:=by omega
 have p4:0 < n:=by omega
 go_quiet ((go_at_call 222;exact Calls.quiet_of_same (HL.out _)))
 clear e1 e4 p1 p2 p3 cvt0 HL
 have HN:=zH (norm_fit b n vt HB.out.1 om hvt)
 have hsh:32 - bitsN vt < 32:=by have:=HN.out;omega
 have HFit:Hid (b*2 ^ (32 - bitsN vt) < 4294967296 ^ n∧4294967296 ^ n≤2*(b*2 ^ (32 - bitsN vt))):=HN.out.2.2
 clear HN hvt
 generalize 32 - bitsN vt=sh at *
 have hDB:=(HB.out.ext HX0.out).2
 have hDA:=(HA.out.ext HX0.out).2
 have HU1:=zH (up_any (some ⟨bb,bo,none⟩) n n (digs b) sh n (W0.drewN nq) HB.out.1 om (zAS b) hDB hsh om (Nat.le_refl _) (by rw [zAH];exact HFit.out.1))
 clear hDB
 go_wp2_with fail
 refine HU1.out.mono ?_
 rintro e w1 ⟨gv,pv,rfl,hgv,hRv,hlv,hdv,hev,hx1⟩
 clear HU1
 have HX1:Ext W0 w1:=((Ext.refl W0).drewN nq).trans hx1
 have hgv':w.heap.size+3 < gv:=Nat.lt_of_lt_of_le hs0 hgv
 have d0:=HX1.cell c0
 have d2:=HX1.cell c2
 have d3:=HX1.cell c3
 have g2:=HX1.free f2 (zAA c2)
 have g3:=HX1.free f3 (zAA c3)
 have hDA1:=zH (hDA.below HX1)
 have hgvl:=hRv.lt
 have HRv:=zH hRv
 have HX01:=zH (HX0.out.trans HX1)
 have HPV:=zH (show pv.length=n∧(∀ d∈pv,d < 4294967296)∧ofD pv=b*2 ^ sh from ⟨hlv,hdv,by rw [hev,zAH]⟩)
 clear c0 c1 c2 c3 f2 f3 hDA hRv hlv hdv hev hx1 HX0 HX1 hgv
 have HU2:=zH (up_any A k k (digs a) sh (k+1) w1 HA.out.1 om (zAS a) hDA1.out hsh om om (by
  rw [zAH,Nat.pow_succ]
  refine Nat.mul_lt_mul'' ?_ ?_
  ·rw [HA.out.1];exact zCY a
  ·exact Nat.lt_of_lt_of_le (Nat.pow_lt_pow_right om hsh) om))
 go_wp2_with fail
 refine HU2.out.mono ?_
 rintro e w2 ⟨gu,pu,rfl,hgu,hRu,hlu,hdu,heu,hx2⟩
 clear HU2 hDA1
 have i2:=hx2.cell d2
 have i3:=hx2.cell d3
 have k2:=hx2.free g2 (zAA d2)
 have k3:=hx2.free g3 (zAA d3)
 have HRv2:=zH (HRv.out.ext hx2)
 have HRu2:=zH hRu
 have hgul:=hRu.lt
 have HPU:=zH (show pu.length=k+1∧(∀ d∈pu,d < 4294967296)∧ofD pu=a*2 ^ sh from ⟨hlu,hdu,by rw [heu,zAH]⟩)
 have HX2:=zH (HX01.out.trans hx2)
 have hvu:gv < gu:=Nat.lt_of_lt_of_le hgvl hgu
 clear d0 d2 d3 g2 g3 HRv HX01 hRu hlu hdu heu hgu hgvl hx2
 have e1:IntKind.i64.wrap ((k:Int)+1 - n)=((k+1 - n:Nat):Int):=by rw [IntWalk.i64_in _ om];omega
 have hmak:=fun W=>zBC ((k+1 - n:Nat):Int) (k+1 - n) rfl om W
 go_wp2_with fail
 obtain ⟨m,hm⟩:∃ m,k+1 - n=m:=⟨_,rfl⟩
 rw [hm]
 have HM:Hid (k+1=m+n):=by unfold Hid;omega
 have hm1:m≤10000:=by omega
 have hRo:=Row.zeros w2 133 m
 obtain ⟨W3,hW3⟩:∃ W3:World,w2.alloc (.cells (zerosA m) 133)=W3:=⟨_,rfl⟩
 have hX3:Ext w2 W3:=by rw [← hW3];exact (Ext.refl w2).alloc _
 rw [hW3] at hRo
 rw [hW3]
 have j2:=hX3.cell i2
 have j3:=hX3.cell i3
 have l2:=hX3.free k2 (zAA i2)
 have l3:=hX3.free k3 (zAA i3)
 have HRv3:=zH (HRv2.out.ext hX3)
 have HX3:=zH (HX2.out.trans hX3)
 have HI0:=zH (long_start gu w2.heap.size n m sh k a pu pv W3 HM.out om hsh (by rw [HA.out.1];exact zCY a) HPU.out.1 HPU.out.2.1 HPU.out.2.2 (by rw [HPV.out.2.2];exact HFit.out.2) (HRu2.out.ext hX3) hRo)
 have hs3:w2.heap.size < W3.heap.size:=by rw [← hW3];simp
 clear hW3 hX3 i2 i3 k2 k3 HRv2 HRu2 HX2 hRo hm hmak
 generalize w2.heap.size=go at *
 go_step3
 go_wp2
 have HX3':=HX3
 go_loopg [12] m (fun jj jv wr=>∃ (r qs:List Nat),jj≤m∧jv = .int .i64 ((jj:Int) - 1)∧Hid (LongInv gu go n m sh pu pv wr jj r qs)∧Hid (ExtBut (fun g=>g=gu∨g=go) W3 wr))
 case atStart=>exact ⟨_,[],Nat.le_refl _,rfl,HI0,ExtBut.refl _ _⟩
 clear HI0
 obtain ⟨r,qs,hj,rfl,HI,HE⟩:=hrel
 by_cases h0:gk=0
 ·subst h0
  have HEnd:=zH (long_end gu go n m sh a b pu pv r qs wr HI.out HPU.out.2.2 HPV.out.2.2 (by
   rcases Nat.eq_zero_or_pos b with h|h
   ·have:=HB.out.k_zero.2 h;omega
   ·exact h))
  have hro:Row wr 133 go qs:=by have:=HI.out.ro;simpa using this
  have hru:Row wr 133 gu (r ++ List.replicate m 0):=by have:=HI.out.ru;simpa using this
  have HRu:=zH hru
  have HCut:=zH (zBU (some ⟨go,0,none⟩) m m qs wr (by have:=HI.out.lq;omega) (Nat.le_refl _) om HI.out.dq hro.digs)
  have HXa:=zH (HX3.out.but HE.out (by rintro g (rfl|rfl) <;> omega))
  have q2:=HE.out.cell j2 (show ¬ (w.heap.size+1+1=gu∨w.heap.size+1+1=go) by omega)
  have q3:=HE.out.cell j3 (show ¬ (w.heap.size+1+1+1=gu∨w.heap.size+1+1+1=go) by omega)
  have o2:=HE.out.free l2 (zAA j2) (show ¬ (w.heap.size+1+1=gu∨w.heap.size+1+1=go) by omega)
  have o3:=HE.out.free l3 (zAA j3) (show ¬ (w.heap.size+1+1+1=gu∨w.heap.size+1+1+1=go) by omega)
  clear hro hru
  go_wp2_with fail
  refine HCut.out.mono ?_
  rintro e w5 ⟨k1,rfl,hn1,hk1,hx5⟩
  have hlen:(k+1:Nat)=(r ++ List.replicate m 0).length:=by have:=HI.out.lr;have:=HM.out;simp;omega
  have hdr:∀ d∈r ++ List.replicate m 0,d < 4294967296:=by
   intro d hd
   rcases List.mem_append.1 hd with hd|hd
   ·exact HI.out.dr d hd
   ·have:=List.eq_of_mem_replicate hd;omega
  have HDown:=zH (down_any (some ⟨gu,0,none⟩) (k+1) (k+1) (r ++ List.replicate m 0) sh w5 hlen om hdr (HRu.out.ext hx5).digs hsh)
  have r2:=hx5.cell q2
  have r3:=hx5.cell q3
  have s2:=hx5.free o2 (zAA q2)
  have s3:=hx5.free o3 (zAA q3)
  have HX5:=zH (HXa.out.trans hx5)
  have HN1:=zH hn1
  clear hx5 hn1 hlen hdr q2 q3 o2 o3 HCut
  go_wp2_with fail
  refine HDown.out.mono ?_
  rintro e w6 ⟨A2,k2,rfl,hn2,hk2,hx6⟩
  have t2:=hx6.cell r2
  have t3:=hx6.cell r3
  have v2:=hx6.free s2 (zAA r2)
  have v3:=hx6.free s3 (zAA r3)
  have HN1':=zH (HN1.out.ext hx6)
  have HX6:=zH (HX5.out.trans hx6)
  rw [HEnd.out.2] at hn2
  rw [HEnd.out.1] at HN1'
  have HN2:=zH hn2
  clear hx6 hn2 r2 r3 s2 s3 HDown
  go_wp2
  rw [Exit.noGoto_ret]
  have y3:(w6.setCell ⟨w.heap.size+1+1,0,none⟩ (.slice (some ⟨go,0,none⟩) k1 k1)).cell? ⟨w.heap.size+1+1+1,0,none⟩=some (.slice none 0 0):=by
   rw [World.cell?_setCell_other _ _ _ _ (by intro h;injection h with h1 _;omega)];exact t3
  have y2:=setc (v:=.slice (some ⟨go,0,none⟩) k1 k1) t2
  have z3:=setc (v:=.slice A2 k2 k2) y3
  have z2:((w6.setCell ⟨w.heap.size+1+1,0,none⟩ (.slice (some ⟨go,0,none⟩) k1 k1)).setCell ⟨w.heap.size+1+1+1,0,none⟩ (.slice A2 k2 k2)).cell? ⟨w.heap.size+1+1,0,none⟩=some (.slice (some ⟨go,0,none⟩) k1 k1):=by
   rw [World.cell?_setCell_other _ _ _ _ (by intro h;injection h with h1 _;omega)];exact y2
  refine bodyPost_ret (v:=.tuple #[.agg #[.slice (some ⟨go,0,none⟩) k1 k1],.agg #[.slice A2 k2 k2]]) (by simp [results,Tryz.results192,go_sem,z2,z3]) rfl ⟨_,k1,A2,k2,rfl,(HN1'.out.setBox t2 _).setBox y3 _,(HN2.out.setBox t2 _).setBox y3 _,?_⟩
  exact (HX6.out.setCell (p:=⟨w.heap.size+1+1,0,none⟩) (by simp only [];omega) _).setCell (p:=⟨w.heap.size+1+1+1,0,none⟩) (by simp only [];omega) _
 ·obtain ⟨j,rfl⟩:∃ j,gk=j+1:=⟨gk - 1,by omega⟩
  have hjj:((j+1:Nat):Int) - 1=j:=by omega
  rw [hjj]
  clear hjj h0
  have hkm:m+n≤k+1:=by have:=HM.out;omega
  have hkm2:k+1≤m+n:=by have:=HM.out;omega
  obtain ⟨u0,hu0⟩:∃ u0,pu[j]? = some u0:=⟨_,List.getElem?_eq_getElem (by have:=HPU.out.1;omega)⟩
  have hul:=zBk HPU.out.2.1 hu0
  have hlr:=HI.out.lr
  obtain ⟨t1,ht1⟩:∃ t1,(u0 :: r)[n]? = some t1:=⟨_,List.getElem?_eq_getElem (by simp;omega)⟩
  obtain ⟨t0,ht0⟩:∃ t0,(u0 :: r)[n - 1]? = some t0:=⟨_,List.getElem?_eq_getElem (by simp;omega)⟩
  obtain ⟨u2,hu2⟩:∃ u2,(u0 :: r)[n - 2]? = some u2:=⟨_,List.getElem?_eq_getElem (by simp;omega)⟩
  obtain ⟨vT,hvT⟩:∃ vT,pv[n - 1]? = some vT:=⟨_,List.getElem?_eq_getElem (by have:=HPV.out.1;omega)⟩
  obtain ⟨v2,hv2⟩:∃ v2,pv[n - 2]? = some v2:=⟨_,List.getElem?_eq_getElem (by have:=HPV.out.1;omega)⟩
  have hdx:∀ d∈u0 :: r,d < 4294967296:=by
   intro d hd
   rcases List.mem_cons.1 hd with rfl|hd
   ·exact hul
   ·exact HI.out.dr d hd
  have HS:=zH (show Step (u0 :: r) pv n t1 t0 u2 vT v2 from ⟨hn,by simp [hlr],HPV.out.1,hdx,HPV.out.2.1,ht1,ht0,hu2,hvT,hv2,high_of pv n vT HPV.out.1 om hvT HPV.out.2.1 (by rw [HPV.out.2.2];exact HFit.out.2),HI.out.xlt hul⟩)
  have hlt1:=zBk hdx ht1
  have hlt0:=zBk hdx ht0
  have hlu2:=zBk hdx hu2
  have hlvT:=zBk HPV.out.2.1 hvT
  have hlv2:=zBk HPV.out.2.1 hv2
  have hvH:2147483648≤vT:=HS.out.high
  have hpl:(pu.take j).length=j:=by rw [List.length_take];have:=HPU.out.1;omega
  have HRow:=zH (HI.out.row hu0)
  have HRv4:=zH (HRv3.out.extBut HE.out om)
  have ca:=HRow.out.cell (win_at hpl ht1)
  have cb:=HRow.out.cell (win_at hpl ht0)
  have cc:=HRow.out.cell (win_at hpl hu2)
  have cv1:=HRv4.out.cell hvT
  have cv2:=HRv4.out.cell hv2
  rw [show j+(n - 1)=j+n - 1 by omega] at cb
  rw [show j+(n - 2)=j+n - 2 by omega] at cc
  have HPL:=zH hpl
  have HU0:=zH hu0
  clear hpl hu0 hlr ht1 ht0 hu2 hvT hv2 hdx
  go_wp2
  have e1:IntKind.i64.wrap ((j:Int)+n)=(j:Int)+n:=IntWalk.i64_in _ om
  have e2:IntKind.i64.wrap ((j:Int)+n - 1)=(j:Int)+n - 1:=IntWalk.i64_in _ om
  have e3:((j:Int)+n).toNat=j+n:=by omega
  have e4:((j:Int)+n - 1).toNat=j+n - 1:=by omega
  have p1:(0:Int)≤(j:Int)+n:=by omega
  have p2:(j:Int)+n < (k:Int)+1:=by omega
  have p3:(0:Int)≤(j:Int)+n - 1:=by omega
  have p4:(j:Int)+n - 1 < (k:Int)+1:=by omega
  have p5:(1:Int)≤(j:Int)+n:=by omega
  obtain ⟨T,hT⟩:∃ T,t1*4294967296+t0=T:=⟨_,rfl⟩
  have e5:bits .or .u64 ((t1:Int)*4294967296) t0=(T:Int):=by rw [← hT];exact zCv t1 t0 hlt1 hlt0
  have HT:=zH hT
  clear hT
  go_quiet (fail)
  clear e1 e2 e3 e4 e5 p1 p2 p3 p4 p5 ca cb
  have HG0:=zH HS.out.first
  have hTm:T < 18446744073709551616:=by have:=HT.out;omega
  rw [HT.out] at HG0
  obtain ⟨dd,hd⟩:∃ dd,T / vT=dd:=⟨_,rfl⟩
  obtain ⟨rest,hr⟩:∃ rest,T % vT=rest:=⟨_,rfl⟩
  rw [hd,hr] at HG0
  have hdd:dd≤4294967297:=HG0.out.le
  have hw:IntKind.u64.wrap (dd:Int)=dd:=zAk _ om om
  have q1:(T:Int).tdiv vT=dd:=by rw [Int.tdiv_eq_ediv_of_nonneg om,← hd];simp
  have q3:(T:Int).tmod vT=rest:=by rw [Int.tmod_eq_emod_of_nonneg om,← hr];simp
  have q2:(T:Int) / vT=dd:=by rw [← hd];simp
  have q4:(T:Int) % vT=rest:=by rw [← hr];simp
  have hne:((vT:Int) == 0)=false:=by rw [beq_eq_false_iff_ne];omega
  clear hd hr
  go_wp2
  have e1:IntKind.i64.wrap ((n:Int) - 1)=(n:Int) - 1:=IntWalk.i64_in _ om
  have e3:((n:Int) - 1).toNat=n - 1:=by omega
  have p1:(0:Int)≤(n:Int) - 1:=by omega
  have p2:(n:Int) - 1 < (n:Int):=by omega
  have p3:(1:Int)≤(n:Int):=by omega
  have p5:0 < n:=by omega
  go_quiet (fail)
  clear e1 e3 p1 p2 p3 p5 q1 q2 q3 q4 hne hw
  go_upto_block 2 with (fail)
  go_cut [14] (fun s14 wx=>∃ (d nn:Nat),s14 = .int .u64 d∧wx=wr.drewN nn∧d < 4294967296∧Hid (d=ofD (u0 :: r) / ofD pv∨d=ofD (u0 :: r) / ofD pv+1))
  case first =>
   go_wp2
   go_loopg [14,15] dd (fun kk dv rv wi=>∃ (rst nn:Nat),dv = .int .u64 kk∧rv = .int .u64 rst∧wi=wr.drewN nn∧rst < 4294967296∧kk≤4294967297∧Hid (Guess (u0 :: r) pv T vT kk rst))
   case atStart=>exact ⟨rest,_,rfl,rfl,World.drewN_drewN _ _ _,HG0.out.rest,hdd,HG0⟩
   obtain ⟨rst,nn,rfl,rfl,rfl,hrs,hkk,HG⟩:=hrel
   have e1:IntKind.i64.wrap ((n:Int) - 2)=(n:Int) - 2:=IntWalk.i64_in _ om
   have e2:((n:Int) - 2).toNat=n - 2:=by omega
   have e3:IntKind.i64.wrap ((j:Int)+n)=(j:Int)+n:=IntWalk.i64_in _ om
   have e4:IntKind.i64.wrap ((j:Int)+n - 2)=(j:Int)+n - 2:=IntWalk.i64_in _ om
   have e5:((j:Int)+n - 2).toNat=j+n - 2:=by omega
   have p1:(0:Int)≤(n:Int) - 2:=by omega
   have p2:(n:Int) - 2 < (n:Int):=by omega
   have p3:(2:Int)≤(n:Int):=by omega
   have p5:0 < n:=by omega
   have p6:(0:Int)≤(j:Int)+n - 2:=by omega
   have p7:(j:Int)+n - 2 < (k:Int)+1:=by omega
   have p8:(2:Int)≤(j:Int)+n:=by omega
   obtain ⟨M,hM⟩:∃ M,gk*v2=M:=⟨_,rfl⟩
   obtain ⟨R,hR⟩:∃ R,rst*4294967296+u2=R:=⟨_,rfl⟩
   have HMR:=zH (show gk*v2=M∧rst*4294967296+u2=R from ⟨hM,hR⟩)
   have hbR:bits .or .u64 ((rst:Int)*4294967296) u2=(R:Int):=by rw [← hR];exact zCv rst u2 hrs hlu2
   clear hM hR
   by_cases hb:gk < 4294967296
   ·have g1:((gk:Int) / 4294967296 != 0)=false:=by rw [bne_eq_false_iff_eq];omega
    have hbM:IntKind.u64.wrap ((gk:Int)*v2)=(M:Int):=by
     have e:=HMR.out.1
     have h1:gk*v2≤4294967295*4294967295:=Nat.mul_le_mul om om
     have e2:(gk:Int)*v2=(M:Int):=by rw [← e];simp
     rw [e2];exact zAk _ om om
    by_cases hc:R < M
    ·have g3:decide ((R:Int) < (M:Int))=true:=by simp;omega
     have HD:=zH (Guess.down HS.out (by rw [HT.out];exact HG.out) (.inr (by rw [HMR.out.1,HMR.out.2];exact hc)))
     have hg1:1≤gk:=HD.out.1
     by_cases h2:rst+vT < 4294967296
     ·have g2:(((rst:Int)+vT) / 4294967296 != 0)=false:=by rw [bne_eq_false_iff_eq];omega
      go_wp2
      go_quiet (fail)
      go_wp2
      go_roundg (gk - 1)
      case measure=>omega
      case rel=>exact ⟨rst+vT,_,by go_num,by go_num,(by first|rfl),h2,by omega,⟨by rw [← HT.out];exact HD.out.2.2,h2,HD.out.2.1,by omega⟩⟩
     ·have g2:(((rst:Int)+vT) / 4294967296 != 0)=true:=by rw [bne_iff_ne];omega
      go_wp2
      go_quiet (fail)
      go_wp2
      go_meet
      have HL:=Guess.left HS.out HD.out.2.2 HD.out.2.1 om
      exact ⟨gk - 1,_,by go_num,(by first|rfl),HL.1,HL.2⟩
    ·have g3:decide ((R:Int) < (M:Int))=false:=by simp;omega
     go_wp2
     go_quiet (fail)
     go_wp2
     go_meet
     have HL:=Guess.done HS.out (by rw [HT.out];exact HG.out.eq) HG.out.ge ⟨hb,by rw [HMR.out.1,HMR.out.2];omega⟩
     exact ⟨gk,_,rfl,(by first|exact World.drewN_drewN _ _ _),HL.1,HL.2⟩
   ·have g1:((gk:Int) / 4294967296 != 0)=true:=by rw [bne_iff_ne];omega
    have HD:=zH (Guess.down HS.out (by rw [HT.out];exact HG.out) (.inl om))
    have hg1:1≤gk:=HD.out.1
    by_cases h2:rst+vT < 4294967296
    ·have g2:(((rst:Int)+vT) / 4294967296 != 0)=false:=by rw [bne_eq_false_iff_eq];omega
     go_wp2
     go_quiet (fail)
     go_wp2
     go_roundg (gk - 1)
     case measure=>omega
     case rel=>exact ⟨rst+vT,_,by go_num,by go_num,(by first|rfl),h2,by omega,⟨by rw [← HT.out];exact HD.out.2.2,h2,HD.out.2.1,by omega⟩⟩
    ·have g2:(((rst:Int)+vT) / 4294967296 != 0)=true:=by rw [bne_iff_ne];omega
     go_wp2
     go_quiet (fail)
     go_wp2
     go_meet
     have HL:=Guess.left HS.out HD.out.2.2 HD.out.2.1 om
     exact ⟨gk - 1,_,by go_num,(by first|rfl),HL.1,HL.2⟩
  obtain ⟨d,nn,rfl,rfl,hdl,HQ⟩:=hcut
  have hdm:(d:Int) % 4294967296=d:=by omega
  have HAw:=zH (away_any gu j (n+1) (n+1) (pu.take j) (u0 :: r) (List.replicate (m - (j+1)) 0) pv (some ⟨gv,0,none⟩) n n d (wr.drewN nn) HPL.out (by have:=HS.out.lx;omega) (by have:=HS.out.lv;omega) rfl om om HS.out.dx HS.out.dv hdl HRow.out HRv4.out.digs (fun o=>.inl (by intro h;injection h with h;injection h with h1 _;omega)))
  go_wp2_with fail
  rw [show j+n+1 - j=n+1 by omega]
  refine HAw.out.mono ?_
  rintro e w5 ⟨br,x',rfl,hP⟩
  have HP:=zH hP
  have HE5:=zH (HE.out.ext ((Ext.refl wr).drewN nn) |>.trans (hP.ext.mono (T:=fun g=>g=gu∨g=go) (fun g hg _=>.inl hg)))
  have hRo5:=(HI.out.ro.drewN nn).extBut (S:=fun g=>g=gu) hP.ext (show ¬ go=gu by omega)
  have HRv5:=zH ((HRv4.out.drewN nn).extBut (S:=fun g=>g=gu) hP.ext (show ¬ gv=gu by omega))
  have co:w5.cell? ⟨go,j,none⟩=some (.int .u32 ((0:Nat):Int)):=hRo5.cell (by rw [List.getElem?_append_left (by simp)];simp)
  have fo:=hRo5.free j
  have HRo5:=zH hRo5
  obtain ⟨X,hX⟩:∃ X,ofD (u0 :: r)=X:=⟨_,rfl⟩
  have hqB:ofD (u0 :: r) / ofD pv < 4294967296:=Guess.q_lt HS.out
  have hVn:ofD pv < 4294967296 ^ n:=by have:=HFit.out.1;rwa [← HPV.out.2.2] at this
  have HVn:=zH hVn
  have HqB:=zH hqB
  have hx'M:=zBs x' hP.lt
  rw [hP.len] at hx'M
  clear hP hRo5 HAw hVn hqB hX
  rcases HQ.out with hq|hq
  ·have hR:=away_right (ofD (u0 :: r)) (ofD pv) d br (ofD x') _ HP.out.val HP.out.le hx'M hq
   obtain ⟨rfl,hxv⟩:=hR
   have HRu6:Hid (Row (w5.setCell ⟨go,j,none⟩ (.int .u32 (d:Int))) 133 gu (pu.take j ++ (x' ++ List.replicate (m - (j+1)) 0))) :=
    HP.out.row.extBut ((ExtBut.refl (fun g=>g=go) w5).setCell (p:=⟨go,j,none⟩) (.inl rfl) _) (show ¬ gu=go by omega)
   have HRo6:Hid (Row (w5.setCell ⟨go,j,none⟩ (.int .u32 (d:Int))) 133 go ((List.replicate (j+1) 0 ++ qs).set j (ofD (u0 :: r) / ofD pv))):=by
    rw [← hq];exact HRo5.out.set_ j d
   have HN:=zH (HI.out.next HU0.out (by rw [HP.out.len,HS.out.lx]) HP.out.lt hxv HVn.out HqB.out HRu6.out HRo6.out)
   have HE6:Hid (ExtBut (fun g=>g=gu∨g=go) W3 (w5.setCell ⟨go,j,none⟩ (.int .u32 (d:Int)))):=HE5.out.setCell (p:=⟨go,j,none⟩) (.inl (.inr rfl)) _
   clear hxv hx'M hq
   go_wp2
   go_roundg j
   case measure=>omega
   case rel=>exact ⟨_,_,by omega,rfl,HN,HE6⟩
  ·have hR:=away_wrong (ofD (u0 :: r)) (ofD pv) d br (ofD x') _ HS.out.vpos HP.out.val HP.out.le hx'M hq
   obtain ⟨rfl,hxv⟩:=hR
   obtain ⟨q,hqq⟩:∃ q,ofD (u0 :: r) / ofD pv=q:=⟨_,rfl⟩
   have hd1:(d:Int) - 1=q:=by omega
   have hd0:1≤d:=by omega
   have hRo6:Row (w5.setCell ⟨go,j,none⟩ (.int .u32 (q:Int))) 133 go ((List.replicate (j+1) 0 ++ qs).set j q):=HRo5.out.set_ j q
   have hX6:ExtBut (fun g=>g=go) w5 (w5.setCell ⟨go,j,none⟩ (.int .u32 (q:Int))):=(ExtBut.refl (fun g=>g=go) w5).setCell (p:=⟨go,j,none⟩) (.inl rfl) _
   have hRu6:=HP.out.row.extBut hX6 (show ¬ gu=go by omega)
   have hRv6:=HRv5.out.extBut hX6 (show ¬ gv=go by omega)
   have HE6:Hid (ExtBut (fun g=>g=gu∨g=go) W3 (w5.setCell ⟨go,j,none⟩ (.int .u32 (q:Int)))):=HE5.out.setCell (p:=⟨go,j,none⟩) (.inl (.inr rfl)) _
   have HRo6:=zH hRo6
   have HRu6:=zH hRu6
   have HRv6:=zH hRv6
   have HXV:=zH hxv
   have HQQ:=zH hqq
   have hlx:x'.length=n+1:=by rw [HP.out.len,HS.out.lx]
   have HLX:=zH hlx
   clear hRo6 hRu6 hRv6 hX6 hxv hqq hq hx'M hlx HE5 HRo5 HRv5
   go_wp2
   obtain ⟨W6,hW6⟩:∃ W6:World,w5.setCell ⟨go,j,none⟩ (.int .u32 (q:Int))=W6:=⟨_,rfl⟩
   rw [hW6] at HRo6 HRu6 HRv6 HE6
   rw [hW6]
   clear hW6 co fo
   go_loopg [17,157] (n+1) (fun kk cv iv wi=>∃ (i c:Nat) (p:List Nat),kk+i=n+1∧i≤n+1∧iv = .int .i64 i∧cv = .int .u64 c∧c≤1∧Hid (BackInv gu (pu.take j) x' (List.replicate (m - (j+1)) 0) pv wi i c p)∧Hid (ExtBut (fun g=>g=gu) W6 wi))
   case atStart=>exact ⟨0,0,[],rfl,Nat.zero_le _,rfl,rfl,by omega,⟨rfl,by simp,by simpa using HRu6.out,by simp [ofD]⟩,ExtBut.refl _ _⟩
   obtain ⟨i,c,p,hki,hi,rfl,rfl,hc,HBI,HEB⟩:=hrel
   by_cases hin:i < n+1
   ·obtain ⟨xi,hxi⟩:∃ xi,x'[i]? = some xi:=⟨_,List.getElem?_eq_getElem (by have:=HLX.out;omega)⟩
    have hxl:=zBk HP.out.lt hxi
    have cx:=HBI.out.row.cell (win_at HPL.out (zCS HBI.out.len hxi))
    have fx:=HBI.out.row.free (j+i)
    have HXI:=zH hxi
    by_cases hiv:i < n
    ·obtain ⟨yi,hyi⟩:∃ yi,pv[i]? = some yi:=⟨_,List.getElem?_eq_getElem (by have:=HPV.out.1;omega)⟩
     have hyl:=zBk HPV.out.2.1 hyi
     have cy:=(HRv6.out.extBut (S:=fun g=>g=gu) HEB.out (show ¬ gv=gu by omega)).cell hyi
     obtain ⟨z,hz⟩:∃ z,(c+xi+yi) % 4294967296=z:=⟨_,rfl⟩
     obtain ⟨c2,hc2⟩:∃ c2,(c+xi+yi) / 4294967296=c2:=⟨_,rfl⟩
     have hzi:((c:Int)+xi+yi) % 4294967296=z:=by omega
     have hci:((c:Int)+xi+yi) / 4294967296=c2:=by omega
     have HQ2:Hid (c+xi+yi=z+4294967296*c2∧z < 4294967296∧c2≤1):=⟨by omega,by omega,by omega⟩
     have HSt:=zH (zA6 x' pv p i c xi yi z c2 (by rw [hxi];rfl) (by rw [hyi];rfl) HBI.out.len HQ2.out.1 HBI.out.val)
     have HRN:Hid (Row (wr.setCell ⟨gu,j+i,none⟩ (.int .u32 (z:Nat))) 133 gu (pu.take j ++ (((p ++ [z]) ++ x'.drop (i+1)) ++ List.replicate (m - (j+1)) 0))):=by
      have:=HBI.out.row.set_ (j+i) z
      rwa [win_set HPL.out (by simp;have:=HBI.out.len;have:=HLX.out;omega),zAq HBI.out.len hxi] at this
     have HXN:=zH (HEB.out.setCell (p:=⟨gu,j+i,none⟩) (.inl rfl) (.int .u32 (z:Nat)))
     have HBL:=zH HBI.out.len
     have HBD:=zH HBI.out.lt
     clear hxi hyi hz hc2 HBI HEB
     go_wp2
     go_roundg (gk - 1)
     case measure=>omega
     case rel=>exact ⟨i+1,c2,p ++ [z],by omega,by omega,by go_num,rfl,HQ2.out.2.2,⟨by simp [HBL.out],by
      intro d hd
      rcases List.mem_append.1 hd with hd|hd
      ·exact HBD.out d hd
      ·simp at hd;subst hd;exact HQ2.out.2.1,HRN.out,HSt.out⟩,HXN⟩
    ·obtain ⟨z,hz⟩:∃ z,(c+xi) % 4294967296=z:=⟨_,rfl⟩
     obtain ⟨c2,hc2⟩:∃ c2,(c+xi) / 4294967296=c2:=⟨_,rfl⟩
     have hzi:((c:Int)+xi) % 4294967296=z:=by omega
     have hci:((c:Int)+xi) / 4294967296=c2:=by omega
     have HQ2:Hid (c+xi+0=z+4294967296*c2∧z < 4294967296∧c2≤1):=⟨by omega,by omega,by omega⟩
     have HSt:=zH (zA6 x' pv p i c xi 0 z c2 (by rw [hxi];rfl) (by rw [List.getElem?_eq_none (by have:=HPV.out.1;omega)];rfl) HBI.out.len HQ2.out.1 HBI.out.val)
     have HRN:Hid (Row (wr.setCell ⟨gu,j+i,none⟩ (.int .u32 (z:Nat))) 133 gu (pu.take j ++ (((p ++ [z]) ++ x'.drop (i+1)) ++ List.replicate (m - (j+1)) 0))):=by
      have:=HBI.out.row.set_ (j+i) z
      rwa [win_set HPL.out (by simp;have:=HBI.out.len;have:=HLX.out;omega),zAq HBI.out.len hxi] at this
     have HXN:=zH (HEB.out.setCell (p:=⟨gu,j+i,none⟩) (.inl rfl) (.int .u32 (z:Nat)))
     have HBL:=zH HBI.out.len
     have HBD:=zH HBI.out.lt
     clear hxi hz hc2 HBI HEB
     go_wp2
     go_roundg (gk - 1)
     case measure=>omega
     case rel=>exact ⟨i+1,c2,p ++ [z],by omega,by omega,by go_num,rfl,HQ2.out.2.2,⟨by simp [HBL.out],by
      intro d hd
      rcases List.mem_append.1 hd with hd|hd
      ·exact HBD.out d hd
      ·simp at hd;subst hd;exact HQ2.out.2.1,HRN.out,HSt.out⟩,HXN⟩
   ·obtain rfl:i=n+1:=by omega
    have hpl:=HBI.out.len
    have hpM:=zBs p HBI.out.lt
    rw [hpl] at hpM
    have hval:=HBI.out.val
    rw [List.take_of_length_le (by have:=HLX.out;omega),List.take_of_length_le (l:=pv) (by have:=HPV.out.1;omega)] at hval
    have hxv:=HXV.out
    rw [HS.out.lx] at hxv
    have hmod:=Nat.mod_lt (ofD (u0 :: r)) HS.out.vpos
    have hVM:ofD pv < 4294967296 ^ (n+1):=Nat.lt_trans HVn.out (Nat.pow_lt_pow_right om om)
    have hres:ofD p=ofD (u0 :: r) % ofD pv:=by
     generalize ofD (u0 :: r) % ofD pv=rr at *
     generalize 4294967296 ^ (n+1)=MM at *
     rcases Nat.eq_zero_or_pos c with h0|h0
     ·subst h0;omega
     ·obtain rfl:c=1:=by omega
      omega
    have hru:=HBI.out.row
    rw [List.drop_eq_nil_of_le (by have:=HLX.out;omega),List.append_nil] at hru
    have hro:=HRo6.out.extBut (S:=fun g=>g=gu) HEB.out (show ¬ go=gu by omega)
    rw [← HQQ.out] at hro
    have HN:=zH (HI.out.next HU0.out hpl HBI.out.lt hres HVn.out HqB.out hru hro)
    have HE7:Hid (ExtBut (fun g=>g=gu∨g=go) W3 wr):=HE6.out.trans (HEB.out.mono (T:=fun g=>g=gu∨g=go) (fun g hg _=>.inl hg))
    clear hpl hpM hval hxv hmod hVM hres hru hro HBI HEB
    go_wp2
    go_roundg j
    case measure=>omega
    case rel=>exact ⟨_,_,by omega,rfl,HN,HE7⟩
theorem Div_zero (A B:Option Addr) (k a:Nat) (w:World) :
  Calls Tryz.prog 149 #[.agg #[.slice A k k],.agg #[.slice B 0 0]] w fun e w'=>e = .returned (.tuple #[.agg #[.slice none 0 0],.agg #[.slice none 0 0],.int .i64 11])∧Ext w w':=by
 go_enter Tryz.func149,Tryz.ntmps149
 go_wp2
 refine bodyPost_ret (v:=.tuple #[.agg #[.slice none 0 0],.agg #[.slice none 0 0],.int .i64 11]) (by simp [results,Tryz.results149,go_sem]) rfl ⟨rfl,?_⟩
 exact (by repeat (first|exact (Ext.refl w)|refine Ext.alloc ?_ _))
theorem Div_less (A B:Option Addr) (k m a b:Nat) (w:World) (ha:IsNat w A k a) (hb:IsNat w B m b) (hk:k≤10000) (hm:m≤10000) (hb0:0 < b) (hab:a < b) :
  Calls Tryz.prog 149 #[.agg #[.slice A k k],.agg #[.slice B m m]] w fun e w'=>e = .returned (.tuple #[.agg #[.slice none 0 0],.agg #[.slice A k k],.int .i64 0])∧Ext w w':=by
 have hm0:0 < m:=by have:=hb.k_zero;omega
 have hne:((m:Int) == 0)=false:=by rw [beq_eq_false_iff_ne];omega
 obtain ⟨W0,HWW0,hXW0,hsW0,c0,f0,c1,f1,c2,f2,c3,f3⟩:=bx1111 w 47 47 47 47 (.slice A k k) (.slice B m m) (.slice none 0 0) (.slice none 0 0)
 have HC:=zH (zBS A B k m a b W0 (ha.ext hXW0) (hb.ext hXW0) om om)
 have e:cmpN a b = -1:=if_pos hab
 rw [e] at HC
 have HX:=zH hXW0
 clear ha hb e hXW0
 go_enter Tryz.func149,Tryz.ntmps149
 go_wp2_with fail
 rw [HWW0.out]
 refine HC.out.mono ?_
 rintro e w1 ⟨rfl,hx⟩
 replace c0:=hx.cell c0
 replace c1:=hx.cell c1
 replace f2:=hx.free f2 (zAA c2)
 replace c2:=hx.cell c2
 replace f3:=hx.free f3 (zAA c3)
 replace c3:=hx.cell c3
 have hX:=zH (HX.out.trans hx)
 clear hx HWW0 HC
 go_wp2
 go_region
 go_wp2
 have y3:(w1.setCell ⟨w.heap.size+1+1,0,none⟩ (.slice none 0 0)).cell? ⟨w.heap.size+1+1+1,0,none⟩=some (.slice none 0 0):=by
  rw [World.cell?_setCell_other _ _ _ _ (by intro h;injection h with h1 _;omega)];exact c3
 have y2:=setc (v:=.slice none 0 0) c2
 have z3:=setc (v:=.slice A k k) y3
 have z2:((w1.setCell ⟨w.heap.size+1+1,0,none⟩ (.slice none 0 0)).setCell ⟨w.heap.size+1+1+1,0,none⟩ (.slice A k k)).cell? ⟨w.heap.size+1+1,0,none⟩=some (.slice none 0 0):=by
  rw [World.cell?_setCell_other _ _ _ _ (by intro h;injection h with h1 _;omega)];exact y2
 refine bodyPost_ret (v:=.tuple #[.agg #[.slice none 0 0],.agg #[.slice A k k],.int .i64 0]) (by simp [results,Tryz.results149,go_sem,z2,z3]) rfl ⟨rfl,(by repeat (first|exact hX.out|refine Ext.drew ?_|refine Ext.setCell ?_ (by first|(simp only [];omega)) _))⟩
set_option maxRecDepth 100000 in
theorem Div_short (A:Option Addr) (B:Option Addr) (k a b:Nat) (w:World) (ha:IsNat w A k a) (hb:IsNat w B 1 b) (hk:k≤10000) (hab:b≤a) :
  Calls Tryz.prog 149 #[.agg #[.slice A k k],.agg #[.slice B 1 1]] w fun e w'=>∃ A1 k1 A2 k2,e = .returned (.tuple #[.agg #[.slice A1 k1 k1],.agg #[.slice A2 k2 k2],.int .i64 0])∧IsNat w' A1 k1 (a / b)∧IsNat w' A2 k2 (a % b)∧Ext w w':=by
 have hb0:0 < b:=by have:=hb.k_zero;omega
 have hk0:0 < k:=by have:=ha.k_zero;omega
 obtain ⟨bb,bo,d,rfl,hbb,hd,hdl,cd⟩:=hb.cell 0 om
 rw [Nat.add_zero] at cd
 obtain ⟨ab,ao,d',rfl,hab',hd',hdl',cd'⟩:=ha.cell 0 om
 have hdb:b=d:=by
  have h1:=hb.1
  have h2:=zAH b
  match hh:digs b,h1 with
  | [x],_=>rw [hh] at hd h2;simp at hd;simp [ofD] at h2;omega
 subst hdb
 obtain ⟨W0,HWW0,hXW0,hsW0,c0,f0,c1,f1,c2,f2,c3,f3⟩:=bx1111 w 47 47 47 47 (.slice (some ⟨ab,ao,none⟩) k k) (.slice (some ⟨bb,bo,none⟩) 1 1) (.slice none 0 0) (.slice none 0 0)
 have HC:=zH (zBS _ _ k 1 a b W0 (ha.ext hXW0) (hb.ext hXW0) om om)
 have hc0:0≤cmpN a b:=by unfold cmpN;rw [if_neg om];split <;> omega
 replace cd:=hXW0.cell cd
 have HX:=zH hXW0
 have HA:=zH (ha.ext hXW0)
 clear ha hb hXW0 hd' cd' hd
 go_enter Tryz.func149,Tryz.ntmps149
 go_wp2_with fail
 rw [HWW0.out]
 refine HC.out.mono ?_
 rintro e w1 ⟨rfl,hx⟩
 replace c0:=hx.cell c0
 replace c1:=hx.cell c1
 replace f2:=hx.free f2 (zAA c2)
 replace c2:=hx.cell c2
 replace f3:=hx.free f3 (zAA c3)
 replace c3:=hx.cell c3
 replace cd:=hx.cell cd
 have hX:=zH (HX.out.trans hx)
 have HA1:=zH (HA.out.ext hx)
 have hs1:w.heap.size+4≤w1.heap.size:=Nat.le_trans hsW0 hx.size
 clear hx HWW0 HC HX HA hsW0
 obtain ⟨i0,hi,hz0,hz1,hz2⟩:=info_parts Tryz.infoU32
 have hlen:((digs a).map fun d:Nat=>Value.int .u32 (d:Int)).length=k*1:=by rw [List.length_map,Nat.mul_one];exact HA1.out.1.symm
 have hcells:∀ (j:Nat) u,((digs a).map fun d:Nat=>Value.int .u32 (d:Int))[j]? = some u→w1.cell? ((⟨ab,ao,none⟩:Addr).add j)=some u:=by
  intro j u hj
  rw [List.getElem?_map] at hj
  cases hh:(digs a)[j]? with
  | none=>rw [hh] at hj;cases hj
  | some x =>
   rw [hh] at hj
   simp only [Option.map_some,Option.some.injEq] at hj
   subst hj
   obtain ⟨b1,o1,e1,_,h1⟩:=HA1.out.2 (by rw [← HA1.out.1];exact hk0)
   obtain ⟨rfl,rfl⟩:ab=b1∧ao=o1:=by simpa using e1
   rw [← h1 j x hh]
   unfold Addr.add
   split
   ·subst_vars;rfl
   ·rfl
 have H1c:∀ u∈((digs a).map fun d:Nat=>Value.int .u32 (d:Int)),u.oneCell'=true:=by
  intro v hv
  obtain ⟨x,_,rfl⟩:=List.mem_map.1 hv
  rfl
 have HA2:=zH hlen
 have HA3:=zH hcells
 have HA4:=zH H1c
 have HI:=zH (show _∧_ from ⟨hi,hz0⟩)
 clear hlen hcells H1c
 go_wp2_with (at_builtin;refine wpList_append_own _ rfl _ _ 45 rfl w1.heap.size 133 i0 (.int .u32 0) 1 4 Tryz.underlying45 hi hz0 hz1 hz2 rfl (by decide) (.slice none 0 0) 0 [] rfl ⟨rfl,.inl ⟨rfl,rfl⟩⟩ ⟨ab,ao,none⟩ k k _ rfl HA2.out HA3.out HA4.out ?c1 ?c2 (Nat.le_refl _) ?_)
 case c1=>unfold maxLen;omega
 case c2=>omega
 intro v' w2 hown hgrow _
 rcases hown.2 with ⟨_,h0⟩|⟨g,cap,cur,rfl,hg,hh,hnc,hcm,hcs,hct⟩
 ·omega
 have hX2:Ext w1 w2:=(Ext.refl w1).grown hgrow (by simp [Value.ownBlock])
 have hRX:RowX w2 133 g (digs a) (cur.toList.drop k):=by
  rw [Nat.mul_one] at hct
  unfold RowX
  rw [hh,← hct,List.take_append_drop]
 replace f2:=hX2.free f2 (zAA c2)
 replace c2:=hX2.cell c2
 replace f3:=hX2.free f3 (zAA c3)
 replace c3:=hX2.cell c3
 replace c1:=hX2.cell c1
 replace cd:=hX2.cell cd
 have hX':=zH (hX.out.trans hX2)
 have HRX:=zH hRX
 have HSh:=zH (short_any g k cap (digs a) b _ w2 HA1.out.1 om (zAS a) hb0 hdl hRX)
 have hgs:w.heap.size+4≤g:=Nat.le_trans hs1 hg
 have hcm2:cap≤1099511627776∨1099511627776 < cap:=by omega
 clear hX2 hRX hh hct hcs hown hgrow HA2 HA3 HA4 HI hi hz0 hz1 hz2
 go_wp2_with fail
 refine HSh.out.mono ?_
 rintro e w3 ⟨l',r,rfl,hR3,hl',hd3,hr,hof,hx3⟩
 have d1:=hx3.cell c1 (show ¬ w.heap.size+1=g by omega)
 have d2:=hx3.cell c2 (show ¬ w.heap.size+1+1=g by omega)
 have d3:=hx3.cell c3 (show ¬ w.heap.size+1+1+1=g by omega)
 have g2:=hx3.free f2 (zAA c2) (show ¬ w.heap.size+1+1=g by omega)
 have g3:=hx3.free f3 (zAA c3) (show ¬ w.heap.size+1+1+1=g by omega)
 have HX3:=zH (hX'.out.but hx3 (by rintro g' rfl;omega))
 have HCut:=zH (zBU (some ⟨g,0,none⟩) k cap l' w3 hl'.symm hnc ?cc hd3 hR3.digs)
 case cc=>omega
 have HV:Hid (ofD l'=a / b∧r=a % b):=by
  rw [zAH] at hof
  have h1:=Nat.div_mod_unique (a:=a) (b:=b) (d:=ofD l') (c:=r) hb0
  have h2:=h1.2 ⟨by rw [hof,Nat.mul_comm];omega,hr⟩
  exact ⟨h2.1.symm,h2.2.symm⟩
 clear hx3 hR3 hl' hd3 hof c1 c2 c3 f2 f3 cd HSh HRX hX' hX HA1
 go_wp2_with fail
 refine HCut.out.mono ?_
 rintro e w4 ⟨k4,rfl,hn4,hk4,hx4⟩
 replace g2:=hx4.free g2 (zAA d2)
 replace d2:=hx4.cell d2
 replace g3:=hx4.free g3 (zAA d3)
 replace d3:=hx4.cell d3
 have HX4:=zH (HX3.out.trans hx4)
 have HN4:=zH hn4
 have HOf:=zH (of_any r w4 om)
 have hr0:(0:Int)≤r:=by omega
 clear hx4 hn4 HX3 HCut
 go_wp2_with fail
 refine HOf.out.mono ?_
 rintro e w5 ⟨A2,k2,rfl,hn5,hk5,hx5⟩
 replace g2:=hx5.free g2 (zAA d2)
 replace d2:=hx5.cell d2
 replace g3:=hx5.free g3 (zAA d3)
 replace d3:=hx5.cell d3
 have HX5:=zH (HX4.out.trans hx5)
 have HN5:=zH hn5
 have HN4':=zH (HN4.out.ext hx5)
 clear hx5 hn5 HX4 HN4 HOf
 have y3:(w5.setCell ⟨w.heap.size+1+1,0,none⟩ (.slice (some ⟨g,0,none⟩) k4 k4)).cell? ⟨w.heap.size+1+1+1,0,none⟩=some (.slice none 0 0):=by
  rw [World.cell?_setCell_other _ _ _ _ (by intro h;injection h with h1 _;omega)];exact d3
 have y2:=setc (v:=.slice (some ⟨g,0,none⟩) k4 k4) d2
 have z3:=setc (v:=.slice A2 k2 k2) y3
 have z2:((w5.setCell ⟨w.heap.size+1+1,0,none⟩ (.slice (some ⟨g,0,none⟩) k4 k4)).setCell ⟨w.heap.size+1+1+1,0,none⟩ (.slice A2 k2 k2)).cell? ⟨w.heap.size+1+1,0,none⟩=some (.slice (some ⟨g,0,none⟩) k4 k4):=by
  rw [World.cell?_setCell_other _ _ _ _ (by intro h;injection h with h1 _;omega)];exact y2
 go_wp2
 refine bodyPost_ret (v:=.tuple #[.agg #[.slice (some ⟨g,0,none⟩) k4 k4],.agg #[.slice A2 k2 k2],.int .i64 0]) (by simp [results,Tryz.results149,go_sem,z2,z3]) rfl ⟨_,k4,A2,k2,rfl,?_,?_,(by repeat (first|exact HX5.out|refine Ext.setCell ?_ (by first|(simp only [];omega)) _))⟩
 ·rw [← HV.out.1];exact (HN4'.out.setBox d2 _).setBox y3 _
 ·rw [← HV.out.2];exact (HN5.out.setBox d2 _).setBox y3 _
set_option maxRecDepth 100000 in
theorem Div_long (A:Option Addr) (B:Option Addr) (k m a b:Nat) (w:World) (ha:IsNat w A k a) (hb:IsNat w B m b) (hk:k≤10000) (hm:2≤m) (hab:b≤a) :
  Calls Tryz.prog 149 #[.agg #[.slice A k k],.agg #[.slice B m m]] w fun e w'=>∃ A1 k1 A2 k2,e = .returned (.tuple #[.agg #[.slice A1 k1 k1],.agg #[.slice A2 k2 k2],.int .i64 0])∧IsNat w' A1 k1 (a / b)∧IsNat w' A2 k2 (a % b)∧Ext w w':=by
 have hmk:m≤k:=by rw [hb.1,zAr,ha.1];exact Nat.lt_of_le_of_lt hab (zCY a)
 have hn0:((m:Int) == 0)=false:=by rw [beq_eq_false_iff_ne];omega
 have hn1:((m:Int) == 1)=false:=by rw [beq_eq_false_iff_ne];omega
 obtain ⟨W0,HWW0,hXW0,hsW0,c0,f0,c1,f1,c2,f2,c3,f3⟩:=bx1111 w 47 47 47 47 (.slice A k k) (.slice B m m) (.slice none 0 0) (.slice none 0 0)
 have HC:=zH (zBS _ _ k m a b W0 (ha.ext hXW0) (hb.ext hXW0) om om)
 have hc0:0≤cmpN a b:=by unfold cmpN;rw [if_neg om];split <;> omega
 have HX:=zH hXW0
 have HA:=zH (ha.ext hXW0)
 have HB:=zH (hb.ext hXW0)
 clear ha hb hXW0
 go_enter Tryz.func149,Tryz.ntmps149
 go_wp2_with fail
 rw [HWW0.out]
 refine HC.out.mono ?_
 rintro e w1 ⟨rfl,hx⟩
 replace c0:=hx.cell c0
 replace c1:=hx.cell c1
 replace f2:=hx.free f2 (zAA c2)
 replace c2:=hx.cell c2
 replace f3:=hx.free f3 (zAA c3)
 replace c3:=hx.cell c3
 have hX:=zH (HX.out.trans hx)
 have HLo:=zH (long_any A B k m a b w1 (HA.out.ext hx) (HB.out.ext hx) hk hm hab)
 clear hx HWW0 HC HX HA HB
 go_wp2_with fail
 refine HLo.out.mono ?_
 rintro e w5 ⟨A1,k4,A2,k2,rfl,hn4,hn5,hx5⟩
 replace f2:=hx5.free f2 (zAA c2)
 replace c2:=hx5.cell c2
 replace f3:=hx5.free f3 (zAA c3)
 replace c3:=hx5.cell c3
 have HX5:=zH (hX.out.trans hx5)
 have HN5:=zH hn5
 have HN4:=zH hn4
 clear hx5 hn5 hn4 hX HLo c0 c1
 have y3:(w5.setCell ⟨w.heap.size+1+1,0,none⟩ (.slice A1 k4 k4)).cell? ⟨w.heap.size+1+1+1,0,none⟩=some (.slice none 0 0):=by
  rw [World.cell?_setCell_other _ _ _ _ (by intro h;injection h with h1 _;omega)];exact c3
 have y2:=setc (v:=.slice A1 k4 k4) c2
 have z3:=setc (v:=.slice A2 k2 k2) y3
 have z2:((w5.setCell ⟨w.heap.size+1+1,0,none⟩ (.slice A1 k4 k4)).setCell ⟨w.heap.size+1+1+1,0,none⟩ (.slice A2 k2 k2)).cell? ⟨w.heap.size+1+1,0,none⟩=some (.slice A1 k4 k4):=by
  rw [World.cell?_setCell_other _ _ _ _ (by intro h;injection h with h1 _;omega)];exact y2
 have HN4':=zH ((HN4.out.setBox c2 (.slice A1 k4 k4)).setBox y3 (.slice A2 k2 k2))
 have HN5':=zH ((HN5.out.setBox c2 (.slice A1 k4 k4)).setBox y3 (.slice A2 k2 k2))
 have HX6:Hid (Ext w ((w5.setCell ⟨w.heap.size+1+1,0,none⟩ (.slice A1 k4 k4)).setCell ⟨w.heap.size+1+1+1,0,none⟩ (.slice A2 k2 k2))):=(by repeat (first|exact HX5.out|refine Ext.setCell ?_ (by first|(simp only [];omega)) _))
 go_wp2
 have h6f2:((w5.setCell ⟨w.heap.size+1+1,0,none⟩ (.slice A1 k4 k4)).setCell ⟨w.heap.size+1+1+1,0,none⟩ (.slice A2 k2 k2)).frozen? ⟨w.heap.size+1+1,0,none⟩=false:=by simp [f2]
 have h6f3:((w5.setCell ⟨w.heap.size+1+1,0,none⟩ (.slice A1 k4 k4)).setCell ⟨w.heap.size+1+1+1,0,none⟩ (.slice A2 k2 k2)).frozen? ⟨w.heap.size+1+1+1,0,none⟩=false:=by simp [f3]
 obtain ⟨W6,hW6⟩:∃ W6,(w5.setCell ⟨w.heap.size+1+1,0,none⟩ (.slice A1 k4 k4)).setCell ⟨w.heap.size+1+1+1,0,none⟩ (.slice A2 k2 k2)=W6:=⟨_,rfl⟩
 rw [hW6] at z2 z3 h6f2 h6f3 HX6 HN4' HN5'
 rw [hW6]
 clear hW6 y2 y3 c2 c3 f2 f3
 go_region
 go_wp2
 have y3:(W6.setCell ⟨w.heap.size+1+1,0,none⟩ (.slice A1 k4 k4)).cell? ⟨w.heap.size+1+1+1,0,none⟩=some (.slice A2 k2 k2):=by
  rw [World.cell?_setCell_other _ _ _ _ (by intro h;injection h with h1 _;omega)];exact z3
 have y2:=setc (v:=.slice A1 k4 k4) z2
 have x3:=setc (v:=.slice A2 k2 k2) y3
 have x2:((W6.setCell ⟨w.heap.size+1+1,0,none⟩ (.slice A1 k4 k4)).setCell ⟨w.heap.size+1+1+1,0,none⟩ (.slice A2 k2 k2)).cell? ⟨w.heap.size+1+1,0,none⟩=some (.slice A1 k4 k4):=by
  rw [World.cell?_setCell_other _ _ _ _ (by intro h;injection h with h1 _;omega)];exact y2
 refine bodyPost_ret (v:=.tuple #[.agg #[.slice A1 k4 k4],.agg #[.slice A2 k2 k2],.int .i64 0]) (by simp [results,Tryz.results149,go_sem,x2,x3]) rfl ⟨_,k4,A2,k2,rfl,?_,?_,(by repeat (first|exact HX6.out|refine Ext.drew ?_|refine Ext.setCell ?_ (by first|(simp only [];omega)) _))⟩
 ·exact (HN4'.out.setBox z2 _).setBox y3 _
 ·exact (HN5'.out.setBox z2 _).setBox y3 _
theorem zCh (A B:Option Addr) (k m a b:Nat) (w:World) (ha:IsNat w A k a) (hb:IsNat w B m b) (hk:k≤10000) (hm:m≤10000) (hb0:b≠0) :
  Calls Tryz.prog 149 #[.agg #[.slice A k k],.agg #[.slice B m m]] w fun e w'=>∃ A1 k1 A2 k2,e = .returned (.tuple #[.agg #[.slice A1 k1 k1],.agg #[.slice A2 k2 k2],.int .i64 0])∧IsNat w' A1 k1 (a / b)∧IsNat w' A2 k2 (a % b)∧Ext w w':=by
 rcases Nat.lt_or_ge a b with h|h
 ·refine (Div_less A B k m a b w ha hb hk hm om h).mono fun e w' ⟨he,hx⟩=>⟨none,0,A,k,he,?_,?_,hx⟩
  ·rw [Nat.div_eq_of_lt h];exact zA3 _
  ·rw [Nat.mod_eq_of_lt h];exact ha.ext hx
 ·have hm0:m≠0:=fun h0=>hb0 (hb.k_zero.1 h0)
  by_cases h1:m=1
  ·subst h1;exact Div_short A B k a b w ha hb hk h
  ·exact Div_long A B k m a b w ha hb hk om h
structure IsInt (w:World) (neg:Bool) (A:Option Addr) (k:Nat) (z:Int):Prop where
 nat:IsNat w A k z.natAbs
 sign:neg=decide (z < 0)
 bits:bitsN z.natAbs≤4096
theorem IsInt.ext {w w':World} {neg:Bool} {A:Option Addr} {k:Nat} {z:Int} (h:IsInt w neg A k z) (hb:Ext w w'):IsInt w' neg A k z:=⟨h.nat.ext hb,h.sign,h.bits⟩
theorem IsInt.setBox {w:World} {neg:Bool} {A:Option Addr} {k:Nat} {z:Int} (h:IsInt w neg A k z) {b o:Nat} {a':Option Addr} {m c:Nat} (hc:w.cell? ⟨b,o,none⟩=some (.slice a' m c)) (u:Value):IsInt (w.setCell ⟨b,o,none⟩ u) neg A k z:=⟨h.nat.setBox hc u,h.sign,h.bits⟩
theorem IsNat.setBool {w:World} {A:Option Addr} {k n:Nat} (h:IsNat w A k n) {b o:Nat} {x:Bool} (hc:w.cell? ⟨b,o,none⟩=some (.bool x)) (u:Value):IsNat (w.setCell ⟨b,o,none⟩ u) A k n:=by
 refine ⟨h.1,fun hl=>?_⟩
 obtain ⟨b',off,e,hlt,hd⟩:=h.2 hl
 refine ⟨b',off,e,hlt.set_ _ _,fun j d hj=>?_⟩
 rw [World.cell?_setCell_other]
 ·exact hd j d hj
 ·intro he
  have:=hd j d hj
  rw [← he,hc] at this
  cases this
theorem IsInt.setBool {w:World} {neg:Bool} {A:Option Addr} {k:Nat} {z:Int} (h:IsInt w neg A k z) {b o:Nat} {x:Bool} (hc:w.cell? ⟨b,o,none⟩=some (.bool x)) (u:Value):IsInt (w.setCell ⟨b,o,none⟩ u) neg A k z:=⟨h.nat.setBool hc u,h.sign,h.bits⟩
theorem zAK {w:World} {A:Option Addr} {k n:Nat} (h:IsNat w A k n) (hb:bitsN n≤4096):k≤128:=by
 rw [h.1];exact zBj n 128 om
theorem IsInt.k {w:World} {neg:Bool} {A:Option Addr} {k:Nat} {z:Int} (h:IsInt w neg A k z):k≤128:=zAK h.nat h.bits
theorem zAd (minus:Bool) (A:Option Addr) (k n:Nat) (w:World) (h:IsNat w A k n) (hb:bitsN n≤4096) :
  Calls Tryz.prog 114 #[.bool minus,.agg #[.slice A k k]] w fun e w'=>e = .returned (.agg #[.bool (minus && decide (n≠0)),.slice A k k])∧Ext w w':=by
 have hk:=zAK h hb
 cases minus
 ·clear h
  go_enter Tryz.func114,Tryz.ntmps114
  go_wp2
  go_region
  go_wp2
  exact bodyPost_ret (v:=.agg #[.bool false,.slice A k k]) (by simp [results,Tryz.results114,go_sem]) rfl ⟨rfl,(by repeat (first|exact (Ext.refl w)|refine Ext.drew ?_|refine Ext.alloc ?_ _))⟩
 ·obtain ⟨W0,hWW0⟩:∃ W0:World,(w.alloc (.cells #[.slice A k k] 47)).alloc (.cells #[.bool false,.slice none 0 0] 49)=W0:=⟨_,rfl⟩
  have hXW0:Ext w W0:=by rw [← hWW0];exact (((Ext.refl w).alloc _).alloc _)
  have hsW0:w.heap.size+2≤W0.heap.size:=by rw [← hWW0];simp only [World.size_alloc];omega
  have c0:W0.cell? ⟨w.heap.size,0,none⟩=some (.slice A k k):=wz
  have f0:W0.frozen? ⟨w.heap.size,0,none⟩=false:=wz
  have c1a:W0.cell? ⟨w.heap.size+1,0,none⟩=some (.bool false):=wz
  have f1a:W0.frozen? ⟨w.heap.size+1,0,none⟩=false:=wz
  have c1b:W0.cell? ⟨w.heap.size+1,1,none⟩=some (.slice none 0 0):=wz
  have f1b:W0.frozen? ⟨w.heap.size+1,1,none⟩=false:=wz
  have HWW0:=zH hWW0
  clear hWW0
  have HC:=fun W (hX:Ext W0 W)=>zAc A k n W ((h.ext hXW0).ext hX) om
  obtain ⟨bt,hbt⟩:∃ bt,bitsN n=bt:=⟨_,rfl⟩
  have hb0:bt=0↔n=0:=by rw [← hbt];exact zCM
  rw [hbt] at HC hb
  obtain ⟨x,hx⟩:∃ x,decide (n≠0)=x:=⟨_,rfl⟩
  have hdx:decide ((0:Int) < (bt:Int))=x:=by
   rw [← hx]
   by_cases h0:n=0
   ·simp [h0];omega
   ·simp [h0];omega
  have hdn:decide (0 < bt)=x:=by rw [← hdx];simp
  rw [hx]
  have HC:=zH HC
  have HX:=zH hXW0
  clear h hXW0 hbt hb0 hx
  go_enter Tryz.func114,Tryz.ntmps114
  go_wp2
  rw [HWW0.out]
  go_region_with (go_at_call 132;refine (HC.out _ (by first|exact (Ext.refl _).drew)).mono ?_;rintro e w1 ⟨rfl,hx⟩;have d0:=hx.cell c0;have e0:=hx.cell c1a;have e1:=hx.cell c1b;have g0:=hx.free f1a (zAA c1a);have g1:=hx.free f1b (zAA c1b))
  all_goals
   have HX1:=zH ((HX.out.drew).trans hx)
   go_wp2
   exact bodyPost_ret (v:=.agg #[.bool x,.slice A k k]) (by simp [results,Tryz.results114,go_sem,e0,e1,hdn]) rfl ⟨rfl,(by repeat (first|exact HX1.out|refine Ext.setCell ?_ (by first|(simp only [];omega)) _))⟩
theorem zOf_neg (z:Int) (w:World) (h0:z < 0) (h1:-9223372036854775808≤z) :
  Calls Tryz.prog 24 #[.int .i64 z] w fun e w'=>∃ A k,e = .returned (.agg #[.bool true,.slice A k k])∧IsInt w' true A k z∧Ext w w':=by
 obtain ⟨n,hn⟩:∃ n:Nat,z.natAbs=n:=⟨_,rfl⟩
 have hz:z = -(n:Int):=by omega
 have hn1:n≤9223372036854775808:=by omega
 have hbn:bitsN n≤4096:=Nat.le_trans ((zAW n 64).2 om) om
 obtain ⟨W0,HWW0,hXW0,hsW0,c0a,f0a,c0b,f0b⟩:=bx2 w 49 (.bool false) (.slice none 0 0)
 have HX:=zH hXW0
 have HC:=zH (of_any n W0 om)
 have e1:IntKind.u64.wrap z=18446744073709551616 - (n:Int):=by show z % 18446744073709551616=_;omega
 have e2:IntKind.u64.wrap (-(18446744073709551616 - (n:Int)))=(n:Int):=by show (-(18446744073709551616 - (n:Int))) % 18446744073709551616=_;omega
 have HZ:=zH (show z.natAbs=n∧bitsN n≤4096 from ⟨hn,hbn⟩)
 have hd:decide (z < 0)=true:=by simp;exact h0
 have hd2:decide (z < 0)=true:=hd
 clear hXW0 hz hn hbn
 go_enter Tryz.func24,Tryz.ntmps24
 go_wp2_with fail
 rw [HWW0.out]
 refine HC.out.mono ?_
 rintro e w1 ⟨A,k,rfl,hn,hk,hx⟩
 replace f0a:=hx.free f0a (zAA c0a)
 replace c0a:=hx.cell c0a
 replace f0b:=hx.free f0b (zAA c0b)
 replace c0b:=hx.cell c0b
 have hX:=zH (HX.out.trans hx)
 have HN:=zH hn
 have y1:(w1.setCell ⟨w.heap.size,0,none⟩ (.bool true)).cell? ⟨w.heap.size,1,none⟩=some (.slice none 0 0):=by
  rw [World.cell?_setCell_other _ _ _ _ (by simp)];exact c0b
 clear hx hn HWW0 HX HC hsW0 hd2
 go_wp2
 refine bodyPost_ret (v:=.agg #[.bool true,.slice A k k]) (by simp [results,Tryz.results24,go_sem,c0a,c0b]) rfl ⟨A,k,rfl,⟨?_,hd.symm,?_⟩,(by repeat (first|exact hX.out|refine Ext.setCell ?_ (by first|exact Nat.le_refl _) _))⟩
 ·rw [HZ.out.1];exact (HN.out.setBool c0a _).setBox y1 _
 ·rw [HZ.out.1];exact HZ.out.2
theorem zBi (z:Int) (w:World) (h0:0≤z) (h1:z≤9223372036854775807) :
  Calls Tryz.prog 24 #[.int .i64 z] w fun e w'=>∃ A k,e = .returned (.agg #[.bool false,.slice A k k])∧IsInt w' false A k z∧Ext w w':=by
 obtain ⟨n,hn⟩:∃ n:Nat,z=n:=⟨z.toNat,by omega⟩
 subst hn
 have hbn:bitsN n≤4096:=Nat.le_trans ((zAW n 64).2 om) om
 obtain ⟨W0,HWW0,hXW0,hsW0,c0a,f0a,c0b,f0b⟩:=bx2 w 49 (.bool false) (.slice none 0 0)
 have HX:=zH hXW0
 have HC:=zH (of_any n W0 om)
 have e1:IntKind.u64.wrap (n:Int)=(n:Int):=zAk _ om om
 have hd:decide ((n:Int) < 0)=false:=by simp
 have HB:=zH hbn
 clear hXW0 hbn
 go_enter Tryz.func24,Tryz.ntmps24
 go_wp2_with fail
 rw [HWW0.out]
 refine HC.out.mono ?_
 rintro e w1 ⟨A,k,rfl,hn,hk,hx⟩
 replace f0a:=hx.free f0a (zAA c0a)
 replace c0a:=hx.cell c0a
 replace f0b:=hx.free f0b (zAA c0b)
 replace c0b:=hx.cell c0b
 have hX:=zH (HX.out.trans hx)
 have HN:=zH hn
 have y1:(w1.setCell ⟨w.heap.size,0,none⟩ (.bool false)).cell? ⟨w.heap.size,1,none⟩=some (.slice none 0 0):=by
  rw [World.cell?_setCell_other _ _ _ _ (by simp)];exact c0b
 clear hx hn HWW0 HX HC hsW0
 go_wp2
 refine bodyPost_ret (v:=.agg #[.bool false,.slice A k k]) (by simp [results,Tryz.results24,go_sem,c0a,c0b]) rfl ⟨A,k,rfl,⟨?_,hd.symm,?_⟩,(by repeat (first|exact hX.out|refine Ext.setCell ?_ (by first|exact Nat.le_refl _) _))⟩
 ·rw [Int.natAbs_natCast];exact (HN.out.setBool c0a _).setBox y1 _
 ·rw [Int.natAbs_natCast];exact HB.out
theorem zOf_any (z:Int) (w:World) (h0:-9223372036854775808≤z) (h1:z≤9223372036854775807) :
  Calls Tryz.prog 24 #[.int .i64 z] w fun e w'=>∃ n A k,e = .returned (.agg #[.bool n,.slice A k k])∧IsInt w' n A k z∧Ext w w':=by
 rcases Int.lt_or_le z 0 with h|h
 ·exact (zOf_neg z w h h0).mono fun e w' ⟨A,k,h⟩=>⟨_,A,k,h⟩
 ·exact (zBi z w h h1).mono fun e w' ⟨A,k,h⟩=>⟨_,A,k,h⟩
def signZ (z:Int):Int:=if z=0 then 0 else if z < 0 then -1 else 1
theorem zBa (neg:Bool) (A:Option Addr) (k:Nat) (z:Int) (w:World) (h:IsInt w neg A k z) :
  Calls Tryz.prog 86 #[.agg #[.bool neg,.slice A k k]] w fun e w'=>e = .returned (.int .i64 (signZ z))∧Ext w w':=by
 obtain ⟨W0,HWW0,hXW0,hsW0,c0a,f0a,c0b,f0b⟩:=bx2 w 49 (.bool neg) (.slice A k k)
 have HX:=zH hXW0
 have hk:=h.k
 obtain ⟨bt,hbt⟩:∃ bt,bitsN z.natAbs=bt:=⟨_,rfl⟩
 have HC:=zH (zAc A k z.natAbs W0 (h.nat.ext hXW0) om)
 rw [hbt] at HC
 have hz0:bt=0↔z=0:=by rw [← hbt,zCM];omega
 have hs:=h.sign
 have hbb:bt≤4096:=hbt ▸ h.bits
 by_cases h0:z=0
 ·have hb0:((bt:Int) == 0)=true:=by rw [beq_iff_eq];have:=hz0.2 h0;omega
  have HS:Hid (signZ z=0):=by unfold signZ Hid;rw [if_pos h0]
  clear hXW0 h hbt hz0 hs h0
  go_enter Tryz.func86,Tryz.ntmps86
  go_wp2_with fail
  rw [HWW0.out]
  refine HC.out.mono ?_
  rintro e w1 ⟨rfl,hx⟩
  have hX:=zH (HX.out.trans hx)
  clear hx HWW0 HX HC
  go_wp2
  go_ret
  exact ⟨zBf HS.out.symm,hX.out⟩
 ·have hb0:((bt:Int) == 0)=false:=by rw [beq_eq_false_iff_ne];omega
  rcases Int.lt_or_le z 0 with h1|h1
  ·obtain rfl:neg=true:=by rw [hs];simp;exact h1
   have HS:Hid (signZ z = -1):=by unfold signZ Hid;rw [if_neg h0,if_pos h1]
   clear hXW0 h hbt hz0 hs h0 h1
   go_enter Tryz.func86,Tryz.ntmps86
   go_wp2_with fail
   rw [HWW0.out]
   refine HC.out.mono ?_
   rintro e w1 ⟨rfl,hx⟩
   replace c0a:=hx.cell c0a
   replace c0b:=hx.cell c0b
   have hX:=zH (HX.out.trans hx)
   clear hx HWW0 HX HC
   go_wp2
   go_ret
   exact ⟨zBf HS.out.symm,hX.out⟩
  ·obtain rfl:neg=false:=by rw [hs];simp;exact h1
   have HS:Hid (signZ z=1):=by unfold signZ Hid;rw [if_neg h0,if_neg om]
   clear hXW0 h hbt hz0 hs h0 h1
   go_enter Tryz.func86,Tryz.ntmps86
   go_wp2_with fail
   rw [HWW0.out]
   refine HC.out.mono ?_
   rintro e w1 ⟨rfl,hx⟩
   replace c0a:=hx.cell c0a
   replace c0b:=hx.cell c0b
   have hX:=zH (HX.out.trans hx)
   clear hx HWW0 HX HC
   go_wp2
   go_ret
   exact ⟨zBf HS.out.symm,hX.out⟩
theorem Neg_any (neg:Bool) (A:Option Addr) (k:Nat) (z:Int) (w:World) (h:IsInt w neg A k z) :
  Calls Tryz.prog 131 #[.agg #[.bool neg,.slice A k k]] w fun e w'=>∃ n,e = .returned (.agg #[.bool n,.slice A k k])∧IsInt w' n A k (-z)∧Ext w w':=by
 obtain ⟨W0,HWW0,hXW0,hsW0,c0a,f0a,c0b,f0b,c1a,f1a,c1b,f1b⟩:=bx22 w 49 49 (.bool neg) (.slice A k k) (.bool false) (.slice none 0 0)
 have HX:=zH hXW0
 have HC:=zH (zAd (!neg) A k z.natAbs W0 (h.nat.ext hXW0) h.bits)
 have HH:=zH (h.ext hXW0)
 have hnot:∀ (x:Bool) (w:World),(Op.unary .not (.bool x)).run Tryz.prog w = .ok (.bool (!x)) w:=fun _ _=>rfl
 obtain ⟨n,hn⟩:∃ n,(!neg && decide (z.natAbs≠0))=n:=⟨_,rfl⟩
 rw [hn] at HC
 have HS:Hid (n=decide (-z < 0)):=by
  unfold Hid
  rw [← hn,h.sign]
  rcases Int.lt_trichotomy z 0 with h1|h1|h1
  ·have e1:decide (z < 0)=true:=by simp;exact h1
   have e2:decide (-z < 0)=false:=by simp;omega
   rw [e1,e2];rfl
  ·subst h1;rfl
  ·have e1:decide (z < 0)=false:=by simp;omega
   have e2:decide (-z < 0)=true:=by simp;omega
   have e3:decide (z.natAbs≠0)=true:=by simp;omega
   rw [e1,e2,e3];rfl
 clear hXW0 h hn
 go_enter Tryz.func131,Tryz.ntmps131
 go_wp2_with fail
 rw [HWW0.out]
 refine HC.out.mono ?_
 rintro e w1 ⟨rfl,hx⟩
 replace f1a:=hx.free f1a (zAA c1a)
 replace c1a:=hx.cell c1a
 replace f1b:=hx.free f1b (zAA c1b)
 replace c1b:=hx.cell c1b
 have hX:=zH (HX.out.trans hx)
 have HN:=zH (HH.out.ext hx)
 have y1:(w1.setCell ⟨w.heap.size+1,0,none⟩ (.bool n)).cell? ⟨w.heap.size+1,1,none⟩=some (.slice none 0 0):=by
  rw [World.cell?_setCell_other _ _ _ _ (by simp)];exact c1b
 clear hx HWW0 HX HC hsW0 HH
 go_wp2
 refine bodyPost_ret (v:=.agg #[.bool n,.slice A k k]) (by simp [results,Tryz.results131,go_sem,c1a,c1b]) rfl ⟨n,rfl,⟨?_,HS.out,?_⟩,(by repeat (first|exact hX.out|refine Ext.setCell ?_ (by first|(simp only [];omega)) _))⟩
 ·rw [Int.natAbs_neg];exact (HN.out.nat.setBool c1a _).setBox y1 _
 ·rw [Int.natAbs_neg];exact HN.out.bits
def fitN (n:Nat):Nat:=if bitsN n≤4096 then n else 0
def codeN (n:Nat):Int:=if bitsN n≤4096 then 0 else 3
def fitZ (z:Int):Int:=if bitsN z.natAbs≤4096 then z else 0
def codeZ (z:Int):Int:=if bitsN z.natAbs≤4096 then 0 else 3
theorem zAg (n:Nat):bitsN (fitN n)≤4096:=by unfold fitN;split;assumption;simp [bitsN]
theorem zCu (z:Int):(fitZ z).natAbs=fitN z.natAbs:=by unfold fitZ fitN;split <;> rfl
theorem codeZ_abs (z:Int):codeZ z=codeN z.natAbs:=rfl
theorem zAG {a b:Nat} (h:a≤b):bitsN a≤bitsN b:=(zAW a _).2 (Nat.lt_of_le_of_lt h ((zAW b _).1 (Nat.le_refl _)))
theorem Mul_any (A B:Option Addr) (k m a b:Nat) (w:World) (ha:IsNat w A k a) (hb:IsNat w B m b) (hA:bitsN a≤4096) (hB:bitsN b≤4096) :
  Calls Tryz.prog 113 #[.agg #[.slice A k k],.agg #[.slice B m m]] w fun e w'=>∃ A' k',e = .returned (.tuple #[.agg #[.slice A' k' k'],.int .i64 (codeN (a*b))])∧IsNat w' A' k' (fitN (a*b))∧Ext w w':=by
 have hk:=zAK ha hA
 have hm:=zAK hb hB
 unfold fitN codeN
 split
 ·rename_i h
  exact (Mul_ok A B k m a b w ha hb om om hA hB h).mono fun e w' ⟨A',k',he,hn,_,hx⟩=>⟨A',k',he,hn,hx⟩
 ·exact (Mul_long A B k m a b w ha hb om om om).mono fun e w' ⟨he,hx⟩=>⟨none,0,he,zA3 _,hx⟩
theorem Add_any (A B:Option Addr) (k m a b:Nat) (w:World) (ha:IsNat w A k a) (hb:IsNat w B m b) (hA:bitsN a≤4096) (hB:bitsN b≤4096) :
  Calls Tryz.prog 115 #[.agg #[.slice A k k],.agg #[.slice B m m]] w fun e w'=>∃ A' k',e = .returned (.tuple #[.agg #[.slice A' k' k'],.int .i64 (codeN (a+b))])∧IsNat w' A' k' (fitN (a+b))∧Ext w w':=by
 have hk:=zAK ha hA
 have hm:=zAK hb hB
 unfold fitN codeN
 split
 ·rename_i h
  exact (Add_ok A B k m a b w ha hb om om h).mono fun e w' ⟨A',k',he,hn,_,hx⟩=>⟨A',k',he,hn,hx⟩
 ·exact (Add_long A B k m a b w ha hb om om om).mono fun e w' ⟨he,hx⟩=>⟨none,0,he,zA3 _,hx⟩
structure GcdInv (w wr:World) (a b:Nat) (A B:Option Addr) (k m a' b':Nat):Prop where
 ca:wr.cell? ⟨w.heap.size,0,none⟩=some (.slice A k k)
 cb:wr.cell? ⟨w.heap.size+1,0,none⟩=some (.slice B m m)
 cc:wr.cell? ⟨w.heap.size+1+1,0,none⟩=some (.slice none 0 0)
 fa:wr.frozen? ⟨w.heap.size,0,none⟩=false
 fb:wr.frozen? ⟨w.heap.size+1,0,none⟩=false
 fc:wr.frozen? ⟨w.heap.size+1+1,0,none⟩=false
 na:IsNat wr A k a'
 nb:IsNat wr B m b'
 ba:bitsN a'≤4096
 bb:bitsN b'≤4096
 gcd:Nat.gcd a' b'=Nat.gcd a b
 ext:Ext w wr
theorem GcdInv.drew {w wr:World} {a b:Nat} {A B:Option Addr} {k m a' b':Nat} (h:GcdInv w wr a b A B k m a' b'):GcdInv w wr.drew a b A B k m a' b' :=
 ⟨h.ca,h.cb,h.cc,h.fa,h.fb,h.fc,h.na.ext (Ext.refl _).drew,h.nb.ext (Ext.refl _).drew,h.ba,h.bb,h.gcd,h.ext.drew⟩
set_option maxHeartbeats 2000000 in
theorem Gcd_any (A B:Option Addr) (k m a b:Nat) (w:World) (ha:IsNat w A k a) (hb:IsNat w B m b) (hA:bitsN a≤4096) (hB:bitsN b≤4096) :
  Calls Tryz.prog 221 #[.agg #[.slice A k k],.agg #[.slice B m m]] w fun e w'=>∃ A' k',e = .returned (.agg #[.slice A' k' k'])∧IsNat w' A' k' (Nat.gcd a b)∧Ext w w':=by
 obtain ⟨W0,hWW0⟩:∃ W0:World,((w.alloc (.cells #[.slice A k k] 47)).alloc (.cells #[.slice B m m] 47)).alloc (.cells #[.slice none 0 0] 47)=W0:=⟨_,rfl⟩
 have hXW0:Ext w W0:=by rw [← hWW0];exact ((((Ext.refl w).alloc _).alloc _).alloc _)
 have hsW0:w.heap.size+3≤W0.heap.size:=by rw [← hWW0];simp only [World.size_alloc];omega
 have c0:W0.cell? ⟨w.heap.size,0,none⟩=some (.slice A k k):=wz
 have f0:W0.frozen? ⟨w.heap.size,0,none⟩=false:=wz
 have c1:W0.cell? ⟨w.heap.size+1,0,none⟩=some (.slice B m m):=wz
 have f1:W0.frozen? ⟨w.heap.size+1,0,none⟩=false:=wz
 have c2:W0.cell? ⟨w.heap.size+1+1,0,none⟩=some (.slice none 0 0):=wz
 have f2:W0.frozen? ⟨w.heap.size+1+1,0,none⟩=false:=wz
 have HWW0:=zH hWW0
 clear hWW0
 have HI0:Hid (GcdInv w W0 a b A B k m a b):=⟨c0,c1,c2,f0,f1,f2,ha.ext hXW0,hb.ext hXW0,hA,hB,rfl,hXW0⟩
 clear ha hb hA hB hXW0 c0 c1 c2 f0 f1 f2
 go_enter Tryz.func221,Tryz.ntmps221
 go_wp2
 rw [HWW0.out]
 clear HWW0
 go_loopg [7] b (fun kk s7 wr=>∃ (A B:Option Addr) (k m a' b':Nat),kk=b'∧Hid (GcdInv w wr a b A B k m a' b'))
 case atStart=>exact ⟨A,B,k,m,a,b,rfl,HI0⟩
 obtain ⟨A,B,k,m,a',b',hkk,HI⟩:=hrel
 have ca:=HI.out.ca
 have cb:=HI.out.cb
 have cc:=HI.out.cc
 have fa:=HI.out.fa
 have fb:=HI.out.fb
 have fc:=HI.out.fc
 have hm0:=HI.out.nb.k_zero
 have hs:w.heap.size+3≤wr.heap.size:=by have:=zAA cc;simp only at this;omega
 by_cases hb0:b'=0
 ·obtain rfl:m=0:=hm0.2 hb0
  have HE:Hid (IsNat wr A k (Nat.gcd a b)):=by
   have:=HI.out.na
   have hg:=HI.out.gcd
   rw [hb0,Nat.gcd_zero_right] at hg
   unfold Hid;rw [← hg];exact this
  have HX:=zH HI.out.ext
  clear HI hb0 hm0 fb fa
  go_wp2
  exact bodyPost_ret (v:=.agg #[.slice A k k]) (by simp [results,Tryz.results221,go_sem,cc]) rfl ⟨A,k,rfl,HE.out.setBox cc _,(by repeat (first|exact HX.out|refine Ext.drew ?_|refine Ext.drewN ?_ _|refine Ext.setCell ?_ (by first|exact Nat.le_refl _|(simp only [];omega)) _|refine Ext.alloc ?_ _))⟩
 ·have hm1:0 < m:=Nat.pos_of_ne_zero fun h=>hb0 (hm0.1 h)
  have hk1:=zAK HI.out.na HI.out.ba
  have hk2:=zAK HI.out.nb HI.out.bb
  have HD:=zH (zCh A B k m a' b' wr HI.out.na HI.out.nb om om hb0)
  have hmi:decide (0 < (m:Int))=true:=by simp;omega
  go_wp2_with fail
  refine HD.out.mono ?_
  rintro e w1 ⟨A1,k1,A2,k2,rfl,hn1,hn2,hx⟩
  replace fa:=hx.free fa (zAA ca)
  replace ca:=hx.cell ca
  replace fb:=hx.free fb (zAA cb)
  replace cb:=hx.cell cb
  replace fc:=hx.free fc (zAA cc)
  replace cc:=hx.cell cc
  have hs1:w.heap.size+3≤w1.heap.size:=Nat.le_trans hs hx.size
  have HX1:=zH (HI.out.ext.trans hx)
  have HB1:=zH (HI.out.nb.ext hx)
  have HN2:=zH hn2
  clear hn1 hn2 HD
  have l0:w.heap.size < w1.heap.size:=by omega
  have l1:w.heap.size+1 < w1.heap.size:=by omega
  have l2:w.heap.size+1+1 < w1.heap.size:=by omega
  go_wp2
  have hl0:w.heap.size < w1.heap.size:=by omega
  obtain ⟨W2,hW2⟩:∃ W2,(w1.alloc (.cells #[.slice A1 k1 k1] 47)).alloc (.cells #[.slice A2 k2 k2] 47)=W2:=⟨_,rfl⟩
  have hx2:Ext w1 W2:=by rw [← hW2];exact ((Ext.refl w1).alloc _).alloc _
  have d2:W2.cell? ⟨w1.heap.size+1,0,none⟩=some (.slice A2 k2 k2):=by rw [← hW2];simp [go_sem]
  rw [hW2]
  replace fa:=hx2.free fa (zAA ca)
  replace ca:=hx2.cell ca
  replace fb:=hx2.free fb (zAA cb)
  replace cb:=hx2.cell cb
  replace fc:=hx2.free fc (zAA cc)
  replace cc:=hx2.cell cc
  have HX2:=zH (HX1.out.trans hx2)
  have HB2:=zH (HB1.out.ext hx2)
  have HN3:=zH (HN2.out.ext hx2)
  have hs2:w.heap.size+3≤W2.heap.size:=Nat.le_trans hs1 hx2.size
  have hs3:w1.heap.size+1 < W2.heap.size:=zAA d2
  have HG:=zH (show bitsN b'≤4096∧bitsN (a' % b')≤4096∧Nat.gcd b' (a' % b')=Nat.gcd a b∧a' % b' < b' from ⟨HI.out.bb,Nat.le_trans (zAG (Nat.le_of_lt (Nat.mod_lt _ (Nat.pos_of_ne_zero hb0)))) HI.out.bb,by rw [← HI.out.gcd,Nat.gcd_comm a' b',Nat.gcd_rec b' a',Nat.gcd_comm],Nat.mod_lt _ (Nat.pos_of_ne_zero hb0)⟩)
  clear hW2 hx2 HX1 HB1 HN2 HI hx l0 l1 l2 hl0
  have HV:Hid (GcdInv w ((W2.setCell ⟨w.heap.size,0,none⟩ (.slice B m m)).setCell ⟨w.heap.size+1,0,none⟩ (.slice A2 k2 k2)) a b B A2 m k2 b' (a' % b')):=by
   have y1:(W2.setCell ⟨w.heap.size,0,none⟩ (.slice B m m)).cell? ⟨w.heap.size+1,0,none⟩=some (.slice B m m):=by
    rw [World.cell?_setCell_other _ _ _ _ (by intro e;injection e with e1 e2;omega)];exact cb
   refine ⟨?_,setc y1,?_,by simp [fa],by simp [fb],by simp [fc],(HB2.out.setBox ca _).setBox y1 _,(HN3.out.setBox ca _).setBox y1 _,HG.out.1,HG.out.2.1,HG.out.2.2.1,(by repeat (first|exact HX2.out|refine Ext.drew ?_|refine Ext.drewN ?_ _|refine Ext.setCell ?_ (by first|exact Nat.le_refl _|(simp only [];omega)) _|refine Ext.alloc ?_ _))⟩
   ·rw [World.cell?_setCell_other _ _ _ _ (by intro e;injection e with e1 e2;omega)];exact setc ca
   ·rw [World.cell?_setCell_other _ _ _ _ (by intro e;injection e with e1 e2;omega),World.cell?_setCell_other _ _ _ _ (by intro e;injection e with e1 e2;omega)];exact cc
  clear HX2 HB2 HN3
  go_region
  all_goals
   go_wp2
   go_roundg (a' % b')
   case measure=>have:=HG.out.2.2.2;omega
   case rel=>first|exact ⟨B,A2,m,k2,b',a' % b',rfl,HV⟩|exact ⟨B,A2,m,k2,b',a' % b',rfl,HV.out.drew⟩
end Go.Proofs.YtdkgilioejdmeaaGreat
namespace Go.Proofs.YtdkgilioejdmeaaGreat
open Go.RowKit
theorem mul_sign (a b:Int) (na nb:Bool) (ha:na=decide (a < 0)) (hb:nb=decide (b < 0)):((na != nb) && decide (fitN (a.natAbs*b.natAbs)≠0))=decide (fitZ (a*b) < 0):=by
 subst ha;subst hb
 have hz:(fitZ (a*b)).natAbs=fitN (a.natAbs*b.natAbs):=by rw [zCu,Int.natAbs_mul]
 by_cases h0:fitZ (a*b)=0
 ·have:fitN (a.natAbs*b.natAbs)=0:=by rw [← hz,h0];rfl
  rw [this,h0];simp
 ·have h1:fitN (a.natAbs*b.natAbs)≠0:=by rw [← hz];omega
  have h2:fitZ (a*b)=a*b:=by
   unfold fitZ at h0 ⊢
   split
   ·rfl
   ·rename_i h;rw [if_neg h] at h0;exact absurd rfl h0
  rw [h2] at h0 ⊢
  have ha0:a≠0:=by rintro rfl;simp at h0
  have hb0:b≠0:=by rintro rfl;simp at h0
  have h3:decide (fitN (a.natAbs*b.natAbs)≠0)=true:=by simpa using h1
  rw [h3,Bool.and_true]
  rcases Int.lt_or_gt_of_ne ha0 with h|h <;> rcases Int.lt_or_gt_of_ne hb0 with h'|h'
  ·have e:¬ a*b < 0:=by have:=Int.mul_pos_of_neg_of_neg h h';omega
   simp [h,h',e]
  ·have e:a*b < 0:=Int.mul_neg_of_neg_of_pos h h'
   have e2:¬ b < 0:=by omega
   simp [h,e2,e]
  ·have e:a*b < 0:=Int.mul_neg_of_pos_of_neg h h'
   have e2:¬ a < 0:=by omega
   simp [h',e2,e]
  ·have e:¬ a*b < 0:=by have:=Int.mul_pos h h';omega
   have e1:¬ a < 0:=by omega
   have e2:¬ b < 0:=by omega
   simp [e1,e2,e]
theorem zCW (na nb:Bool) (A B:Option Addr) (k m:Nat) (a b:Int) (w:World) (ha:IsInt w na A k a) (hb:IsInt w nb B m b) :
  Calls Tryz.prog 66 #[.agg #[.bool na,.slice A k k],.agg #[.bool nb,.slice B m m]] w fun e w'=>∃ n A' k',e = .returned (.tuple #[.agg #[.bool n,.slice A' k' k'],.int .i64 (codeZ (a*b))])∧IsInt w' n A' k' (fitZ (a*b))∧Ext w w':=by
 obtain ⟨W0,HWW0,hXW0,hsW0,c0a,f0a,c0b,f0b,c1a,f1a,c1b,f1b,c2a,f2a,c2b,f2b⟩:=bx222 w 49 49 49 (.bool na) (.slice A k k) (.bool nb) (.slice B m m) (.bool false) (.slice none 0 0)
 have HX:=zH hXW0
 have HC:=zH (Mul_any A B k m a.natAbs b.natAbs W0 (ha.nat.ext hXW0) (hb.nat.ext hXW0) ha.bits hb.bits)
 have HS:=zH (mul_sign a b na nb ha.sign hb.sign)
 have HE:Hid (codeN (a.natAbs*b.natAbs)=codeZ (a*b)∧fitN (a.natAbs*b.natAbs)=(fitZ (a*b)).natAbs):=⟨by rw [codeZ_abs,Int.natAbs_mul],by rw [zCu,Int.natAbs_mul]⟩
 clear hXW0 ha hb
 obtain ⟨c,hc⟩:∃ c,codeN (a.natAbs*b.natAbs)=c:=⟨_,rfl⟩
 obtain ⟨p,hp⟩:∃ p,fitN (a.natAbs*b.natAbs)=p:=⟨_,rfl⟩
 have HB:Hid (bitsN p≤4096):=by rw [← hp];exact zAg _
 rw [hc,hp] at HC HE
 rw [hp] at HS
 rw [← HE.out.1]
 clear hc hp
 go_enter Tryz.func66,Tryz.ntmps66
 go_wp2_with fail
 rw [HWW0.out]
 refine HC.out.mono ?_
 rintro e w1 ⟨A',k',rfl,hn,hx⟩
 replace c0a:=hx.cell c0a
 replace c1a:=hx.cell c1a
 replace f2a:=hx.free f2a (zAA c2a)
 replace c2a:=hx.cell c2a
 replace f2b:=hx.free f2b (zAA c2b)
 replace c2b:=hx.cell c2b
 have hX:=zH (HX.out.trans hx)
 have HN:=zH hn
 have hs1:w.heap.size+3≤w1.heap.size:=Nat.le_trans hsW0 hx.size
 clear hx hn HX HC HWW0 c0b c1b f0a f0b f1a f1b hsW0
 have l0:w.heap.size < w1.heap.size:=by omega
 have l1:w.heap.size+1 < w1.heap.size:=by omega
 have l2:w.heap.size+1+1 < w1.heap.size:=by omega
 go_wp2_with fail
 obtain ⟨W1,HWW1,hXW1,hsW1,cd0,fd0⟩:=bx1 w1 47 (.slice A' k' k')
 rw [HWW1.out]
 replace f2a:=hXW1.free f2a (zAA c2a)
 replace c2a:=hXW1.cell c2a
 replace f2b:=hXW1.free f2b (zAA c2b)
 replace c2b:=hXW1.cell c2b
 have HM:=zH (zAd (!(na == nb)) A' k' p W1 (HN.out.ext hXW1) HB.out)
 have HN1:=zH (HN.out.ext hXW1)
 have hX1:=zH (hX.out.trans hXW1)
 clear hXW1 HWW1 hX HN hs1 l0 l1 l2 hsW1 c0a c1a cd0 fd0
 refine HM.out.mono ?_
 rintro e w2 ⟨rfl,hx⟩
 replace f2a:=hx.free f2a (zAA c2a)
 replace c2a:=hx.cell c2a
 replace f2b:=hx.free f2b (zAA c2b)
 replace c2b:=hx.cell c2b
 have hX2:=zH (hX1.out.trans hx)
 have HN2:=zH (HN1.out.ext hx)
 clear hx hX1 HN1 HM
 have HS2:Hid ((!(na == nb) && decide (p≠0))=decide (fitZ (a*b) < 0)):=HS.out
 obtain ⟨n,hn⟩:∃ n,(!(na == nb) && decide (p≠0))=n:=⟨_,rfl⟩
 rw [hn] at HS2 ⊢
 clear hn HS
 have y1:(w2.setCell ⟨w.heap.size+1+1,0,none⟩ (.bool n)).cell? ⟨w.heap.size+1+1,1,none⟩=some (.slice none 0 0):=by
  rw [World.cell?_setCell_other _ _ _ _ (by simp)];exact c2b
 go_wp2
 refine bodyPost_ret (v:=.tuple #[.agg #[.bool n,.slice A' k' k'],.int .i64 c]) (by simp [results,Tryz.results66,go_sem,c2a,c2b]) rfl ⟨n,A',k',rfl,⟨?_,HS2.out,?_⟩,(by repeat (first|exact hX2.out|refine Ext.drew ?_|refine Ext.drewN ?_ _|refine Ext.setCell ?_ (by first|exact Nat.le_refl _|(simp only [];omega)) _|refine Ext.alloc ?_ _))⟩
 ·rw [← HE.out.2];exact (HN2.out.setBool c2a _).setBox y1 _
 ·rw [← HE.out.2];exact HB.out
set_option maxRecDepth 100000 in
theorem zCi (A B:Option Addr) (k m a b:Nat) (w:World) (ha:IsNat w A k a) (hb:IsNat w B m b) (hk:k≤100000) (hm:m≤100000) (hab:b≤a) :
  Calls Tryz.prog 116 #[.agg #[.slice A k k],.agg #[.slice B m m]] w fun e w'=>∃ A' k',e = .returned (.tuple #[.agg #[.slice A' k' k'],.int .i64 0])∧IsNat w' A' k' (a - b)∧k'≤k∧Ext w w':=by
 have HA:=zH (((ha.alloc (.cells #[.slice A k k] 47)).alloc (.cells #[.slice B m m] 47)).alloc (.cells #[.slice none 0 0] 47))
 have HB:=zH (((hb.alloc (.cells #[.slice A k k] 47)).alloc (.cells #[.slice B m m] 47)).alloc (.cells #[.slice none 0 0] 47))
 have HC:=zH (zBS A B k m a b _ HA.out HB.out hk hm)
 have hc0:0≤cmpN a b:=by unfold cmpN;rw [if_neg om];split <;> omega
 have hmk:m≤k:=by have h1:=ha.1;have h2:=hb.1;rcases Nat.lt_or_ge k m with h|h;have:=zBT (a:=a) (b:=b) om;omega;exact h
 have hmak:=fun W=>zBC (k:Int) k rfl om W
 clear ha hb
 go_enter Tryz.func116,Tryz.ntmps116
 go_wp2_with fail
 refine HC.out.mono ?_
 rintro e w1 ⟨rfl,hx⟩
 have c0:=hx.cell (b:=w.heap.size) (o:=0) (v:=.slice A k k) (by simp [go_sem])
 have c1:=hx.cell (b:=w.heap.size+1) (o:=0) (v:=.slice B m m) (by simp [go_sem])
 have c2:=hx.cell (b:=w.heap.size+2) (o:=0) (v:=.slice none 0 0) (by simp [go_sem])
 have f2:=hx.free (b:=w.heap.size+2) (o:=0) (by simp [go_sem]) (by simp only [World.size_alloc];omega)
 have h3:w.heap.size+2 < w1.heap.size:=by have:=hx.size;simp only [World.size_alloc] at this;omega
 have h4:w.heap.size+1 < w1.heap.size:=by omega
 have h5:w.heap.size < w1.heap.size:=by omega
 have HA1:=zH (HA.out.ext hx)
 have HB1:=zH (HB.out.ext hx)
 have hX:=zH (((((Ext.refl w).alloc _).alloc _).alloc _).trans hx)
 have hX0:Hid (w.heap.size≤w1.heap.size):=by unfold Hid;omega
 have HZ:=zH (Row.zeros w1 133 k)
 have HZ1:=zH (HA1.out.alloc (.cells (zerosA k) 133)).2
 have HK1:Hid ((digs a).length=k):=HA1.out.1.symm
 clear hx HC HA HB
 go_wp2_with (with_reducible refine zAn rfl (.tmp 16) (.tmp 18) rfl w1.heap.size k k A k k rfl rfl (List.replicate k 0) (digs a) HZ.out (by simp) HK1.out (Nat.le_refl _) HZ1.out ?_)
 intro w2 HR2 HB2
 have d0:=old HB2.out (b:=w.heap.size) (o:=0) (v:=.slice A k k) (by simp [go_sem,h5,c0]) h5
 have d1:=old HB2.out (b:=w.heap.size+1) (o:=0) (v:=.slice B m m) (by simp [go_sem,h4,c1]) h4
 have d2:=old HB2.out (b:=w.heap.size+2) (o:=0) (v:=.slice none 0 0) (by simp [go_sem,h3,c2]) h3
 have g2:=oldf HB2.out (b:=w.heap.size+2) (o:=0) (by simp [go_sem,h3,f2]) h3
 clear c0 c1 c2 f2 HZ HZ1
 have hs2:w1.heap.size < w2.heap.size:=by have:=Below.size HB2.out;simp only [World.size_alloc] at this;omega
 have HRa:Hid (Row w2 133 w1.heap.size (digs a)):=by
  have:=HR2.out
  first|exact this|rwa [List.drop_eq_nil_of_le (by simp),List.append_nil] at this
 have HBd:Hid (Digs w2 B (digs b)):=by
  refine HB1.out.2.below (Below.trans (b:=w1.alloc (.cells (zerosA k) 133)) ((Ext.refl w1).alloc _) HB2.out)
 have HBK:Hid (m=(digs b).length):=HB1.out.1
 have HNE:Hid (∀ o,B≠some ⟨w1.heap.size,o,none⟩∨m=0):=by
  intro o
  rcases Nat.eq_zero_or_pos m with h0|h0
  ·exact .inr h0
  ·obtain ⟨b2,o2,d,e,hlt,_⟩:=HB1.out.cell 0 h0
   refine .inl ?_
   rw [e];intro he;injection he with he;injection he with h1 _;omega
 have HXA:Hid (Ext w w2):=hX.out.trans (Below.trans (b:=w1.alloc (.cells (zerosA k) 133)) ((Ext.refl w1).alloc _) HB2.out)
 have HXL:=zH (less_any w1.heap.size k k (digs a) (digs b) B m m w2 HK1.out.symm hk (Nat.le_refl _) HBK.out hmk (Nat.le_refl _) (zAS a) (zAS b) HRa.out HBd.out HNE.out (by rw [zAH,zAH];exact hab))
 clear HR2 HB2 HA1 HB1 hX HK1
 go_wp2_with fail
 refine HXL.out.mono ?_
 rintro e w3 ⟨rfl,l',hR3,hl',hd3,hof,hx3⟩
 have e0:=hx3.cell d0 om
 have e1:=hx3.cell d1 om
 have e2:=hx3.cell d2 om
 have g3:=hx3.free g2 om om
 have HCut:=zH (zBU (some ⟨w1.heap.size,0,none⟩) k k l' w3 hl'.symm (Nat.le_refl _) om hd3 hR3.digs)
 have HOF:=zH hof
 have HX3:Hid (Ext w w3):=HXA.out.but hx3 (by intro g hg;have:=hX0.out;omega)
 clear hx3 hR3 hl' hd3 hof d0 d1 d2 g2 HXL
 go_wp2_with fail
 refine HCut.out.mono ?_
 rintro e w4 ⟨k4,rfl,hn4,hk4,hx4⟩
 have i2:=hx4.cell e2
 have i3:=hx4.free g3 (zAA e2)
 have i4:=setc (v:=.slice (some ⟨w1.heap.size,0,none⟩) k4 k4) i2
 have HX4:=zH (HX3.out.trans hx4)
 have HN4:=zH hn4
 clear hx4 e0 e1 e2 g3 HCut hn4
 go_wp2
 refine bodyPost_ret (v:=.tuple #[.agg #[.slice (some ⟨w1.heap.size,0,none⟩) k4 k4],.int .i64 0]) (by simp [results,Tryz.results116,go_sem,i4]) rfl ⟨_,k4,rfl,?_,hk4,HX4.out.setCell (p:=⟨w.heap.size+2,0,none⟩) (by simp only [];omega) _⟩
 have e:ofD l'=a - b:=by have:=HOF.out;rw [zAH,zAH] at this;omega
 rw [← e]
 exact HN4.out.set_ _ (by intro o' he;injection he with he;injection he with h1 _;omega)
theorem add_same (a b:Int) (h:decide (a < 0)=decide (b < 0)):(a+b).natAbs=a.natAbs+b.natAbs∧(decide (a < 0) && decide (fitN (a.natAbs+b.natAbs)≠0))=decide (fitZ (a+b) < 0):=by
 have h1:(a < 0↔b < 0):=by simpa using h
 have e:(a+b).natAbs=a.natAbs+b.natAbs:=by omega
 refine ⟨e,?_⟩
 have hz:(fitZ (a+b)).natAbs=fitN (a.natAbs+b.natAbs):=by rw [zCu,e]
 rw [← hz]
 by_cases h0:fitZ (a+b)=0
 ·rw [h0];simp
 ·have h2:fitZ (a+b)=a+b:=by
   unfold fitZ at h0 ⊢
   split
   ·rfl
   ·rename_i h;rw [if_neg h] at h0;exact absurd rfl h0
  rw [h2] at h0 ⊢
  have h3:decide ((a+b).natAbs≠0)=true:=by simp;omega
  rw [h3,Bool.and_true]
  by_cases h4:a < 0
  ·have e1:decide (a < 0)=true:=by simpa using h4
   have e2:decide (a+b < 0)=true:=by simp;omega
   rw [e1,e2]
  ·have e1:decide (a < 0)=false:=by simpa using h4
   have e2:decide (a+b < 0)=false:=by simp;omega
   rw [e1,e2]
theorem add_diff (a b:Int) (h:decide (a < 0)≠decide (b < 0)) (hab:b.natAbs≤a.natAbs) (ha:bitsN a.natAbs≤4096) :
  (fitZ (a+b)).natAbs=a.natAbs - b.natAbs∧codeZ (a+b)=0∧bitsN (a.natAbs - b.natAbs)≤4096∧(decide (a < 0) && decide (a.natAbs - b.natAbs≠0))=decide (fitZ (a+b) < 0):=by
 have h1:¬ (a < 0↔b < 0):=by simpa using h
 have e:(a+b).natAbs=a.natAbs - b.natAbs:=by omega
 have hb:bitsN (a.natAbs - b.natAbs)≤4096:=Nat.le_trans (zAG (Nat.sub_le _ _)) ha
 have hf:fitZ (a+b)=a+b:=by unfold fitZ;rw [e,if_pos hb]
 have hc:codeZ (a+b)=0:=by unfold codeZ;rw [e,if_pos hb]
 rw [hf,hc]
 refine ⟨e,rfl,hb,?_⟩
 rw [← e]
 by_cases h0:a+b=0
 ·rw [h0];simp
 ·have h3:decide ((a+b).natAbs≠0)=true:=by simp;omega
  rw [h3,Bool.and_true]
  by_cases h4:a < 0
  ·have e1:decide (a < 0)=true:=by simpa using h4
   have e2:decide (a+b < 0)=true:=by simp;omega
   rw [e1,e2]
  ·have e1:decide (a < 0)=false:=by simpa using h4
   have e2:decide (a+b < 0)=false:=by simp;omega
   rw [e1,e2]
theorem zAdd_same (ng:Bool) (A B:Option Addr) (k m:Nat) (a b:Int) (w:World) (ha:IsInt w ng A k a) (hb:IsInt w ng B m b) :
  Calls Tryz.prog 67 #[.agg #[.bool ng,.slice A k k],.agg #[.bool ng,.slice B m m]] w fun e w'=>∃ n A' k',e = .returned (.tuple #[.agg #[.bool n,.slice A' k' k'],.int .i64 (codeZ (a+b))])∧IsInt w' n A' k' (fitZ (a+b))∧Ext w w':=by
 obtain ⟨W0,HWW0,hXW0,hsW0,c0a,f0a,c0b,f0b,c1a,f1a,c1b,f1b,c2a,f2a,c2b,f2b⟩:=bx222 w 49 49 49 (.bool ng) (.slice A k k) (.bool ng) (.slice B m m) (.bool false) (.slice none 0 0)
 have HX:=zH hXW0
 have HC:=zH (Add_any A B k m a.natAbs b.natAbs W0 (ha.nat.ext hXW0) (hb.nat.ext hXW0) ha.bits hb.bits)
 have hsm:=add_same a b (ha.sign.symm.trans hb.sign)
 have HS:Hid ((ng && decide (fitN (a.natAbs+b.natAbs)≠0))=decide (fitZ (a+b) < 0)):=by have:=hsm.2;rw [← ha.sign] at this;exact this
 have HE:Hid (codeN (a.natAbs+b.natAbs)=codeZ (a+b)∧fitN (a.natAbs+b.natAbs)=(fitZ (a+b)).natAbs):=⟨by rw [codeZ_abs,hsm.1],by rw [zCu,hsm.1]⟩
 have hbb:(ng == ng)=true:=by simp
 clear hXW0 ha hb hsm
 obtain ⟨c,hc⟩:∃ c,codeN (a.natAbs+b.natAbs)=c:=⟨_,rfl⟩
 obtain ⟨p,hp⟩:∃ p,fitN (a.natAbs+b.natAbs)=p:=⟨_,rfl⟩
 have HB:Hid (bitsN p≤4096):=by rw [← hp];exact zAg _
 rw [hc,hp] at HC HE
 rw [hp] at HS
 rw [← HE.out.1]
 clear hc hp
 go_enter Tryz.func67,Tryz.ntmps67
 go_wp2_with fail
 rw [HWW0.out]
 refine HC.out.mono ?_
 rintro e w1 ⟨A',k',rfl,hn,hx⟩
 replace c0a:=hx.cell c0a
 replace f2a:=hx.free f2a (zAA c2a)
 replace c2a:=hx.cell c2a
 replace f2b:=hx.free f2b (zAA c2b)
 replace c2b:=hx.cell c2b
 have hX:=zH (HX.out.trans hx)
 have HN:=zH hn
 have hs1:w.heap.size+3≤w1.heap.size:=Nat.le_trans hsW0 hx.size
 clear hx hn HX HC HWW0 c0b c1a c1b f0a f0b f1a f1b hsW0
 have l0:w.heap.size < w1.heap.size:=by omega
 have l1:w.heap.size+1 < w1.heap.size:=by omega
 have l2:w.heap.size+1+1 < w1.heap.size:=by omega
 go_wp2_with fail
 obtain ⟨W1,HWW1,hXW1,hsW1,cd0,fd0⟩:=bx1 w1 47 (.slice A' k' k')
 rw [HWW1.out]
 replace f2a:=hXW1.free f2a (zAA c2a)
 replace c2a:=hXW1.cell c2a
 replace f2b:=hXW1.free f2b (zAA c2b)
 replace c2b:=hXW1.cell c2b
 have HM:=zH (zAd ng A' k' p W1 (HN.out.ext hXW1) HB.out)
 have HN1:=zH (HN.out.ext hXW1)
 have hX1:=zH (hX.out.trans hXW1)
 clear hXW1 HWW1 hX HN hs1 l0 l1 l2 hsW1 c0a cd0 fd0
 refine HM.out.mono ?_
 rintro e w2 ⟨rfl,hx⟩
 replace f2a:=hx.free f2a (zAA c2a)
 replace c2a:=hx.cell c2a
 replace f2b:=hx.free f2b (zAA c2b)
 replace c2b:=hx.cell c2b
 have hX2:=zH (hX1.out.trans hx)
 have HN2:=zH (HN1.out.ext hx)
 clear hx hX1 HN1 HM
 obtain ⟨n,hn⟩:∃ n,(ng && decide (p≠0))=n:=⟨_,rfl⟩
 rw [hn] at HS ⊢
 clear hn
 have y1:(w2.setCell ⟨w.heap.size+1+1,0,none⟩ (.bool n)).cell? ⟨w.heap.size+1+1,1,none⟩=some (.slice none 0 0):=by
  rw [World.cell?_setCell_other _ _ _ _ (by simp)];exact c2b
 go_wp2
 refine bodyPost_ret (v:=.tuple #[.agg #[.bool n,.slice A' k' k'],.int .i64 c]) (by simp [results,Tryz.results67,go_sem,c2a,c2b]) rfl ⟨n,A',k',rfl,⟨?_,HS.out,?_⟩,(by repeat (first|exact hX2.out|refine Ext.setCell ?_ (by first|(simp only [];omega)) _))⟩
 ·rw [← HE.out.2];exact (HN2.out.setBool c2a _).setBox y1 _
 ·rw [← HE.out.2];exact HB.out
theorem zAdd_diff (na nb:Bool) (A B:Option Addr) (k m:Nat) (a b:Int) (w:World) (ha:IsInt w na A k a) (hb:IsInt w nb B m b) (hne:(na == nb)=false) (hab:b.natAbs≤a.natAbs) :
  Calls Tryz.prog 67 #[.agg #[.bool na,.slice A k k],.agg #[.bool nb,.slice B m m]] w fun e w'=>∃ n A' k',e = .returned (.tuple #[.agg #[.bool n,.slice A' k' k'],.int .i64 (codeZ (a+b))])∧IsInt w' n A' k' (fitZ (a+b))∧Ext w w':=by
 obtain ⟨W0,HWW0,hXW0,hsW0,c0a,f0a,c0b,f0b,c1a,f1a,c1b,f1b,c2a,f2a,c2b,f2b⟩:=bx222 w 49 49 49 (.bool na) (.slice A k k) (.bool nb) (.slice B m m) (.bool false) (.slice none 0 0)
 have hk:=ha.k
 have hm:=hb.k
 have HX:=zH hXW0
 have HC:=zH (zBS A B k m a.natAbs b.natAbs W0 (ha.nat.ext hXW0) (hb.nat.ext hXW0) om om)
 have HSub:=zH (fun W (h:Ext W0 W)=>zCi A B k m a.natAbs b.natAbs W ((ha.nat.ext hXW0).ext h) ((hb.nat.ext hXW0).ext h) om om hab)
 have hdf:=add_diff a b (by rw [← ha.sign,← hb.sign];simpa using hne) hab ha.bits
 rw [← ha.sign] at hdf
 have HD:=zH hdf
 obtain ⟨c,hc⟩:∃ c,cmpN a.natAbs b.natAbs=c:=⟨_,rfl⟩
 have hc0:0≤c:=by rw [← hc];unfold cmpN;rw [if_neg om];split <;> omega
 have hcd:decide (c < 0)=false:=by simp;omega
 rw [hc] at HC
 rw [HD.out.2.1]
 obtain ⟨p,hp⟩:∃ p,a.natAbs - b.natAbs=p:=⟨_,rfl⟩
 rw [hp] at HD HSub
 clear hXW0 ha hb hdf hc hp hab
 go_enter Tryz.func67,Tryz.ntmps67
 go_wp2_with fail
 rw [HWW0.out]
 refine HC.out.mono ?_
 rintro e w1 ⟨rfl,hx⟩
 replace c0a:=hx.cell c0a
 replace c0b:=hx.cell c0b
 replace c1a:=hx.cell c1a
 replace c1b:=hx.cell c1b
 replace f2a:=hx.free f2a (zAA c2a)
 replace c2a:=hx.cell c2a
 replace f2b:=hx.free f2b (zAA c2b)
 replace c2b:=hx.cell c2b
 have hX:=zH (HX.out.trans hx)
 have HSb:=zH (HSub.out w1 hx)
 have hs1:w.heap.size+3≤w1.heap.size:=Nat.le_trans hsW0 hx.size
 clear hx HX HC HWW0 f0a f0b f1a f1b hsW0 HSub
 go_wp2_with fail
 refine HSb.out.mono ?_
 rintro e w3 ⟨A',k',rfl,hn,_,hx⟩
 replace c0a:=hx.cell c0a
 replace f2a:=hx.free f2a (zAA c2a)
 replace c2a:=hx.cell c2a
 replace f2b:=hx.free f2b (zAA c2b)
 replace c2b:=hx.cell c2b
 have hX3:=zH (hX.out.trans hx)
 have HN:=zH hn
 have hs3:w.heap.size+3≤w3.heap.size:=Nat.le_trans hs1 hx.size
 clear hx hn hX HSb c0b c1a c1b hs1
 have l0:w.heap.size < w3.heap.size:=by omega
 have l1:w.heap.size+1 < w3.heap.size:=by omega
 have l2:w.heap.size+1+1 < w3.heap.size:=by omega
 go_wp2_with fail
 obtain ⟨W1,HWW1,hXW1,hsW1,cd0,fd0⟩:=bx1 w3 47 (.slice A' k' k')
 rw [HWW1.out]
 replace f2a:=hXW1.free f2a (zAA c2a)
 replace c2a:=hXW1.cell c2a
 replace f2b:=hXW1.free f2b (zAA c2b)
 replace c2b:=hXW1.cell c2b
 have HM:=zH (zAd na A' k' p W1 (HN.out.ext hXW1) HD.out.2.2.1)
 have HN1:=zH (HN.out.ext hXW1)
 have hX1:=zH (hX3.out.trans hXW1)
 clear hXW1 HWW1 hX3 HN hs3 l0 l1 l2 hsW1 c0a cd0 fd0
 refine HM.out.mono ?_
 rintro e w2 ⟨rfl,hx⟩
 replace f2a:=hx.free f2a (zAA c2a)
 replace c2a:=hx.cell c2a
 replace f2b:=hx.free f2b (zAA c2b)
 replace c2b:=hx.cell c2b
 have hX2:=zH (hX1.out.trans hx)
 have HN2:=zH (HN1.out.ext hx)
 clear hx hX1 HN1 HM
 have HS:Hid ((na && decide (p≠0))=decide (fitZ (a+b) < 0)):=HD.out.2.2.2
 obtain ⟨n,hn⟩:∃ n,(na && decide (p≠0))=n:=⟨_,rfl⟩
 rw [hn] at HS ⊢
 clear hn
 have y1:(w2.setCell ⟨w.heap.size+1+1,0,none⟩ (.bool n)).cell? ⟨w.heap.size+1+1,1,none⟩=some (.slice none 0 0):=by
  rw [World.cell?_setCell_other _ _ _ _ (by simp)];exact c2b
 go_wp2
 refine bodyPost_ret (v:=.tuple #[.agg #[.bool n,.slice A' k' k'],.int .i64 0]) (by simp [results,Tryz.results67,go_sem,c2a,c2b]) rfl ⟨n,A',k',rfl,⟨?_,HS.out,?_⟩,(by repeat (first|exact hX2.out|refine Ext.setCell ?_ (by first|(simp only [];omega)) _))⟩
 ·rw [HD.out.1];exact (HN2.out.setBool c2a _).setBox y1 _
 ·rw [HD.out.1];exact HD.out.2.2.1
set_option maxHeartbeats 1000000 in
theorem zAdd_swap (na nb:Bool) (A B:Option Addr) (k m:Nat) (a b:Int) (w:World) (ha:IsInt w na A k a) (hb:IsInt w nb B m b) (hne:(na == nb)=false) (hab:a.natAbs < b.natAbs) :
  Calls Tryz.prog 67 #[.agg #[.bool na,.slice A k k],.agg #[.bool nb,.slice B m m]] w fun e w'=>∃ n A' k',e = .returned (.tuple #[.agg #[.bool n,.slice A' k' k'],.int .i64 (codeZ (b+a))])∧IsInt w' n A' k' (fitZ (b+a))∧Ext w w':=by
 obtain ⟨W0,HWW0,hXW0,hsW0,c0a,f0a,c0b,f0b,c1a,f1a,c1b,f1b,c2a,f2a,c2b,f2b⟩:=bx222 w 49 49 49 (.bool na) (.slice A k k) (.bool nb) (.slice B m m) (.bool false) (.slice none 0 0)
 have hk:=ha.k
 have hm:=hb.k
 have HX:=zH hXW0
 have HC:=zH (zBS A B k m a.natAbs b.natAbs W0 (ha.nat.ext hXW0) (hb.nat.ext hXW0) om om)
 have HA:=zH (ha.nat.ext hXW0)
 have HB:=zH (hb.nat.ext hXW0)
 have hdf:=add_diff b a (by rw [← ha.sign,← hb.sign];intro h;rw [h] at hne;simp at hne) om hb.bits
 rw [← hb.sign] at hdf
 have HD:=zH hdf
 have hc1:cmpN a.natAbs b.natAbs = -1:=if_pos hab
 rw [hc1] at HC
 rw [HD.out.2.1]
 have HSub:=zH (fun W (h1:IsNat W A k a.natAbs) (h2:IsNat W B m b.natAbs)=>zCi B A m k b.natAbs a.natAbs W h2 h1 om om om)
 obtain ⟨p,hp⟩:∃ p,b.natAbs - a.natAbs=p:=⟨_,rfl⟩
 rw [hp] at HD HSub
 clear hXW0 ha hb hdf hp hab hc1
 go_enter Tryz.func67,Tryz.ntmps67
 go_wp2_with fail
 rw [HWW0.out]
 refine HC.out.mono ?_
 rintro e w1 ⟨rfl,hx⟩
 replace f0a:=hx.free f0a (zAA c0a)
 replace c0a:=hx.cell c0a
 replace f0b:=hx.free f0b (zAA c0b)
 replace c0b:=hx.cell c0b
 replace f1a:=hx.free f1a (zAA c1a)
 replace c1a:=hx.cell c1a
 replace f1b:=hx.free f1b (zAA c1b)
 replace c1b:=hx.cell c1b
 replace f2a:=hx.free f2a (zAA c2a)
 replace c2a:=hx.cell c2a
 replace f2b:=hx.free f2b (zAA c2b)
 replace c2b:=hx.cell c2b
 have hX:=zH (HX.out.trans hx)
 have HA1:=zH (HA.out.ext hx)
 have HB1:=zH (HB.out.ext hx)
 have hs1:w.heap.size+3≤w1.heap.size:=Nat.le_trans hsW0 hx.size
 clear hx HX HC HWW0 hsW0 HA HB
 go_wp2_with fail
 obtain ⟨W2,hWW2⟩:∃ W2:World,(((w1.setCell ⟨w.heap.size,0,none⟩ (.bool nb)).setCell ⟨w.heap.size,1,none⟩ (.slice B m m)).setCell ⟨w.heap.size+1,0,none⟩ (.bool na)).setCell ⟨w.heap.size+1,1,none⟩ (.slice A k k)=W2:=⟨_,rfl⟩
 have z0a:W2.cell? ⟨w.heap.size,0,none⟩=some (.bool nb):=by rw [← hWW2];simp [go_sem,c0a,c0b,c1a,c1b,c2a,c2b]
 have zf0a:W2.frozen? ⟨w.heap.size,0,none⟩=false:=by rw [← hWW2];simp [go_sem,f0a,f0b,f1a,f1b,f2a,f2b]
 have z0b:W2.cell? ⟨w.heap.size,1,none⟩=some (.slice B m m):=by rw [← hWW2];simp [go_sem,c0a,c0b,c1a,c1b,c2a,c2b]
 have zf0b:W2.frozen? ⟨w.heap.size,1,none⟩=false:=by rw [← hWW2];simp [go_sem,f0a,f0b,f1a,f1b,f2a,f2b]
 have z1a:W2.cell? ⟨w.heap.size+1,0,none⟩=some (.bool na):=by rw [← hWW2];simp [go_sem,c0a,c0b,c1a,c1b,c2a,c2b]
 have zf1a:W2.frozen? ⟨w.heap.size+1,0,none⟩=false:=by rw [← hWW2];simp [go_sem,f0a,f0b,f1a,f1b,f2a,f2b]
 have z1b:W2.cell? ⟨w.heap.size+1,1,none⟩=some (.slice A k k):=by rw [← hWW2];simp [go_sem,c0a,c0b,c1a,c1b,c2a,c2b]
 have zf1b:W2.frozen? ⟨w.heap.size+1,1,none⟩=false:=by rw [← hWW2];simp [go_sem,f0a,f0b,f1a,f1b,f2a,f2b]
 have z2a:W2.cell? ⟨w.heap.size+1+1,0,none⟩=some (.bool false):=by rw [← hWW2];simp [go_sem,c0a,c0b,c1a,c1b,c2a,c2b]
 have zf2a:W2.frozen? ⟨w.heap.size+1+1,0,none⟩=false:=by rw [← hWW2];simp [go_sem,f0a,f0b,f1a,f1b,f2a,f2b]
 have z2b:W2.cell? ⟨w.heap.size+1+1,1,none⟩=some (.slice none 0 0):=by rw [← hWW2];simp [go_sem,c0a,c0b,c1a,c1b,c2a,c2b]
 have zf2b:W2.frozen? ⟨w.heap.size+1+1,1,none⟩=false:=by rw [← hWW2];simp [go_sem,f0a,f0b,f1a,f1b,f2a,f2b]
 have znW2:∀ (A:Option Addr) (k n:Nat),IsNat w1 A k n→IsNat W2 A k n:=by intro A k n h;rw [← hWW2];exact ((((h.setBool c0a _).setBox (by rw [World.cell?_setCell_other _ _ _ _ (by intro h;injection h with h1 h2;omega)];exact c0b) _).setBool (by rw [World.cell?_setCell_other _ _ _ _ (by intro h;injection h with h1 h2;omega),World.cell?_setCell_other _ _ _ _ (by intro h;injection h with h1 h2;omega)];exact c1a) _).setBox (by rw [World.cell?_setCell_other _ _ _ _ (by intro h;injection h with h1 h2;omega),World.cell?_setCell_other _ _ _ _ (by intro h;injection h with h1 h2;omega),World.cell?_setCell_other _ _ _ _ (by intro h;injection h with h1 h2;omega)];exact c1b) _)
 have zxW2:∀ a:World,Ext a w1→a.heap.size≤w.heap.size→Ext a W2:=by intro a h hs;rw [← hWW2];exact (by repeat (first|exact h|refine Ext.setCell ?_ (by first|(simp only [];omega)) _))
 have HWW2:=zH hWW2
 clear hWW2
 have hX2:Hid (Ext w W2):=by rw [← HWW2.out];exact (by repeat (first|exact hX.out|refine Ext.setCell ?_ (by first|exact Nat.le_refl _|(simp only [];omega)) _))
 have y1:(w1.setCell ⟨w.heap.size,0,none⟩ (.bool nb)).cell? ⟨w.heap.size,1,none⟩=some (.slice A k k):=by
  rw [World.cell?_setCell_other _ _ _ _ (by simp)];exact c0b
 have y2:((w1.setCell ⟨w.heap.size,0,none⟩ (.bool nb)).setCell ⟨w.heap.size,1,none⟩ (.slice B m m)).cell? ⟨w.heap.size+1,0,none⟩=some (.bool nb):=by
  rw [World.cell?_setCell_other _ _ _ _ (by simp),World.cell?_setCell_other _ _ _ _ (by simp)];exact c1a
 have y3:(((w1.setCell ⟨w.heap.size,0,none⟩ (.bool nb)).setCell ⟨w.heap.size,1,none⟩ (.slice B m m)).setCell ⟨w.heap.size+1,0,none⟩ (.bool na)).cell? ⟨w.heap.size+1,1,none⟩=some (.slice B m m):=by
  rw [World.cell?_setCell_other _ _ _ _ (by simp),World.cell?_setCell_other _ _ _ _ (by simp),World.cell?_setCell_other _ _ _ _ (by simp)];exact c1b
 have HA2:Hid (IsNat W2 A k a.natAbs):=by rw [← HWW2.out];exact (((HA1.out.setBool c0a _).setBox y1 _).setBool y2 _).setBox y3 _
 have HB2:Hid (IsNat W2 B m b.natAbs):=by rw [← HWW2.out];exact (((HB1.out.setBool c0a _).setBox y1 _).setBool y2 _).setBox y3 _
 have hs2:w.heap.size+3≤W2.heap.size:=by rw [← HWW2.out];simpa [World.setCell] using hs1
 clear y1 y2 y3 c0a c0b c1a c1b c2a c2b f0a f0b f1a f1b f2a f2b HA1 HB1 hs1 hX
 rw [HWW2.out]
 clear HWW2
 have HSb:=zH (HSub.out W2 HA2.out HB2.out)
 refine HSb.out.mono ?_
 rintro e w3 ⟨A',k',rfl,hn,_,hx⟩
 replace z0a:=hx.cell z0a
 replace zf2a:=hx.free zf2a (zAA z2a)
 replace z2a:=hx.cell z2a
 replace zf2b:=hx.free zf2b (zAA z2b)
 replace z2b:=hx.cell z2b
 have hX3:=zH (hX2.out.trans hx)
 have HN:=zH hn
 have hs3:w.heap.size+3≤w3.heap.size:=Nat.le_trans hs2 hx.size
 clear hx hn hX2 HSb z0b z1a z1b hs2 zf0a zf0b zf1a zf1b HSub HA2 HB2
 have l0:w.heap.size < w3.heap.size:=by omega
 have l1:w.heap.size+1 < w3.heap.size:=by omega
 have l2:w.heap.size+1+1 < w3.heap.size:=by omega
 go_wp2_with fail
 obtain ⟨W1,HWW1,hXW1,hsW1,cd0,fd0⟩:=bx1 w3 47 (.slice A' k' k')
 rw [HWW1.out]
 replace zf2a:=hXW1.free zf2a (zAA z2a)
 replace z2a:=hXW1.cell z2a
 replace zf2b:=hXW1.free zf2b (zAA z2b)
 replace z2b:=hXW1.cell z2b
 have HM:=zH (zAd nb A' k' p W1 (HN.out.ext hXW1) HD.out.2.2.1)
 have HN1:=zH (HN.out.ext hXW1)
 have hX1:=zH (hX3.out.trans hXW1)
 clear hXW1 HWW1 hX3 HN hs3 l0 l1 l2 hsW1 z0a cd0 fd0
 refine HM.out.mono ?_
 rintro e w2 ⟨rfl,hx⟩
 replace zf2a:=hx.free zf2a (zAA z2a)
 replace z2a:=hx.cell z2a
 replace zf2b:=hx.free zf2b (zAA z2b)
 replace z2b:=hx.cell z2b
 have hX2:=zH (hX1.out.trans hx)
 have HN2:=zH (HN1.out.ext hx)
 clear hx hX1 HN1 HM
 have HS:Hid ((nb && decide (p≠0))=decide (fitZ (b+a) < 0)):=HD.out.2.2.2
 obtain ⟨n,hn⟩:∃ n,(nb && decide (p≠0))=n:=⟨_,rfl⟩
 rw [hn] at HS ⊢
 clear hn
 have y1:(w2.setCell ⟨w.heap.size+1+1,0,none⟩ (.bool n)).cell? ⟨w.heap.size+1+1,1,none⟩=some (.slice none 0 0):=by
  rw [World.cell?_setCell_other _ _ _ _ (by simp)];exact z2b
 go_wp2
 refine bodyPost_ret (v:=.tuple #[.agg #[.bool n,.slice A' k' k'],.int .i64 0]) (by simp [results,Tryz.results67,go_sem,z2a,z2b]) rfl ⟨n,A',k',rfl,⟨?_,HS.out,?_⟩,(by repeat (first|exact hX2.out|refine Ext.setCell ?_ (by first|(simp only [];omega)) _))⟩
 ·rw [HD.out.1];exact (HN2.out.setBool z2a _).setBox y1 _
 ·rw [HD.out.1];exact HD.out.2.2.1
theorem zBR (na nb:Bool) (A B:Option Addr) (k m:Nat) (a b:Int) (w:World) (ha:IsInt w na A k a) (hb:IsInt w nb B m b) :
  Calls Tryz.prog 67 #[.agg #[.bool na,.slice A k k],.agg #[.bool nb,.slice B m m]] w fun e w'=>∃ n A' k',e = .returned (.tuple #[.agg #[.bool n,.slice A' k' k'],.int .i64 (codeZ (a+b))])∧IsInt w' n A' k' (fitZ (a+b))∧Ext w w':=by
 by_cases h:na=nb
 ·subst h;exact zAdd_same na A B k m a b w ha hb
 ·have hne:(na == nb)=false:=by simpa using h
  rcases Nat.lt_or_ge a.natAbs b.natAbs with h1|h1
  ·rw [Int.add_comm];exact zAdd_swap na nb A B k m a b w ha hb hne h1
  ·exact zAdd_diff na nb A B k m a b w ha hb hne h1
set_option maxHeartbeats 1000000 in
theorem zSub_any (na nb:Bool) (A B:Option Addr) (k m:Nat) (a b:Int) (w:World) (ha:IsInt w na A k a) (hb:IsInt w nb B m b) :
  Calls Tryz.prog 129 #[.agg #[.bool na,.slice A k k],.agg #[.bool nb,.slice B m m]] w fun e w'=>∃ n A' k',e = .returned (.tuple #[.agg #[.bool n,.slice A' k' k'],.int .i64 (codeZ (a - b))])∧IsInt w' n A' k' (fitZ (a - b))∧Ext w w':=by
 obtain ⟨W0,HWW0,hXW0,hsW0,c0a,f0a,c0b,f0b,c1a,f1a,c1b,f1b,c2a,f2a,c2b,f2b⟩:=bx222 w 49 49 49 (.bool na) (.slice A k k) (.bool nb) (.slice B m m) (.bool false) (.slice none 0 0)
 have HX:=zH hXW0
 have HA:=zH (ha.ext hXW0)
 have HN:=zH (fun W (h:Ext W0 W)=>Neg_any nb B m b W ((hb.ext hXW0).ext h))
 have HAdd:=zH (fun nn (W:World) (h1:Ext W0 W) (h:IsInt W nn B m (-b))=>zBR na nn A B k m a (-b) W (HA.out.ext h1) h)
 clear hXW0 ha hb
 rw [Int.sub_eq_add_neg]
 go_enter Tryz.func129,Tryz.ntmps129
 go_wp2_with fail
 rw [HWW0.out]
 go_region_with (first
  | (go_at_call 131;refine (HN.out _ (by first|exact (Ext.refl _).drew)).mono ?_;rintro e w1 ⟨nn,rfl,hni,hx⟩;have hxx:=(Ext.refl W0).drew.trans hx;have hni2:=zH hni;clear hni;have d0a:=hx.cell c0a;have d0b:=hx.cell c0b;have d2a:=hx.cell c2a;have d2b:=hx.cell c2b;have g2a:=hx.free f2a (zAA c2a);have g2b:=hx.free f2b (zAA c2b))
  | (go_at_call 67;refine (HAdd.out nn w1 hxx hni2.out).mono ?_;rintro e w2 ⟨n,A',k',rfl,hni3,hx2⟩;have e2a:=hx2.cell d2a;have e2b:=hx2.cell d2b;have h2a:=hx2.free g2a (zAA d2a);have h2b:=hx2.free g2b (zAA d2b);have HI3:=zH hni3;clear hni3))
 all_goals
  have HX2:=zH ((HX.out.trans hxx).trans hx2)
  have y1:(w2.setCell ⟨w.heap.size+1+1,0,none⟩ (.bool n)).cell? ⟨w.heap.size+1+1,1,none⟩=some (.slice none 0 0):=by
   rw [World.cell?_setCell_other _ _ _ _ (by simp)];exact e2b
  clear hx hxx hx2 d0a d0b d2a d2b g2a g2b c0a c0b c1a c1b c2a c2b
  go_wp2
  refine bodyPost_ret (v:=.tuple #[.agg #[.bool n,.slice A' k' k'],.int .i64 (codeZ (a + -b))]) (by simp [results,Tryz.results129,go_sem,e2a,e2b]) rfl ⟨n,A',k',rfl,(HI3.out.setBool e2a _).setBox y1 _,(by repeat (first|exact HX2.out|refine Ext.setCell ?_ (by first|(simp only [];omega)) _))⟩
end Go.Proofs.YtdkgilioejdmeaaGreat
namespace Go.Proofs.YtdkgilioejdmeaaGreat
open Go.RowKit
theorem quo_pos (a:Int) (c:Nat) (hc:0 < c):(a / (c:Int)).natAbs=(if a < 0∧a.natAbs % c≠0 then a.natAbs / c+1 else a.natAbs / c)∧(a % (c:Int))=((if a < 0∧a.natAbs % c≠0 then c - a.natAbs % c else a.natAbs % c:Nat):Int)∧(a / (c:Int) < 0↔a < 0):=by
 have hcz:(0:Int) < (c:Int):=by omega
 have hd:=Nat.div_add_mod a.natAbs c
 have hm:=Nat.mod_lt a.natAbs hc
 generalize a.natAbs / c=n at *
 generalize a.natAbs % c=m at *
 by_cases h:a < 0
 ·have hsgn:a / (c:Int) < 0↔a < 0:=⟨fun _=>h,fun _=>Int.ediv_neg_of_neg_of_pos h hcz⟩
  have ha:a = -((c*n+m:Nat):Int):=by omega
  by_cases h2:m=0
  ·have hu:=(Int.ediv_emod_unique (a:=a) (b:=c) (q:=-(n:Int)) (r:=0) hcz).2 ⟨by rw [ha,h2];simp [Int.mul_neg],by omega,hcz⟩
   rw [if_neg om,if_neg om]
   refine ⟨by rw [hu.1];omega,by rw [hu.2,h2];rfl,hsgn⟩
  ·have hu:=(Int.ediv_emod_unique (a:=a) (b:=c) (q:=-((n+1:Nat):Int)) (r:=((c - m:Nat):Int)) hcz).2 ⟨by
    rw [ha,Int.natCast_sub om]
    simp only [Int.natCast_add,Int.natCast_mul,Int.natCast_one,Int.mul_neg,Int.mul_add,Int.mul_one]
    omega,by omega,by omega⟩
   rw [if_pos ⟨h,h2⟩,if_pos ⟨h,h2⟩]
   exact ⟨by rw [hu.1];omega,hu.2,hsgn⟩
 ·have ha:a=((c*n+m:Nat):Int):=by omega
  have hu:=(Int.ediv_emod_unique (a:=a) (b:=c) (q:=(n:Int)) (r:=(m:Int)) hcz).2 ⟨by rw [ha];simp only [Int.natCast_add,Int.natCast_mul];omega,by omega,by omega⟩
  rw [if_neg om,if_neg om]
  refine ⟨by rw [hu.1];omega,hu.2,?_⟩
  rw [hu.1];omega
theorem quo_any (a b:Int) (hb:b≠0):(a / b).natAbs=(if a < 0∧a.natAbs % b.natAbs≠0 then a.natAbs / b.natAbs+1 else a.natAbs / b.natAbs) ∧
  a % b=((if a < 0∧a.natAbs % b.natAbs≠0 then b.natAbs - a.natAbs % b.natAbs else a.natAbs % b.natAbs:Nat):Int) ∧
  ((decide (a < 0) != decide (b < 0)) && decide ((a / b).natAbs≠0))=decide (a / b < 0):=by
 have hp:=quo_pos a b.natAbs om
 rcases Int.lt_or_gt_of_ne hb with h|h
 ·have e:b = -((b.natAbs:Nat):Int):=by omega
  have e1:a / b = -(a / (b.natAbs:Int)):=by conv=>lhs;rw [e];rw [Int.ediv_neg]
  have e2:a % b=a % (b.natAbs:Int):=by conv=>lhs;rw [e];rw [Int.emod_neg]
  rw [e1,e2,Int.natAbs_neg]
  refine ⟨hp.1,hp.2.1,?_⟩
  have hbs:decide (b < 0)=true:=by simpa using h
  rw [hbs]
  generalize a / (b.natAbs:Int)=q at *
  by_cases h2:a < 0
  ·have e3:decide (a < 0)=true:=by simpa using h2
   have:=hp.2.2.2 h2
   have e4:decide (-q < 0)=false:=by simp;omega
   rw [e3,e4];rfl
  ·have e3:decide (a < 0)=false:=by simpa using h2
   have h4:¬ q < 0:=fun hq=>h2 (hp.2.2.1 hq)
   rw [e3]
   by_cases h5:q=0
   ·subst h5;rfl
   ·have e4:decide (-q < 0)=true:=by simp;omega
    have e5:decide (q.natAbs≠0)=true:=by simp;omega
    rw [e4,e5];rfl
 ·have e:b=((b.natAbs:Nat):Int):=by omega
  have e1:a / b=a / (b.natAbs:Int):=by rw [← e]
  have e2:a % b=a % (b.natAbs:Int):=by rw [← e]
  rw [e1,e2]
  refine ⟨hp.1,hp.2.1,?_⟩
  have hbs:decide (b < 0)=false:=by simp;omega
  rw [hbs]
  generalize a / (b.natAbs:Int)=q at *
  by_cases h2:a < 0
  ·have e3:decide (a < 0)=true:=by simpa using h2
   have h4:=hp.2.2.2 h2
   have e4:decide (q < 0)=true:=by simpa using h4
   have e5:decide (q.natAbs≠0)=true:=by simp;omega
   rw [e3,e4,e5];rfl
  ·have e3:decide (a < 0)=false:=by simpa using h2
   have h4:¬ q < 0:=fun hq=>h2 (hp.2.2.1 hq)
   have e4:decide (q < 0)=false:=by simpa using h4
   rw [e3,e4];rfl
theorem zQuo_zero (na nb:Bool) (A B:Option Addr) (k m:Nat) (a:Int) (w:World) (ha:IsInt w na A k a) (hb:IsInt w nb B m 0) :
  Calls Tryz.prog 183 #[.agg #[.bool na,.slice A k k],.agg #[.bool nb,.slice B m m]] w fun e w'=>e = .returned (.tuple #[.agg #[.bool false,.slice none 0 0],.agg #[.bool false,.slice none 0 0],.int .i64 11])∧Ext w w':=by
 obtain rfl:m=0:=hb.nat.k_zero.2 rfl
 obtain ⟨W0,HWW0,hXW0,hsW0,c0a,f0a,c0b,f0b,c1a,f1a,c1b,f1b,c2a,f2a,c2b,f2b,c3a,f3a,c3b,f3b⟩:=bx2222 w 49 49 49 49 (.bool na) (.slice A k k) (.bool nb) (.slice B 0 0) (.bool false) (.slice none 0 0) (.bool false) (.slice none 0 0)
 have HX:=zH hXW0
 have HC:=zH (Div_zero A B k a.natAbs W0)
 clear hXW0 ha hb
 go_enter Tryz.func183,Tryz.ntmps183
 go_wp2_with fail
 rw [HWW0.out]
 refine HC.out.mono ?_
 rintro e w1 ⟨rfl,hx⟩
 replace f2a:=hx.free f2a (zAA c2a)
 replace c2a:=hx.cell c2a
 replace f2b:=hx.free f2b (zAA c2b)
 replace c2b:=hx.cell c2b
 replace f3a:=hx.free f3a (zAA c3a)
 replace c3a:=hx.cell c3a
 replace f3b:=hx.free f3b (zAA c3b)
 replace c3b:=hx.cell c3b
 have hX:=zH (HX.out.trans hx)
 have hs1:w.heap.size+4≤w1.heap.size:=Nat.le_trans hsW0 hx.size
 have l0:w.heap.size < w1.heap.size:=by omega
 have l1:w.heap.size+1 < w1.heap.size:=by omega
 have l2:w.heap.size+1+1 < w1.heap.size:=by omega
 have l3:w.heap.size+1+1+1 < w1.heap.size:=by omega
 clear hx HX HC HWW0 hsW0
 go_wp2
 obtain ⟨W2,hWW2⟩:∃ W2:World,(((w1.setCell ⟨w.heap.size+1+1,0,none⟩ (.bool false)).setCell ⟨w.heap.size+1+1,1,none⟩ (.slice none 0 0)).setCell ⟨w.heap.size+1+1+1,0,none⟩ (.bool false)).setCell ⟨w.heap.size+1+1+1,1,none⟩ (.slice none 0 0)=W2:=⟨_,rfl⟩
 have z2a:W2.cell? ⟨w.heap.size+1+1,0,none⟩=some (.bool false):=by rw [← hWW2];simp [go_sem,c2a,c2b,c3a,c3b]
 have zf2a:W2.frozen? ⟨w.heap.size+1+1,0,none⟩=false:=by rw [← hWW2];simp [go_sem,f2a,f2b,f3a,f3b]
 have z2b:W2.cell? ⟨w.heap.size+1+1,1,none⟩=some (.slice none 0 0):=by rw [← hWW2];simp [go_sem,c2a,c2b,c3a,c3b]
 have zf2b:W2.frozen? ⟨w.heap.size+1+1,1,none⟩=false:=by rw [← hWW2];simp [go_sem,f2a,f2b,f3a,f3b]
 have z3a:W2.cell? ⟨w.heap.size+1+1+1,0,none⟩=some (.bool false):=by rw [← hWW2];simp [go_sem,c2a,c2b,c3a,c3b]
 have zf3a:W2.frozen? ⟨w.heap.size+1+1+1,0,none⟩=false:=by rw [← hWW2];simp [go_sem,f2a,f2b,f3a,f3b]
 have z3b:W2.cell? ⟨w.heap.size+1+1+1,1,none⟩=some (.slice none 0 0):=by rw [← hWW2];simp [go_sem,c2a,c2b,c3a,c3b]
 have zf3b:W2.frozen? ⟨w.heap.size+1+1+1,1,none⟩=false:=by rw [← hWW2];simp [go_sem,f2a,f2b,f3a,f3b]
 have znW2:∀ (A:Option Addr) (k n:Nat),IsNat w1 A k n→IsNat W2 A k n:=by intro A k n h;rw [← hWW2];exact ((((h.setBool c2a _).setBox (by rw [World.cell?_setCell_other _ _ _ _ (by intro h;injection h with h1 h2;omega)];exact c2b) _).setBool (by rw [World.cell?_setCell_other _ _ _ _ (by intro h;injection h with h1 h2;omega),World.cell?_setCell_other _ _ _ _ (by intro h;injection h with h1 h2;omega)];exact c3a) _).setBox (by rw [World.cell?_setCell_other _ _ _ _ (by intro h;injection h with h1 h2;omega),World.cell?_setCell_other _ _ _ _ (by intro h;injection h with h1 h2;omega),World.cell?_setCell_other _ _ _ _ (by intro h;injection h with h1 h2;omega)];exact c3b) _)
 have zxW2:∀ a:World,Ext a w1→a.heap.size≤w.heap.size→Ext a W2:=by intro a h hs;rw [← hWW2];exact (by repeat (first|exact h|refine Ext.setCell ?_ (by first|(simp only [];omega)) _))
 have HWW2:=zH hWW2
 clear hWW2
 have hX2:Hid (Ext w W2):=by rw [← HWW2.out];exact (by repeat (first|exact hX.out|refine Ext.setCell ?_ (by first|(simp only [];omega)) _))
 rw [HWW2.out]
 obtain ⟨W3,HWW3,hXW3,hsW3,cd0,fd0,cd1,fd1⟩:=bx11 W2 47 47 (.slice none 0 0) (.slice none 0 0)
 replace z2a:=hXW3.cell z2a
 replace z2b:=hXW3.cell z2b
 replace z3a:=hXW3.cell z3a
 replace z3b:=hXW3.cell z3b
 rw [HWW3.out]
 exact bodyPost_ret (v:=.tuple #[.agg #[.bool false,.slice none 0 0],.agg #[.bool false,.slice none 0 0],.int .i64 11]) (by simp [results,Tryz.results183,go_sem,z2a,z2b,z3a,z3b]) rfl ⟨rfl,hX2.out.trans hXW3⟩
set_option maxHeartbeats 40000000 in
set_option maxRecDepth 100000 in
theorem zQuo_pos (nb:Bool) (A B:Option Addr) (k m:Nat) (a b:Int) (w:World) (ha:IsInt w false A k a) (hb:IsInt w nb B m b) (hb0:b≠0) :
  Calls Tryz.prog 183 #[.agg #[.bool false,.slice A k k],.agg #[.bool nb,.slice B m m]] w fun e w'=>∃ n A' k' A2 k2,e = .returned (.tuple #[.agg #[.bool n,.slice A' k' k'],.agg #[.bool false,.slice A2 k2 k2],.int .i64 0])∧IsInt w' n A' k' (a / b)∧IsInt w' false A2 k2 (a % b)∧Ext w w':=by
 obtain ⟨W0,HWW0,hXW0,hsW0,c0a,f0a,c0b,f0b,c1a,f1a,c1b,f1b,c2a,f2a,c2b,f2b,c3a,f3a,c3b,f3b⟩:=bx2222 w 49 49 49 49 (.bool false) (.slice A k k) (.bool nb) (.slice B m m) (.bool false) (.slice none 0 0) (.bool false) (.slice none 0 0)
 have hk:=ha.k
 have hm:=hb.k
 have HX:=zH hXW0
 have HB:=zH (hb.ext hXW0)
 have HC:=zH (zCh A B k m a.natAbs b.natAbs W0 (ha.nat.ext hXW0) (hb.nat.ext hXW0) om om om)
 have hq:=quo_any a b hb0
 have hbn:bitsN (a.natAbs / b.natAbs)≤4096:=Nat.le_trans (zAG (Nat.div_le_self _ _)) ha.bits
 have hbm:bitsN (a.natAbs % b.natAbs)≤4096:=Nat.le_trans (zAG (Nat.le_of_lt (Nat.mod_lt _ om))) hb.bits
 have ha0:decide (a < 0)=false:=ha.sign.symm
 have ha1:¬ (a < 0∧a.natAbs % b.natAbs≠0):=by simp at ha0;omega
 rw [if_neg ha1,if_neg ha1,ha0,← hb.sign,show (false != nb)=nb by cases nb <;> rfl] at hq
 have HQ:=zH hq
 have HBits:=zH (show bitsN (a.natAbs / b.natAbs)≤4096∧bitsN (a.natAbs % b.natAbs)≤4096 from ⟨hbn,hbm⟩)
 clear ha0 ha1
 clear hXW0 ha hb hq hbn hbm
 go_enter Tryz.func183,Tryz.ntmps183
 go_wp2_with fail
 rw [HWW0.out]
 refine HC.out.mono ?_
 rintro e w1 ⟨A1,k1,A2,k2,rfl,hn1,hn2,hx⟩
 replace c0a:=hx.cell c0a
 replace c1a:=hx.cell c1a
 replace c1b:=hx.cell c1b
 replace f2a:=hx.free f2a (zAA c2a)
 replace c2a:=hx.cell c2a
 replace f2b:=hx.free f2b (zAA c2b)
 replace c2b:=hx.cell c2b
 replace f3a:=hx.free f3a (zAA c3a)
 replace c3a:=hx.cell c3a
 replace f3b:=hx.free f3b (zAA c3b)
 replace c3b:=hx.cell c3b
 have hX:=zH (HX.out.trans hx)
 have HN1:=zH hn1
 have HN2:=zH hn2
 have HB1:=zH (HB.out.ext hx)
 have hs1:w.heap.size+4≤w1.heap.size:=Nat.le_trans hsW0 hx.size
 have l0:w.heap.size < w1.heap.size:=by omega
 have l1:w.heap.size+1 < w1.heap.size:=by omega
 have l2:w.heap.size+1+1 < w1.heap.size:=by omega
 have l3:w.heap.size+1+1+1 < w1.heap.size:=by omega
 clear hx hn1 hn2 HX HC HWW0 hsW0 HB f0a f0b f1a f1b c0b
 go_wp2
 obtain ⟨W1,HWW1,hXW1,hsW1,cd0,fd0,cd1,fd1⟩:=bx11 w1 47 47 (.slice A1 k1 k1) (.slice A2 k2 k2)
 replace c0a:=hXW1.cell c0a
 replace c1a:=hXW1.cell c1a
 replace c1b:=hXW1.cell c1b
 replace f2a:=hXW1.free f2a (zAA c2a)
 replace c2a:=hXW1.cell c2a
 replace f2b:=hXW1.free f2b (zAA c2b)
 replace c2b:=hXW1.cell c2b
 replace f3a:=hXW1.free f3a (zAA c3a)
 replace c3a:=hXW1.cell c3a
 replace f3b:=hXW1.free f3b (zAA c3b)
 replace c3b:=hXW1.cell c3b
 have hX1:=zH (hX.out.trans hXW1)
 have HP1:=zH (HN1.out.ext hXW1)
 have HP2:=zH (HN2.out.ext hXW1)
 clear hXW1 hX HN1 HN2 HB1
 rw [HWW1.out]
 have HM1:=zH (fun W (h:Ext W1 W)=>zAd nb A1 k1 (a.natAbs / b.natAbs) W (HP1.out.ext h) HBits.out.1)
 have HM2:=zH (fun W (h:Ext W1 W)=>zAd false A2 k2 (a.natAbs % b.natAbs) W (HP2.out.ext h) HBits.out.2)
 simp only [Bool.false_and] at HM2
 obtain ⟨nq,hnq⟩:∃ nq,(nb && decide ((a.natAbs / b.natAbs)≠0))=nq:=⟨_,rfl⟩
 have HS:Hid (nq=decide (a / b < 0)):=by have:=HQ.out.2.2;rw [HQ.out.1] at this;rw [← hnq];exact this
 rw [hnq] at HM1
 clear hnq
 have b0:W1.drew.cell? ⟨w.heap.size,0,none⟩=some (.bool false):=c0a
 have b1:W1.drew.cell? ⟨w.heap.size+1,0,none⟩=some (.bool nb):=c1a
 have b2:W1.drew.cell? ⟨w1.heap.size,0,none⟩=some (.slice A1 k1 k1):=cd0
 have b3:W1.drew.cell? ⟨w1.heap.size+1,0,none⟩=some (.slice A2 k2 k2):=cd1
 go_region_held3 (fun w'=>w'.cell? ⟨w.heap.size,0,none⟩=some (.bool false)∧w'.cell? ⟨w.heap.size+1,0,none⟩=some (.bool nb)∧w'.cell? ⟨w1.heap.size,0,none⟩=some (.slice A1 k1 k1)∧w'.cell? ⟨w1.heap.size+1,0,none⟩=some (.slice A2 k2 k2)) (refine ⟨?_,?_,?_,?_⟩ <;> first|(with_reducible first|exact b0|exact b1|exact b2|exact b3|exact q0|exact q1|exact q2|exact q3|exact s0|exact s1|exact s2|exact s3)|(rw [World.cell?_setCell_other _ _ _ _ (by intro h;injection h with h1 h2;omega),World.cell?_setCell_other _ _ _ _ (by intro h;injection h with h1 h2;omega)];(with_reducible first|exact s0|exact s1|exact s2|exact s3))|(rw [World.cell?_setCell_other _ _ _ _ (by intro h;injection h with h1 h2;omega),World.cell?_setCell_other _ _ _ _ (by intro h;injection h with h1 h2;omega),World.cell?_setCell_other _ _ _ _ (by intro h;injection h with h1 h2;omega),World.cell?_setCell_other _ _ _ _ (by intro h;injection h with h1 h2;omega)];(with_reducible first|exact s0|exact s1|exact s2|exact s3)))
  (first
   | (go_at_call_of 114 (Value.agg #[Value.slice A1 k1 k1]);refine (HM1.out _ (by with_reducible first|exact (Ext.refl W1).drew)).mono ?_;rintro e w2 ⟨rfl,hx⟩;have hxA:Ext W1 w2:=(by with_reducible first|exact Ext.trans ((Ext.refl W1).drew) hx);have q0:=hxA.cell c0a;have q1:=hxA.cell c1a;have q2:=hxA.cell cd0;have q3:=hxA.cell cd1;have q4:=hxA.cell c2a;have q5:=hxA.cell c2b;have q6:=hxA.cell c3a;have q7:=hxA.cell c3b;have r4:=hxA.free f2a (zAA c2a);have r5:=hxA.free f2b (zAA c2b);have r6:=hxA.free f3a (zAA c3a);have r7:=hxA.free f3b (zAA c3b))
   | (go_at_call_of 114 (Value.agg #[Value.slice A2 k2 k2]);refine (HM2.out _ (by with_reducible first|exact hxA)).mono ?_;rintro e w3 ⟨rfl,hy⟩;have hyA:Ext W1 w3:=(by with_reducible first|exact Ext.trans hxA hy);have s0:=hyA.cell c0a;have s1:=hyA.cell c1a;have s2:=hyA.cell cd0;have s3:=hyA.cell cd1;have s4:=hyA.cell c2a;have s5:=hyA.cell c2b;have s6:=hyA.cell c3a;have s7:=hyA.cell c3b;have t4:=hyA.free f2a (zAA c2a);have t5:=hyA.free f2b (zAA c2b);have t6:=hyA.free f3a (zAA c3a);have t7:=hyA.free f3b (zAA c3b)))
 go_wp2
 have HX3:=zH (hX1.out.trans hyA)
 have HP1':=zH (HP1.out.ext hyA)
 have HP2':=zH (HP2.out.ext hyA)
 clear c0a c1a c2a c2b c3a c3b cd0 cd1 f2a f2b f3a f3b hx hxA hy hyA q0 q1 q2 q3 q4 q5 q6 q7 r4 r5 r6 r7 b0 b1 b2 b3 s0 s1 s2 s3
 have c2a:=s4
 have c2b:=s5
 have c3a:=s6
 have c3b:=s7
 have f2a:=t4
 have f2b:=t5
 have f3a:=t6
 have f3b:=t7
 clear s4 s5 s6 s7 t4 t5 t6 t7
 obtain ⟨W4,hWW4⟩:∃ W4:World,(((w3.setCell ⟨w.heap.size+1+1,0,none⟩ (.bool nq)).setCell ⟨w.heap.size+1+1,1,none⟩ (.slice A1 k1 k1)).setCell ⟨w.heap.size+1+1+1,0,none⟩ (.bool false)).setCell ⟨w.heap.size+1+1+1,1,none⟩ (.slice A2 k2 k2)=W4:=⟨_,rfl⟩
 have z2a:W4.cell? ⟨w.heap.size+1+1,0,none⟩=some (.bool nq):=by rw [← hWW4];simp [go_sem,c2a,c2b,c3a,c3b]
 have zf2a:W4.frozen? ⟨w.heap.size+1+1,0,none⟩=false:=by rw [← hWW4];simp [go_sem,f2a,f2b,f3a,f3b]
 have z2b:W4.cell? ⟨w.heap.size+1+1,1,none⟩=some (.slice A1 k1 k1):=by rw [← hWW4];simp [go_sem,c2a,c2b,c3a,c3b]
 have zf2b:W4.frozen? ⟨w.heap.size+1+1,1,none⟩=false:=by rw [← hWW4];simp [go_sem,f2a,f2b,f3a,f3b]
 have z3a:W4.cell? ⟨w.heap.size+1+1+1,0,none⟩=some (.bool false):=by rw [← hWW4];simp [go_sem,c2a,c2b,c3a,c3b]
 have zf3a:W4.frozen? ⟨w.heap.size+1+1+1,0,none⟩=false:=by rw [← hWW4];simp [go_sem,f2a,f2b,f3a,f3b]
 have z3b:W4.cell? ⟨w.heap.size+1+1+1,1,none⟩=some (.slice A2 k2 k2):=by rw [← hWW4];simp [go_sem,c2a,c2b,c3a,c3b]
 have zf3b:W4.frozen? ⟨w.heap.size+1+1+1,1,none⟩=false:=by rw [← hWW4];simp [go_sem,f2a,f2b,f3a,f3b]
 have znW4:∀ (A:Option Addr) (k n:Nat),IsNat w3 A k n→IsNat W4 A k n:=by intro A k n h;rw [← hWW4];exact ((((h.setBool c2a _).setBox (by rw [World.cell?_setCell_other _ _ _ _ (by intro h;injection h with h1 h2;omega)];exact c2b) _).setBool (by rw [World.cell?_setCell_other _ _ _ _ (by intro h;injection h with h1 h2;omega),World.cell?_setCell_other _ _ _ _ (by intro h;injection h with h1 h2;omega)];exact c3a) _).setBox (by rw [World.cell?_setCell_other _ _ _ _ (by intro h;injection h with h1 h2;omega),World.cell?_setCell_other _ _ _ _ (by intro h;injection h with h1 h2;omega),World.cell?_setCell_other _ _ _ _ (by intro h;injection h with h1 h2;omega)];exact c3b) _)
 have zxW4:∀ a:World,Ext a w3→a.heap.size≤w.heap.size→Ext a W4:=by intro a h hs;rw [← hWW4];exact (by repeat (first|exact h|refine Ext.setCell ?_ (by first|(simp only [];omega)) _))
 have HWW4:=zH hWW4
 clear hWW4
 rw [HWW4.out]
 have HX4:=zH (zxW4 w HX3.out (Nat.le_refl _))
 have HN1:=zH (znW4 _ _ _ HP1'.out)
 have HN2:=zH (znW4 _ _ _ HP2'.out)
 refine bodyPost_ret (v:=.tuple #[.agg #[.bool nq,.slice A1 k1 k1],.agg #[.bool false,.slice A2 k2 k2],.int .i64 0]) (by simp [results,Tryz.results183,go_sem,z2a,z2b,z3a,z3b]) rfl ⟨nq,_,_,_,_,rfl,⟨?_,HS.out,?_⟩,⟨?_,?_,?_⟩,HX4.out⟩
 ·rw [HQ.out.1];exact HN1.out
 ·rw [HQ.out.1];exact HBits.out.1
 ·rw [HQ.out.2.1];exact HN2.out
 ·rw [HQ.out.2.1];exact (decide_eq_false (Int.not_lt.2 (Int.natCast_nonneg _))).symm
 ·rw [HQ.out.2.1];exact HBits.out.2
set_option maxHeartbeats 40000000 in
set_option maxRecDepth 100000 in
theorem zQuo_negz (nb:Bool) (A B:Option Addr) (k m:Nat) (a b:Int) (w:World) (ha:IsInt w true A k a) (hb:IsInt w nb B m b) (hb0:b≠0) (hm0:a.natAbs % b.natAbs=0) :
  Calls Tryz.prog 183 #[.agg #[.bool true,.slice A k k],.agg #[.bool nb,.slice B m m]] w fun e w'=>∃ n A' k' A2 k2,e = .returned (.tuple #[.agg #[.bool n,.slice A' k' k'],.agg #[.bool false,.slice A2 k2 k2],.int .i64 0])∧IsInt w' n A' k' (a / b)∧IsInt w' false A2 k2 (a % b)∧Ext w w':=by
 obtain ⟨W0,HWW0,hXW0,hsW0,c0a,f0a,c0b,f0b,c1a,f1a,c1b,f1b,c2a,f2a,c2b,f2b,c3a,f3a,c3b,f3b⟩:=bx2222 w 49 49 49 49 (.bool true) (.slice A k k) (.bool nb) (.slice B m m) (.bool false) (.slice none 0 0) (.bool false) (.slice none 0 0)
 have hk:=ha.k
 have hm:=hb.k
 have HX:=zH hXW0
 have HB:=zH (hb.ext hXW0)
 have HC:=zH (zCh A B k m a.natAbs b.natAbs W0 (ha.nat.ext hXW0) (hb.nat.ext hXW0) om om om)
 have hq:=quo_any a b hb0
 have hbn:bitsN (a.natAbs / b.natAbs)≤4096:=Nat.le_trans (zAG (Nat.div_le_self _ _)) ha.bits
 have hbm:bitsN (a.natAbs % b.natAbs)≤4096:=Nat.le_trans (zAG (Nat.le_of_lt (Nat.mod_lt _ om))) hb.bits
 have ha0:decide (a < 0)=true:=ha.sign.symm
 have ha1:¬ (a < 0∧a.natAbs % b.natAbs≠0):=by omega
 rw [if_neg ha1,if_neg ha1,ha0,← hb.sign,show (true != nb) = !nb by cases nb <;> rfl] at hq
 have HQ:=zH hq
 have HBits:=zH (show bitsN (a.natAbs / b.natAbs)≤4096∧bitsN (a.natAbs % b.natAbs)≤4096 from ⟨hbn,hbm⟩)
 have HM0:=zH hm0
 clear ha0 ha1 hm0
 clear hXW0 ha hb hq hbn hbm
 go_enter Tryz.func183,Tryz.ntmps183
 go_wp2_with fail
 rw [HWW0.out]
 refine HC.out.mono ?_
 rintro e w1 ⟨A1,k1,A2,k2,rfl,hn1,hn2,hx⟩
 replace c0a:=hx.cell c0a
 replace c1a:=hx.cell c1a
 replace c1b:=hx.cell c1b
 replace f2a:=hx.free f2a (zAA c2a)
 replace c2a:=hx.cell c2a
 replace f2b:=hx.free f2b (zAA c2b)
 replace c2b:=hx.cell c2b
 replace f3a:=hx.free f3a (zAA c3a)
 replace c3a:=hx.cell c3a
 replace f3b:=hx.free f3b (zAA c3b)
 replace c3b:=hx.cell c3b
 have hX:=zH (HX.out.trans hx)
 have HN1:=zH hn1
 have HN2:=zH hn2
 have HB1:=zH (HB.out.ext hx)
 have hs1:w.heap.size+4≤w1.heap.size:=Nat.le_trans hsW0 hx.size
 have l0:w.heap.size < w1.heap.size:=by omega
 have l1:w.heap.size+1 < w1.heap.size:=by omega
 have l2:w.heap.size+1+1 < w1.heap.size:=by omega
 have l3:w.heap.size+1+1+1 < w1.heap.size:=by omega
 clear hx hn1 hn2 HX HC HWW0 hsW0 HB f0a f0b f1a f1b c0b
 go_wp2_with fail
 obtain ⟨W1,HWW1,hXW1,hsW1,cd0,fd0,cd1,fd1⟩:=bx11 w1 47 47 (.slice A1 k1 k1) (.slice A2 k2 k2)
 replace c0a:=hXW1.cell c0a
 replace c1a:=hXW1.cell c1a
 replace c1b:=hXW1.cell c1b
 replace f2a:=hXW1.free f2a (zAA c2a)
 replace c2a:=hXW1.cell c2a
 replace f2b:=hXW1.free f2b (zAA c2b)
 replace c2b:=hXW1.cell c2b
 replace f3a:=hXW1.free f3a (zAA c3a)
 replace c3a:=hXW1.cell c3a
 replace f3b:=hXW1.free f3b (zAA c3b)
 replace c3b:=hXW1.cell c3b
 have HBi:=zH (zAc A2 k2 _ W1 (HN2.out.ext hXW1) (by have:=zAK HN2.out HBits.out.2;omega))
 have hX1':=zH (hX.out.trans hXW1)
 have HQ1:=zH (HN1.out.ext hXW1)
 have HQ2:=zH (HN2.out.ext hXW1)
 have HQB:=zH (HB1.out.ext hXW1)
 clear hXW1 hX HN1 HN2 HB1
 rw [HWW1.out]
 refine HBi.out.mono ?_
 rintro e Wb ⟨rfl,hx⟩
 replace c0a:=hx.cell c0a
 replace c1a:=hx.cell c1a
 replace c1b:=hx.cell c1b
 replace f2a:=hx.free f2a (zAA c2a)
 replace c2a:=hx.cell c2a
 replace f2b:=hx.free f2b (zAA c2b)
 replace c2b:=hx.cell c2b
 replace f3a:=hx.free f3a (zAA c3a)
 replace c3a:=hx.cell c3a
 replace f3b:=hx.free f3b (zAA c3b)
 replace c3b:=hx.cell c3b
 replace fd0:=hx.free fd0 (zAA cd0)
 replace cd0:=hx.cell cd0
 replace fd1:=hx.free fd1 (zAA cd1)
 replace cd1:=hx.cell cd1
 have hX1:=zH (hX1'.out.trans hx)
 have HP1:=zH (HQ1.out.ext hx)
 have HP2:=zH (HQ2.out.ext hx)
 have HPB:=zH (HQB.out.ext hx)
 have hsb:w1.heap.size+2≤Wb.heap.size:=Nat.le_trans hsW1 hx.size
 clear hx hX1' HQ1 HQ2 HQB HBi HWW1 hsW1
 rw [show bitsN (a.natAbs % b.natAbs)=0 by rw [HM0.out];rfl]
 go_wp2
 have HM1:=zH (fun W (h:Ext Wb W)=>zAd (!nb) A1 k1 (a.natAbs / b.natAbs) W (HP1.out.ext h) HBits.out.1)
 have HM2:=zH (fun W (h:Ext Wb W)=>zAd false A2 k2 (a.natAbs % b.natAbs) W (HP2.out.ext h) HBits.out.2)
 simp only [Bool.false_and] at HM2
 obtain ⟨nq,hnq⟩:∃ nq,((!nb) && decide ((a.natAbs / b.natAbs)≠0))=nq:=⟨_,rfl⟩
 have HS:Hid (nq=decide (a / b < 0)):=by have:=HQ.out.2.2;rw [HQ.out.1] at this;rw [← hnq];exact this
 rw [hnq] at HM1
 clear hnq
 have b0:Wb.drew.cell? ⟨w.heap.size,0,none⟩=some (.bool true):=c0a
 have b1:Wb.drew.cell? ⟨w.heap.size+1,0,none⟩=some (.bool nb):=c1a
 have b2:Wb.drew.cell? ⟨w1.heap.size,0,none⟩=some (.slice A1 k1 k1):=cd0
 have b3:Wb.drew.cell? ⟨w1.heap.size+1,0,none⟩=some (.slice A2 k2 k2):=cd1
 go_region_held3 (fun w'=>w'.cell? ⟨w.heap.size,0,none⟩=some (.bool true)∧w'.cell? ⟨w.heap.size+1,0,none⟩=some (.bool nb)∧w'.cell? ⟨w1.heap.size,0,none⟩=some (.slice A1 k1 k1)∧w'.cell? ⟨w1.heap.size+1,0,none⟩=some (.slice A2 k2 k2)) (refine ⟨?_,?_,?_,?_⟩ <;> first|(with_reducible first|exact b0|exact b1|exact b2|exact b3|exact q0|exact q1|exact q2|exact q3|exact s0|exact s1|exact s2|exact s3)|(rw [World.cell?_setCell_other _ _ _ _ (by intro h;injection h with h1 h2;omega),World.cell?_setCell_other _ _ _ _ (by intro h;injection h with h1 h2;omega)];(with_reducible first|exact s0|exact s1|exact s2|exact s3))|(rw [World.cell?_setCell_other _ _ _ _ (by intro h;injection h with h1 h2;omega),World.cell?_setCell_other _ _ _ _ (by intro h;injection h with h1 h2;omega),World.cell?_setCell_other _ _ _ _ (by intro h;injection h with h1 h2;omega),World.cell?_setCell_other _ _ _ _ (by intro h;injection h with h1 h2;omega)];(with_reducible first|exact s0|exact s1|exact s2|exact s3)))
  (first
   | (go_at_call_of 114 (Value.agg #[Value.slice A1 k1 k1]);refine (HM1.out _ (by with_reducible first|exact (Ext.refl Wb).drew)).mono ?_;rintro e w2 ⟨rfl,hx⟩;have hxA:Ext Wb w2:=(by with_reducible first|exact Ext.trans ((Ext.refl Wb).drew) hx);have q0:=hxA.cell c0a;have q1:=hxA.cell c1a;have q2:=hxA.cell cd0;have q3:=hxA.cell cd1;have q4:=hxA.cell c2a;have q5:=hxA.cell c2b;have q6:=hxA.cell c3a;have q7:=hxA.cell c3b;have r4:=hxA.free f2a (zAA c2a);have r5:=hxA.free f2b (zAA c2b);have r6:=hxA.free f3a (zAA c3a);have r7:=hxA.free f3b (zAA c3b))
   | (go_at_call_of 114 (Value.agg #[Value.slice A2 k2 k2]);refine (HM2.out _ (by with_reducible first|exact hxA)).mono ?_;rintro e w3 ⟨rfl,hy⟩;have hyA:Ext Wb w3:=(by with_reducible first|exact Ext.trans hxA hy);have s0:=hyA.cell c0a;have s1:=hyA.cell c1a;have s2:=hyA.cell cd0;have s3:=hyA.cell cd1;have s4:=hyA.cell c2a;have s5:=hyA.cell c2b;have s6:=hyA.cell c3a;have s7:=hyA.cell c3b;have t4:=hyA.free f2a (zAA c2a);have t5:=hyA.free f2b (zAA c2b);have t6:=hyA.free f3a (zAA c3a);have t7:=hyA.free f3b (zAA c3b)))
 go_wp2
 have HX3:=zH (hX1.out.trans hyA)
 have HP1':=zH (HP1.out.ext hyA)
 have HP2':=zH (HP2.out.ext hyA)
 clear c0a c1a c2a c2b c3a c3b cd0 cd1 f2a f2b f3a f3b hx hxA hy hyA q0 q1 q2 q3 q4 q5 q6 q7 r4 r5 r6 r7 b0 b1 b2 b3 s0 s1 s2 s3
 have c2a:=s4
 have c2b:=s5
 have c3a:=s6
 have c3b:=s7
 have f2a:=t4
 have f2b:=t5
 have f3a:=t6
 have f3b:=t7
 clear s4 s5 s6 s7 t4 t5 t6 t7
 obtain ⟨W4,hWW4⟩:∃ W4:World,(((w3.setCell ⟨w.heap.size+1+1,0,none⟩ (.bool nq)).setCell ⟨w.heap.size+1+1,1,none⟩ (.slice A1 k1 k1)).setCell ⟨w.heap.size+1+1+1,0,none⟩ (.bool false)).setCell ⟨w.heap.size+1+1+1,1,none⟩ (.slice A2 k2 k2)=W4:=⟨_,rfl⟩
 have z2a:W4.cell? ⟨w.heap.size+1+1,0,none⟩=some (.bool nq):=by rw [← hWW4];simp [go_sem,c2a,c2b,c3a,c3b]
 have zf2a:W4.frozen? ⟨w.heap.size+1+1,0,none⟩=false:=by rw [← hWW4];simp [go_sem,f2a,f2b,f3a,f3b]
 have z2b:W4.cell? ⟨w.heap.size+1+1,1,none⟩=some (.slice A1 k1 k1):=by rw [← hWW4];simp [go_sem,c2a,c2b,c3a,c3b]
 have zf2b:W4.frozen? ⟨w.heap.size+1+1,1,none⟩=false:=by rw [← hWW4];simp [go_sem,f2a,f2b,f3a,f3b]
 have z3a:W4.cell? ⟨w.heap.size+1+1+1,0,none⟩=some (.bool false):=by rw [← hWW4];simp [go_sem,c2a,c2b,c3a,c3b]
 have zf3a:W4.frozen? ⟨w.heap.size+1+1+1,0,none⟩=false:=by rw [← hWW4];simp [go_sem,f2a,f2b,f3a,f3b]
 have z3b:W4.cell? ⟨w.heap.size+1+1+1,1,none⟩=some (.slice A2 k2 k2):=by rw [← hWW4];simp [go_sem,c2a,c2b,c3a,c3b]
 have zf3b:W4.frozen? ⟨w.heap.size+1+1+1,1,none⟩=false:=by rw [← hWW4];simp [go_sem,f2a,f2b,f3a,f3b]
 have znW4:∀ (A:Option Addr) (k n:Nat),IsNat w3 A k n→IsNat W4 A k n:=by intro A k n h;rw [← hWW4];exact ((((h.setBool c2a _).setBox (by rw [World.cell?_setCell_other _ _ _ _ (by intro h;injection h with h1 h2;omega)];exact c2b) _).setBool (by rw [World.cell?_setCell_other _ _ _ _ (by intro h;injection h with h1 h2;omega),World.cell?_setCell_other _ _ _ _ (by intro h;injection h with h1 h2;omega)];exact c3a) _).setBox (by rw [World.cell?_setCell_other _ _ _ _ (by intro h;injection h with h1 h2;omega),World.cell?_setCell_other _ _ _ _ (by intro h;injection h with h1 h2;omega),World.cell?_setCell_other _ _ _ _ (by intro h;injection h with h1 h2;omega)];exact c3b) _)
 have zxW4:∀ a:World,Ext a w3→a.heap.size≤w.heap.size→Ext a W4:=by intro a h hs;rw [← hWW4];exact (by repeat (first|exact h|refine Ext.setCell ?_ (by first|(simp only [];omega)) _))
 have HWW4:=zH hWW4
 clear hWW4
 rw [HWW4.out]
 have HX4:=zH (zxW4 w HX3.out (Nat.le_refl _))
 have HN1:=zH (znW4 _ _ _ HP1'.out)
 have HN2:=zH (znW4 _ _ _ HP2'.out)
 refine bodyPost_ret (v:=.tuple #[.agg #[.bool nq,.slice A1 k1 k1],.agg #[.bool false,.slice A2 k2 k2],.int .i64 0]) (by simp [results,Tryz.results183,go_sem,z2a,z2b,z3a,z3b]) rfl ⟨nq,_,_,_,_,rfl,⟨?_,HS.out,?_⟩,⟨?_,?_,?_⟩,HX4.out⟩
 ·rw [HQ.out.1];exact HN1.out
 ·rw [HQ.out.1];exact HBits.out.1
 ·rw [HQ.out.2.1];exact HN2.out
 ·rw [HQ.out.2.1];exact (decide_eq_false (Int.not_lt.2 (Int.natCast_nonneg _))).symm
 ·rw [HQ.out.2.1];exact HBits.out.2
theorem quo_le (a b:Nat) (hb:0 < b) (h:a % b≠0):a / b+1≤a:=by
 have h1:=Nat.div_add_mod a b
 have h2:=Nat.mod_lt a hb
 have h3:2*(a / b)≤b*(a / b):=Nat.mul_le_mul_right _ om
 generalize a / b=q at *
 generalize b*q=bq at *
 omega
set_option maxHeartbeats 40000000 in
set_option maxRecDepth 100000 in
theorem zQuo_negr (nb:Bool) (A B:Option Addr) (k m:Nat) (a b:Int) (w:World) (ha:IsInt w true A k a) (hb:IsInt w nb B m b) (hb0:b≠0) (hm0:a.natAbs % b.natAbs≠0) :
  Calls Tryz.prog 183 #[.agg #[.bool true,.slice A k k],.agg #[.bool nb,.slice B m m]] w fun e w'=>∃ n A' k' A2 k2,e = .returned (.tuple #[.agg #[.bool n,.slice A' k' k'],.agg #[.bool false,.slice A2 k2 k2],.int .i64 0])∧IsInt w' n A' k' (a / b)∧IsInt w' false A2 k2 (a % b)∧Ext w w':=by
 obtain ⟨W0,HWW0,hXW0,hsW0,c0a,f0a,c0b,f0b,c1a,f1a,c1b,f1b,c2a,f2a,c2b,f2b,c3a,f3a,c3b,f3b⟩:=bx2222 w 49 49 49 49 (.bool true) (.slice A k k) (.bool nb) (.slice B m m) (.bool false) (.slice none 0 0) (.bool false) (.slice none 0 0)
 have hk:=ha.k
 have hm:=hb.k
 have HX:=zH hXW0
 have HB:=zH (hb.ext hXW0)
 have HC:=zH (zCh A B k m a.natAbs b.natAbs W0 (ha.nat.ext hXW0) (hb.nat.ext hXW0) om om om)
 have hq:=quo_any a b hb0
 have hbn:bitsN (a.natAbs / b.natAbs)≤4096:=Nat.le_trans (zAG (Nat.div_le_self _ _)) ha.bits
 have hbm:bitsN (a.natAbs % b.natAbs)≤4096:=Nat.le_trans (zAG (Nat.le_of_lt (Nat.mod_lt _ om))) hb.bits
 have ha0:decide (a < 0)=true:=ha.sign.symm
 have ha1:a < 0∧a.natAbs % b.natAbs≠0:=⟨by simpa using ha0,hm0⟩
 rw [if_pos ha1,if_pos ha1,ha0,← hb.sign,show (true != nb) = !nb by cases nb <;> rfl] at hq
 have HQ:=zH hq
 have hle:a.natAbs / b.natAbs+1≤a.natAbs:=quo_le _ _ om hm0
 have HBits':=zH (show bitsN (a.natAbs / b.natAbs)≤4096∧bitsN (a.natAbs % b.natAbs)≤4096 from ⟨hbn,hbm⟩)
 have HBits:=zH (show bitsN (a.natAbs / b.natAbs+1)≤4096∧bitsN (b.natAbs - a.natAbs % b.natAbs)≤4096 from ⟨Nat.le_trans (zAG hle) ha.bits,Nat.le_trans (zAG (Nat.sub_le _ _)) hb.bits⟩)
 have HMlt:=zH (Nat.mod_lt a.natAbs (show 0 < b.natAbs by omega))
 have HM0:=zH (zAf hm0)
 clear ha0 ha1 hm0 hle
 clear hXW0 ha hb hq hbn hbm
 go_enter Tryz.func183,Tryz.ntmps183
 go_wp2_with fail
 rw [HWW0.out]
 refine HC.out.mono ?_
 rintro e w1 ⟨A1,k1,A2,k2,rfl,hn1,hn2,hx⟩
 replace c0a:=hx.cell c0a
 replace c1a:=hx.cell c1a
 replace c1b:=hx.cell c1b
 replace f2a:=hx.free f2a (zAA c2a)
 replace c2a:=hx.cell c2a
 replace f2b:=hx.free f2b (zAA c2b)
 replace c2b:=hx.cell c2b
 replace f3a:=hx.free f3a (zAA c3a)
 replace c3a:=hx.cell c3a
 replace f3b:=hx.free f3b (zAA c3b)
 replace c3b:=hx.cell c3b
 have hX:=zH (HX.out.trans hx)
 have HN1:=zH hn1
 have HN2:=zH hn2
 have HB1:=zH (HB.out.ext hx)
 have hs1:w.heap.size+4≤w1.heap.size:=Nat.le_trans hsW0 hx.size
 have l0:w.heap.size < w1.heap.size:=by omega
 have l1:w.heap.size+1 < w1.heap.size:=by omega
 have l2:w.heap.size+1+1 < w1.heap.size:=by omega
 have l3:w.heap.size+1+1+1 < w1.heap.size:=by omega
 clear hx hn1 hn2 HX HC HWW0 hsW0 HB f0a f0b f1a f1b c0b
 go_wp2_with fail
 obtain ⟨W1,HWW1,hXW1,hsW1,cd0,fd0,cd1,fd1⟩:=bx11 w1 47 47 (.slice A1 k1 k1) (.slice A2 k2 k2)
 replace c0a:=hXW1.cell c0a
 replace c1a:=hXW1.cell c1a
 replace c1b:=hXW1.cell c1b
 replace f2a:=hXW1.free f2a (zAA c2a)
 replace c2a:=hXW1.cell c2a
 replace f2b:=hXW1.free f2b (zAA c2b)
 replace c2b:=hXW1.cell c2b
 replace f3a:=hXW1.free f3a (zAA c3a)
 replace c3a:=hXW1.cell c3a
 replace f3b:=hXW1.free f3b (zAA c3b)
 replace c3b:=hXW1.cell c3b
 have HBi:=zH (zAc A2 k2 _ W1 (HN2.out.ext hXW1) (by have:=zAK HN2.out HBits'.out.2;omega))
 have hX1':=zH (hX.out.trans hXW1)
 have HQ1:=zH (HN1.out.ext hXW1)
 have HQ2:=zH (HN2.out.ext hXW1)
 have HQB:=zH (HB1.out.ext hXW1)
 clear hXW1 hX HN1 HN2 HB1
 rw [HWW1.out]
 refine HBi.out.mono ?_
 rintro e Wb ⟨rfl,hx⟩
 replace c0a:=hx.cell c0a
 replace c1a:=hx.cell c1a
 replace c1b:=hx.cell c1b
 replace f2a:=hx.free f2a (zAA c2a)
 replace c2a:=hx.cell c2a
 replace f2b:=hx.free f2b (zAA c2b)
 replace c2b:=hx.cell c2b
 replace f3a:=hx.free f3a (zAA c3a)
 replace c3a:=hx.cell c3a
 replace f3b:=hx.free f3b (zAA c3b)
 replace c3b:=hx.cell c3b
 replace fd0:=hx.free fd0 (zAA cd0)
 replace cd0:=hx.cell cd0
 replace fd1:=hx.free fd1 (zAA cd1)
 replace cd1:=hx.cell cd1
 have hX1:=zH (hX1'.out.trans hx)
 have HP1:=zH (HQ1.out.ext hx)
 have HP2:=zH (HQ2.out.ext hx)
 have HPB:=zH (HQB.out.ext hx)
 have hsb:w1.heap.size+2≤Wb.heap.size:=Nat.le_trans hsW1 hx.size
 clear hx hX1' HQ1 HQ2 HQB HBi HWW1 hsW1
 obtain ⟨bt,hbt⟩:∃ bt,bitsN (a.natAbs % b.natAbs)=bt:=⟨_,rfl⟩
 rw [hbt]
 have hbt0:0 < bt:=by rw [← hbt];exact HM0.out
 have hbd:decide ((0:Int) < (bt:Int))=true:=by simp;omega
 clear hbt
 have HOf:=zH (fun W=>of_any 1 W om)
 have HAd:=zH (fun A' k' W (h1:Ext Wb W) (h:IsNat W A' k' 1)=>Add_any A1 A' k1 k' (a.natAbs / b.natAbs) 1 W (HP1.out.ext h1) h HBits'.out.1 (by decide))
 have hfN:fitN (a.natAbs / b.natAbs+1)=a.natAbs / b.natAbs+1:=if_pos HBits.out.1
 rw [hfN] at HAd
 clear hfN
 go_wp2
 go_region_with (first
  | (go_at_call 61;refine (HOf.out _).mono ?_;rintro e w2 ⟨A',k',rfl,hn,_,hx⟩;have hxA:=((Ext.refl Wb).drew).trans hx;have q0:=hxA.cell c0a;have q1:=hxA.cell c1a;have q2:=hxA.cell c1b;have q3:=hxA.cell cd0;have q4:=hxA.cell cd1;have r3:=hxA.free fd0 (zAA cd0);have HNn:=zH hn;clear hn)
  | (go_at_call 115;refine (HAd.out _ _ w2 hxA HNn.out).mono ?_;rintro e w3 ⟨A3,k3,rfl,hn,hy⟩;have hyA:=hxA.trans hy;have HN3:=zH hn;clear hn;have s3:=hyA.cell cd0;have t3:=hyA.free fd0 (zAA cd0)))
 all_goals
  have u0:=hyA.cell c0a
  have u1:=hyA.cell c1a
  have u2:=hyA.cell c1b
  have u3:=hyA.cell cd1
  have u4:=hyA.cell c2a
  have u5:=hyA.cell c2b
  have u6:=hyA.cell c3a
  have u7:=hyA.cell c3b
  have y3:=hyA.free fd1 (zAA cd1)
  have y4:=hyA.free f2a (zAA c2a)
  have y5:=hyA.free f2b (zAA c2b)
  have y6:=hyA.free f3a (zAA c3a)
  have y7:=hyA.free f3b (zAA c3b)
  have HX3:=zH (hX1.out.trans hyA)
  have HR3:=zH (HP2.out.ext hyA)
  have HB3:=zH (HPB.out.nat.ext hyA)
  clear q0 q1 q2 q3 q4 r3 hx hxA hy hyA c0a c1a c1b c2a c2b c3a c3b cd0 cd1 f2a f2b f3a f3b fd0 fd1 HP1 HP2 HNn hX1
  obtain ⟨Ws,hWs⟩:∃ Ws,w3.setCell ⟨w1.heap.size,0,none⟩ (.slice A3 k3 k3)=Ws:=⟨_,rfl⟩
  rw [hWs]
  have v0:Ws.cell? ⟨w.heap.size,0,none⟩=some (.bool true):=by rw [← hWs,World.cell?_setCell_other _ _ _ _ (by intro h;injection h with h1 h2;omega)];exact u0
  have v1:Ws.cell? ⟨w.heap.size+1,0,none⟩=some (.bool nb):=by rw [← hWs,World.cell?_setCell_other _ _ _ _ (by intro h;injection h with h1 h2;omega)];exact u1
  have v2:Ws.cell? ⟨w.heap.size+1,1,none⟩=some (.slice B m m):=by rw [← hWs,World.cell?_setCell_other _ _ _ _ (by intro h;injection h with h1 h2;omega)];exact u2
  have v3:Ws.cell? ⟨w1.heap.size+1,0,none⟩=some (.slice A2 k2 k2):=by rw [← hWs,World.cell?_setCell_other _ _ _ _ (by intro h;injection h with h1 h2;omega)];exact u3
  have x3:Ws.frozen? ⟨w1.heap.size+1,0,none⟩=false:=by rw [← hWs,World.frozen?_setCell];exact y3
  have v4:Ws.cell? ⟨w.heap.size+1+1,0,none⟩=some (.bool false):=by rw [← hWs,World.cell?_setCell_other _ _ _ _ (by intro h;injection h with h1 h2;omega)];exact u4
  have x4:Ws.frozen? ⟨w.heap.size+1+1,0,none⟩=false:=by rw [← hWs,World.frozen?_setCell];exact y4
  have v5:Ws.cell? ⟨w.heap.size+1+1,1,none⟩=some (.slice none 0 0):=by rw [← hWs,World.cell?_setCell_other _ _ _ _ (by intro h;injection h with h1 h2;omega)];exact u5
  have x5:Ws.frozen? ⟨w.heap.size+1+1,1,none⟩=false:=by rw [← hWs,World.frozen?_setCell];exact y5
  have v6:Ws.cell? ⟨w.heap.size+1+1+1,0,none⟩=some (.bool false):=by rw [← hWs,World.cell?_setCell_other _ _ _ _ (by intro h;injection h with h1 h2;omega)];exact u6
  have x6:Ws.frozen? ⟨w.heap.size+1+1+1,0,none⟩=false:=by rw [← hWs,World.frozen?_setCell];exact y6
  have v7:Ws.cell? ⟨w.heap.size+1+1+1,1,none⟩=some (.slice none 0 0):=by rw [← hWs,World.cell?_setCell_other _ _ _ _ (by intro h;injection h with h1 h2;omega)];exact u7
  have x7:Ws.frozen? ⟨w.heap.size+1+1+1,1,none⟩=false:=by rw [← hWs,World.frozen?_setCell];exact y7
  have v8:Ws.cell? ⟨w1.heap.size,0,none⟩=some (.slice A3 k3 k3):=by rw [← hWs];exact setc s3
  have x8:Ws.frozen? ⟨w1.heap.size,0,none⟩=false:=by rw [← hWs,World.frozen?_setCell];exact t3
  clear u0 u1 u2 u3 u4 u5 u6 u7 y3 y4 y5 y6 y7
  have HXs:Hid (Ext w Ws):=by rw [← hWs];exact HX3.out.setCell (p:=⟨w1.heap.size,0,none⟩) (by simp only [];omega) _
  have HN3s:=zH (show IsNat Ws A3 k3 _ by rw [← hWs];exact HN3.out.setBox s3 _)
  have HR3s:=zH (show IsNat Ws A2 k2 _ by rw [← hWs];exact HR3.out.setBox s3 _)
  have HB3s:=zH (show IsNat Ws B m _ by rw [← hWs];exact HB3.out.setBox s3 _)
  have HSub:=zH (zCi B A2 m k2 b.natAbs (a.natAbs % b.natAbs) Ws HB3s.out HR3s.out om (by have:=zAK HR3s.out HBits'.out.2;omega) (Nat.le_of_lt HMlt.out))
  clear hWs HX3 HN3 HR3 HB3 HR3s s3 t3
  go_wp2_with fail
  refine HSub.out.mono ?_
  rintro e w4 ⟨A4,k4,rfl,hn,_,hx⟩
  replace v0:=hx.cell v0
  replace v1:=hx.cell v1
  replace x3:=hx.free x3 (zAA v3)
  replace v3:=hx.cell v3
  replace x4:=hx.free x4 (zAA v4)
  replace v4:=hx.cell v4
  replace x5:=hx.free x5 (zAA v5)
  replace v5:=hx.cell v5
  replace x6:=hx.free x6 (zAA v6)
  replace v6:=hx.cell v6
  replace x7:=hx.free x7 (zAA v7)
  replace v7:=hx.cell v7
  replace v8:=hx.cell v8
  have HX4:=zH (HXs.out.trans hx)
  have HN4:=zH (HN3s.out.ext hx)
  have HR4:=zH hn
  clear hx hn HXs HN3s HB3s HSub v2 x8
  go_wp2
  obtain ⟨W5,hW5⟩:∃ W5,w4.setCell ⟨w1.heap.size+1,0,none⟩ (.slice A4 k4 k4)=W5:=⟨_,rfl⟩
  rw [hW5]
  have c0a:W5.cell? ⟨w.heap.size,0,none⟩=some (.bool true):=by rw [← hW5,World.cell?_setCell_other _ _ _ _ (by intro h;injection h with h1 h2;omega)];exact v0
  have c1a:W5.cell? ⟨w.heap.size+1,0,none⟩=some (.bool nb):=by rw [← hW5,World.cell?_setCell_other _ _ _ _ (by intro h;injection h with h1 h2;omega)];exact v1
  have c2a:W5.cell? ⟨w.heap.size+1+1,0,none⟩=some (.bool false):=by rw [← hW5,World.cell?_setCell_other _ _ _ _ (by intro h;injection h with h1 h2;omega)];exact v4
  have f2a:W5.frozen? ⟨w.heap.size+1+1,0,none⟩=false:=by rw [← hW5,World.frozen?_setCell];exact x4
  have c2b:W5.cell? ⟨w.heap.size+1+1,1,none⟩=some (.slice none 0 0):=by rw [← hW5,World.cell?_setCell_other _ _ _ _ (by intro h;injection h with h1 h2;omega)];exact v5
  have f2b:W5.frozen? ⟨w.heap.size+1+1,1,none⟩=false:=by rw [← hW5,World.frozen?_setCell];exact x5
  have c3a:W5.cell? ⟨w.heap.size+1+1+1,0,none⟩=some (.bool false):=by rw [← hW5,World.cell?_setCell_other _ _ _ _ (by intro h;injection h with h1 h2;omega)];exact v6
  have f3a:W5.frozen? ⟨w.heap.size+1+1+1,0,none⟩=false:=by rw [← hW5,World.frozen?_setCell];exact x6
  have c3b:W5.cell? ⟨w.heap.size+1+1+1,1,none⟩=some (.slice none 0 0):=by rw [← hW5,World.cell?_setCell_other _ _ _ _ (by intro h;injection h with h1 h2;omega)];exact v7
  have f3b:W5.frozen? ⟨w.heap.size+1+1+1,1,none⟩=false:=by rw [← hW5,World.frozen?_setCell];exact x7
  have cd0:W5.cell? ⟨w1.heap.size,0,none⟩=some (.slice A3 k3 k3):=by rw [← hW5,World.cell?_setCell_other _ _ _ _ (by intro h;injection h with h1 h2;omega)];exact v8
  have cd1:W5.cell? ⟨w1.heap.size+1,0,none⟩=some (.slice A4 k4 k4):=by rw [← hW5];exact setc v3
  have hX1:Hid (Ext w W5):=by rw [← hW5];exact HX4.out.setCell (p:=⟨w1.heap.size+1,0,none⟩) (by simp only [];omega) _
  have HP1:=zH (show IsNat W5 A3 k3 _ by rw [← hW5];exact HN4.out.setBox v3 _)
  have HP2:=zH (show IsNat W5 A4 k4 _ by rw [← hW5];exact HR4.out.setBox v3 _)
  clear hW5 HX4 HN4 HR4 v0 v1 v3 v4 v5 v6 v7 v8 x3 x4 x5 x6 x7
  have HM1:=zH (fun W (h:Ext W5 W)=>zAd (!nb) A3 k3 (a.natAbs / b.natAbs+1) W (HP1.out.ext h) HBits.out.1)
  have HM2:=zH (fun W (h:Ext W5 W)=>zAd false A4 k4 (b.natAbs - a.natAbs % b.natAbs) W (HP2.out.ext h) HBits.out.2)
  simp only [Bool.false_and] at HM2
  obtain ⟨nq,hnq⟩:∃ nq,((!nb) && decide ((a.natAbs / b.natAbs+1)≠0))=nq:=⟨_,rfl⟩
  have HS:Hid (nq=decide (a / b < 0)):=by have:=HQ.out.2.2;rw [HQ.out.1] at this;rw [← hnq];exact this
  rw [hnq] at HM1
  clear hnq
  have b0:W5.drew.cell? ⟨w.heap.size,0,none⟩=some (.bool true):=c0a
  have b1:W5.drew.cell? ⟨w.heap.size+1,0,none⟩=some (.bool nb):=c1a
  have b2:W5.drew.cell? ⟨w1.heap.size,0,none⟩=some (.slice A3 k3 k3):=cd0
  have b3:W5.drew.cell? ⟨w1.heap.size+1,0,none⟩=some (.slice A4 k4 k4):=cd1
  go_region_held3 (fun w'=>w'.cell? ⟨w.heap.size,0,none⟩=some (.bool true)∧w'.cell? ⟨w.heap.size+1,0,none⟩=some (.bool nb)∧w'.cell? ⟨w1.heap.size,0,none⟩=some (.slice A3 k3 k3)∧w'.cell? ⟨w1.heap.size+1,0,none⟩=some (.slice A4 k4 k4)) (refine ⟨?_,?_,?_,?_⟩ <;> first|(with_reducible first|exact b0|exact b1|exact b2|exact b3|exact q0|exact q1|exact q2|exact q3|exact s0|exact s1|exact s2|exact s3)|(rw [World.cell?_setCell_other _ _ _ _ (by intro h;injection h with h1 h2;omega),World.cell?_setCell_other _ _ _ _ (by intro h;injection h with h1 h2;omega)];(with_reducible first|exact s0|exact s1|exact s2|exact s3))|(rw [World.cell?_setCell_other _ _ _ _ (by intro h;injection h with h1 h2;omega),World.cell?_setCell_other _ _ _ _ (by intro h;injection h with h1 h2;omega),World.cell?_setCell_other _ _ _ _ (by intro h;injection h with h1 h2;omega),World.cell?_setCell_other _ _ _ _ (by intro h;injection h with h1 h2;omega)];(with_reducible first|exact s0|exact s1|exact s2|exact s3)))
   (first
    | (go_at_call_of 114 (Value.agg #[Value.slice A3 k3 k3]);refine (HM1.out _ (by with_reducible first|exact (Ext.refl W5).drew)).mono ?_;rintro e w2 ⟨rfl,hx⟩;have hxA:Ext W5 w2:=(by with_reducible first|exact Ext.trans ((Ext.refl W5).drew) hx);have q0:=hxA.cell c0a;have q1:=hxA.cell c1a;have q2:=hxA.cell cd0;have q3:=hxA.cell cd1;have q4:=hxA.cell c2a;have q5:=hxA.cell c2b;have q6:=hxA.cell c3a;have q7:=hxA.cell c3b;have r4:=hxA.free f2a (zAA c2a);have r5:=hxA.free f2b (zAA c2b);have r6:=hxA.free f3a (zAA c3a);have r7:=hxA.free f3b (zAA c3b))
    | (go_at_call_of 114 (Value.agg #[Value.slice A4 k4 k4]);refine (HM2.out _ (by with_reducible first|exact hxA)).mono ?_;rintro e w3 ⟨rfl,hy⟩;have hyA:Ext W5 w3:=(by with_reducible first|exact Ext.trans hxA hy);have s0:=hyA.cell c0a;have s1:=hyA.cell c1a;have s2:=hyA.cell cd0;have s3:=hyA.cell cd1;have s4:=hyA.cell c2a;have s5:=hyA.cell c2b;have s6:=hyA.cell c3a;have s7:=hyA.cell c3b;have t4:=hyA.free f2a (zAA c2a);have t5:=hyA.free f2b (zAA c2b);have t6:=hyA.free f3a (zAA c3a);have t7:=hyA.free f3b (zAA c3b)))
  go_wp2
  have HX3:=zH (hX1.out.trans hyA)
  have HP1':=zH (HP1.out.ext hyA)
  have HP2':=zH (HP2.out.ext hyA)
  clear c0a c1a c2a c2b c3a c3b cd0 cd1 f2a f2b f3a f3b hx hxA hy hyA q0 q1 q2 q3 q4 q5 q6 q7 r4 r5 r6 r7 b0 b1 b2 b3 s0 s1 s2 s3
  have c2a:=s4
  have c2b:=s5
  have c3a:=s6
  have c3b:=s7
  have f2a:=t4
  have f2b:=t5
  have f3a:=t6
  have f3b:=t7
  clear s4 s5 s6 s7 t4 t5 t6 t7
  obtain ⟨W4,hWW4⟩:∃ W4:World,(((w3.setCell ⟨w.heap.size+1+1,0,none⟩ (.bool nq)).setCell ⟨w.heap.size+1+1,1,none⟩ (.slice A3 k3 k3)).setCell ⟨w.heap.size+1+1+1,0,none⟩ (.bool false)).setCell ⟨w.heap.size+1+1+1,1,none⟩ (.slice A4 k4 k4)=W4:=⟨_,rfl⟩
  have z2a:W4.cell? ⟨w.heap.size+1+1,0,none⟩=some (.bool nq):=by rw [← hWW4];simp [go_sem,c2a,c2b,c3a,c3b]
  have zf2a:W4.frozen? ⟨w.heap.size+1+1,0,none⟩=false:=by rw [← hWW4];simp [go_sem,f2a,f2b,f3a,f3b]
  have z2b:W4.cell? ⟨w.heap.size+1+1,1,none⟩=some (.slice A3 k3 k3):=by rw [← hWW4];simp [go_sem,c2a,c2b,c3a,c3b]
  have zf2b:W4.frozen? ⟨w.heap.size+1+1,1,none⟩=false:=by rw [← hWW4];simp [go_sem,f2a,f2b,f3a,f3b]
  have z3a:W4.cell? ⟨w.heap.size+1+1+1,0,none⟩=some (.bool false):=by rw [← hWW4];simp [go_sem,c2a,c2b,c3a,c3b]
  have zf3a:W4.frozen? ⟨w.heap.size+1+1+1,0,none⟩=false:=by rw [← hWW4];simp [go_sem,f2a,f2b,f3a,f3b]
  have z3b:W4.cell? ⟨w.heap.size+1+1+1,1,none⟩=some (.slice A4 k4 k4):=by rw [← hWW4];simp [go_sem,c2a,c2b,c3a,c3b]
  have zf3b:W4.frozen? ⟨w.heap.size+1+1+1,1,none⟩=false:=by rw [← hWW4];simp [go_sem,f2a,f2b,f3a,f3b]
  have znW4:∀ (A:Option Addr) (k n:Nat),IsNat w3 A k n→IsNat W4 A k n:=by intro A k n h;rw [← hWW4];exact ((((h.setBool c2a _).setBox (by rw [World.cell?_setCell_other _ _ _ _ (by intro h;injection h with h1 h2;omega)];exact c2b) _).setBool (by rw [World.cell?_setCell_other _ _ _ _ (by intro h;injection h with h1 h2;omega),World.cell?_setCell_other _ _ _ _ (by intro h;injection h with h1 h2;omega)];exact c3a) _).setBox (by rw [World.cell?_setCell_other _ _ _ _ (by intro h;injection h with h1 h2;omega),World.cell?_setCell_other _ _ _ _ (by intro h;injection h with h1 h2;omega),World.cell?_setCell_other _ _ _ _ (by intro h;injection h with h1 h2;omega)];exact c3b) _)
  have zxW4:∀ a:World,Ext a w3→a.heap.size≤w.heap.size→Ext a W4:=by intro a h hs;rw [← hWW4];exact (by repeat (first|exact h|refine Ext.setCell ?_ (by first|(simp only [];omega)) _))
  have HWW4:=zH hWW4
  clear hWW4
  rw [HWW4.out]
  have HX4:=zH (zxW4 w HX3.out (Nat.le_refl _))
  have HN1:=zH (znW4 _ _ _ HP1'.out)
  have HN2:=zH (znW4 _ _ _ HP2'.out)
  refine bodyPost_ret (v:=.tuple #[.agg #[.bool nq,.slice A3 k3 k3],.agg #[.bool false,.slice A4 k4 k4],.int .i64 0]) (by simp [results,Tryz.results183,go_sem,z2a,z2b,z3a,z3b]) rfl ⟨nq,_,_,_,_,rfl,⟨?_,HS.out,?_⟩,⟨?_,?_,?_⟩,HX4.out⟩
  ·rw [HQ.out.1];exact HN1.out
  ·rw [HQ.out.1];exact HBits.out.1
  ·rw [HQ.out.2.1];exact HN2.out
  ·rw [HQ.out.2.1];exact (decide_eq_false (Int.not_lt.2 (Int.natCast_nonneg _))).symm
  ·rw [HQ.out.2.1];exact HBits.out.2
end Go.Proofs.YtdkgilioejdmeaaGreat
