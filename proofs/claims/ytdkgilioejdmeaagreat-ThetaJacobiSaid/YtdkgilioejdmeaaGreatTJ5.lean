/- YtdkgilioejdmeaaGreatTJ5: what is proved here stands in the theorems' own rows. -/
import Derived.Deep.RegionHeld
import Derived.StillTail
import Derived.Test.YtdkgilioejdmeaaGreatProg
import Derived.WalkKit
import Derived.Deep.Draws
import Derived.Deep.QuietTactic
import Derived.BigQuiet
import Derived.KernelRfl
import Derived.Lib.Hide
import Derived.Shelf.Small.Bits
import Derived.Shelf.Strconv.Itoa0
import Derived.Lib.ItoaNum
import Derived.Laws.BitsLemmas
import Derived.Deep.LoopGhost
import Derived.Laws.CopyOwn
import Derived.Laws.MakeOwn
import Derived.Maps.AppendAt
import Derived.Deep.AppendLies
import Derived.Laws.Rows
import Derived.Deep.RegionHeld3
import Derived.Deep.DeepCutAuto
import Derived.Deep.CutBlock
import Derived.Outline
import Derived.RegionTactic
import Derived.Deep.RegionWith
import Derived.Laws.OwnMore
import Derived.Test.YtdkgilioejdmeaaGreatRows
import Derived.ProofKit
import Derived.OpenShut
import Derived.Deep.Matrix
import Derived.SizedLaws
import Derived.Deep.DeepHandedRow
import Derived.Deep.DeepWitnessRowRef
import Derived.LaidHandle
import Derived.LaidLaws
import Derived.Below
import Derived.ChangeSame
import Derived.ChangeMaps5
import Derived.Test.YtdkgilioejdmeaaGreatBA1
import Derived.Test.YtdkgilioejdmeaaGreatBA2
import Derived.Test.YtdkgilioejdmeaaGreatBA3
import Derived.Test.YtdkgilioejdmeaaGreatBA4
import Derived.Test.YtdkgilioejdmeaaGreatBA5
import Derived.Test.YtdkgilioejdmeaaGreatBA6
import Derived.Test.YtdkgilioejdmeaaGreatBA7
import Derived.Test.YtdkgilioejdmeaaGreatBA8
import Derived.Test.YtdkgilioejdmeaaGreatBA9
import Derived.Test.YtdkgilioejdmeaaGreatBA10
import Derived.Test.YtdkgilioejdmeaaGreatBA11
import Derived.Test.YtdkgilioejdmeaaGreatBA12
import Derived.Test.YtdkgilioejdmeaaGreatBA13
import Derived.Test.YtdkgilioejdmeaaGreatTJ1
import Derived.Test.YtdkgilioejdmeaaGreatTJ2
import Derived.Test.YtdkgilioejdmeaaGreatTJ3
import Derived.Test.YtdkgilioejdmeaaGreatTJ4
set_option linter.unusedVariables false
set_option linter.unusedSimpArgs false
namespace Go.Proofs.YtdkgilioejdmeaaGreat
open Go.RowKit
def jacS (m:Nat) (g:Nat→Int) (d:Nat):Int:=sm d fun d=>if m % (d+1)=0 then g (d+1) else 0
theorem jacS_no {m:Nat} {g:Nat→Int} {d:Nat} (h:¬ m % (d+1)=0):jacS m g (d+1)=jacS m g d:=by unfold jacS;simp only [sm];rw [if_neg h,Int.add_zero]
theorem yAG {m:Nat} {g:Nat→Int} {d:Nat} (h:m % (d+1)=0):jacS m g (d+1)=jacS m g d+g (d+1):=by unfold jacS;simp only [sm];rw [if_pos h]
theorem yAF {m:Nat} {g:Nat→Int} {B:Nat} (h:∀ i,i < m→(g (i+1)).natAbs≤B):∀ d,d≤m→(jacS m g d).natAbs≤d*B
 | 0,_=>by simp [jacS,sm]
 | d+1,hd=>by
  have ih:=yAF h d om
  have h1:=h d om
  rw [Nat.succ_mul]
  by_cases e:m % (d+1)=0
  ·rw [yAG e];have:=Int.natAbs_add_le (jacS m g d) (g (d+1));omega
  ·rw [jacS_no e];omega
theorem two1_abs (i:Nat):(two1 i).natAbs≤4:=by unfold two1;split;decide;split <;> decide
theorem four1_abs {i:Nat} (h:i≤1000):(four1 i).natAbs≤8000:=by unfold four1;split;decide;omega
theorem cube_le {i:Nat} (h:i≤1000):16*i*i*i≤16000000000:=by
 have h1:16*i≤16000:=by omega
 have h2:16*i*i≤16000*1000:=Nat.mul_le_mul h1 h
 have h3:16*i*i*i≤16000*1000*1000:=Nat.mul_le_mul h2 h
 omega
theorem cube_int (i:Nat):16*(i:Int)*(i:Int)*(i:Int)=((16*i*i*i:Nat):Int):=by simp
theorem eight1_abs (m:Nat) {i:Nat} (h:i≤1000):(eight1 m i).natAbs≤16000000000:=by
 have:=cube_le h
 unfold eight1
 rw [cube_int]
 split <;> omega
set_option maxHeartbeats 8000000 in
set_option maxRecDepth 100000 in
theorem yAL (m:Int) (w:World) (hm0:-9223372036854775808≤m) (hm1:m≤9223372036854775807):Calls Tryz.prog 5 #[.int .i64 m] w fun e w'=>e = .returned (.bool true)∧Ext w w':=by
 have HW:=zH yAM
 have HS:=zH thSq_any
 obtain ⟨R,hR⟩:∃ R:Ending→World→Prop,(fun e w'=>e = .returned (.bool true)∧Ext w w')=R:=⟨_,rfl⟩
 have HR:Hid (∀ w',Ext w w'→R (.returned (.bool true)) w'):=fun w' h=>by rw [← hR];exact ⟨rfl,h⟩
 rw [hR]
 clear hR
 go_enter Tryz.func5,Tryz.ntmps5
 by_cases hlo:m < 1
 case pos =>
  go_wp2_with (fail)
  refine (HW.out _).mono ?_
  rintro e w1 ⟨rfl,hx⟩
  have HF:=zH (HR.out _ hx)
  clear hx
  go_wp2
  first
  | exact HF.out
  | exact bodyPost_ret (v:=.bool true) (by simp [results,Tryz.results5,go_sem]) rfl HF.out
 by_cases hhi:m≥1000
 case pos =>
  go_wp2_with (fail)
  refine (HW.out _).mono ?_
  rintro e w1 ⟨rfl,hx⟩
  have HF:=zH (HR.out _ hx)
  clear hx
  go_wp2
  first
  | exact HF.out
  | exact bodyPost_ret (v:=.bool true) (by simp [results,Tryz.results5,go_sem]) rfl HF.out
 obtain ⟨M,rfl⟩:∃ M:Nat,m=M:=⟨m.toNat,by omega⟩
 have hM1:1≤M:=by omega
 have hM2:M < 1000:=by omega
 have hlo':¬ (M:Int) < 1:=hlo
 have hhi':¬ (M:Int)≥1000:=hhi
 go_wp2
 clear hlo hhi hlo' hhi' hm0 hm1
 (try rw [show decide (1000≤M)=false from decide_eq_false om])
 go_loopg [3,4,5,6] M (fun kk v3 v4 v5 v6 wk=>∃ D:Nat,kk+D=M+1∧1≤D∧v6 = .int .i64 D∧v3 = .int .i64 (jacS M two1 (D - 1))∧v4 = .int .i64 (jacS M four1 (D - 1))∧v5 = .int .i64 (jacS M (eight1 M) (D - 1))∧wk=w)
 case atStart=>exact ⟨1,by omega,by omega,rfl,rfl,rfl,rfl,rfl⟩
 obtain ⟨D,hkD,hD1,rfl,rfl,rfl,rfl,rfl⟩:=hrel
 by_cases hDM:D≤M
 ·have hDI:(D:Int)≤(M:Int):=by omega
  obtain ⟨d,rfl⟩:∃ d,D=d+1:=⟨D - 1,by omega⟩
  have b2:=yAF (m:=M) (g:=two1) (B:=4) (fun i _=>two1_abs _) d om
  have b4:=yAF (m:=M) (g:=four1) (B:=8000) (fun i hi=>four1_abs om) d om
  have b8:=yAF (m:=M) (g:=eight1 M) (B:=16000000000) (fun i hi=>eight1_abs M om) d om
  have c2:d*4≤1000*4:=Nat.mul_le_mul_right _ om
  have c4:d*8000≤1000*8000:=Nat.mul_le_mul_right _ om
  have c8:d*16000000000≤1000*16000000000:=Nat.mul_le_mul_right _ om
  have S2:=zH (fun h=>yAG (m:=M) (g:=two1) (d:=d) h)
  have S4:=zH (fun h=>yAG (m:=M) (g:=four1) (d:=d) h)
  have S8:=zH (fun h=>yAG (m:=M) (g:=eight1 M) (d:=d) h)
  have N2:=zH (fun h=>jacS_no (m:=M) (g:=two1) (d:=d) h)
  have N4:=zH (fun h=>jacS_no (m:=M) (g:=four1) (d:=d) h)
  have N8:=zH (fun h=>jacS_no (m:=M) (g:=eight1 M) (d:=d) h)
  rw [Nat.add_sub_cancel]
  obtain ⟨s2,hs2⟩:∃ z,jacS M two1 d=z:=⟨_,rfl⟩
  obtain ⟨s4,hs4⟩:∃ z,jacS M four1 d=z:=⟨_,rfl⟩
  obtain ⟨s8,hs8⟩:∃ z,jacS M (eight1 M) d=z:=⟨_,rfl⟩
  rw [hs2,hs4,hs8]
  rw [hs2] at b2 S2 N2
  rw [hs4] at b4 S4 N4
  rw [hs8] at b8 S8 N8
  have s2a:-4000≤s2∧s2≤4000:=by omega
  have s4a:-8000000≤s4∧s4≤8000000:=by omega
  have s8a:-16000000000000≤s8∧s8≤16000000000000:=by omega
  obtain ⟨D,hD⟩:∃ D,d+1=D:=⟨_,rfl⟩
  rw [hD] at S2 S4 S8 N2 N4 N8
  have HDd:=zH hD
  clear b2 b4 b8 c2 c4 c8 hs2 hs4 hs8
  rw [hD] at hDI hkD hD1 hDM ⊢
  have hD0:¬ (D:Int)=0:=by omega
  by_cases hdiv:M % D=0
  case neg =>
   have hrem:¬ Int.tmod (M:Int) (D:Int)=0:=by rw [Int.tmod_eq_emod_of_nonneg om];omega
   have n2:=N2.out hdiv
   have n4:=N4.out hdiv
   have n8:=N8.out hdiv
   clear S2 S4 S8 N2 N4 N8 hD
   go_wp2
   go_roundg (M - D)
   case measure=>omega
   case rel=>exact ⟨D+1,by omega,by omega,by go_num,by rw [Nat.add_sub_cancel,n2],by rw [Nat.add_sub_cancel,n4],by rw [Nat.add_sub_cancel,n8],rfl⟩
  have hrem:Int.tmod (M:Int) (D:Int)=0:=by rw [Int.tmod_eq_emod_of_nonneg om];omega
  replace S2:=zH (S2.out hdiv)
  replace S4:=zH (S4.out hdiv)
  replace S8:=zH (S8.out hdiv)
  clear N2 N4 N8 hD
  obtain ⟨e,he⟩:∃ e,16*D=e:=⟨_,rfl⟩
  have heb:e≤16000:=by omega
  have heI:16*(D:Int)=(e:Int):=by omega
  obtain ⟨f,hf⟩:∃ f,e*D=f:=⟨_,rfl⟩
  have hfb:f≤16000000:=by rw [← hf];exact Nat.le_trans (Nat.mul_le_mul heb (show D≤1000 by omega)) (by decide)
  have hfI:(e:Int)*(D:Int)=(f:Int):=by rw [← hf];simp
  obtain ⟨q,hq⟩:∃ q,f*D=q:=⟨_,rfl⟩
  have hqb:q≤16000000000:=by rw [← hq];exact Nat.le_trans (Nat.mul_le_mul hfb (show D≤1000 by omega)) (by decide)
  have hqI:(f:Int)*(D:Int)=(q:Int):=by rw [← hq];simp
  have HQ:Hid (16*(D:Int)*(D:Int)*(D:Int)=(q:Int)):=by rw [heI,hfI];exact hqI
  clear he hf hq
  have h4:D % 4=0∨D % 4=1∨D % 4=2∨D % 4=3:=by omega
  have h2:(M+D) % 2=0∨(M+D) % 2=1:=by omega
  rcases h4 with h4|h4|h4|h4 <;> rcases h2 with h2|h2
  ·skip
   have hr4:Int.tmod (D:Int) 4=0:=by rw [Int.tmod_eq_emod_of_nonneg om];omega
   have hr2:Int.tmod ((M:Int)+(D:Int)) 2=0:=by rw [Int.tmod_eq_emod_of_nonneg om];omega
   have g2:jacS M two1 D=s2+(0):=by rw [S2.out];congr 1;unfold two1;simp [h4]
   have g4:jacS M four1 D=s4+(0):=by rw [S4.out];congr 1;unfold four1;simp [h4]
   have g8:jacS M (eight1 M) D=s8+((q:Int)):=by rw [S8.out];congr 1;unfold eight1;rw [if_pos h2,HQ.out]
   clear S2 S4 S8 HQ h4 h2
   go_wp2
   go_roundg (M - D)
   case measure=>omega
   case rel=>exact ⟨D+1,by omega,by omega,by go_num,by (rw [Nat.add_sub_cancel,g2]) <;> go_num,by (rw [Nat.add_sub_cancel,g4]) <;> go_num,by (rw [Nat.add_sub_cancel,g8]) <;> go_num,rfl⟩
  ·skip
   have hr4:Int.tmod (D:Int) 4=0:=by rw [Int.tmod_eq_emod_of_nonneg om];omega
   have hr2:Int.tmod ((M:Int)+(D:Int)) 2=1:=by rw [Int.tmod_eq_emod_of_nonneg om];omega
   have g2:jacS M two1 D=s2+(0):=by rw [S2.out];congr 1;unfold two1;simp [h4]
   have g4:jacS M four1 D=s4+(0):=by rw [S4.out];congr 1;unfold four1;simp [h4]
   have g8:jacS M (eight1 M) D=s8+(-(q:Int)):=by rw [S8.out];congr 1;unfold eight1;rw [if_neg om,HQ.out]
   clear S2 S4 S8 HQ h4 h2
   go_wp2
   go_roundg (M - D)
   case measure=>omega
   case rel=>exact ⟨D+1,by omega,by omega,by go_num,by (rw [Nat.add_sub_cancel,g2]) <;> go_num,by (rw [Nat.add_sub_cancel,g4]) <;> go_num,by (rw [Nat.add_sub_cancel,g8]) <;> go_num,rfl⟩
  ·skip
   have hr4:Int.tmod (D:Int) 4=1:=by rw [Int.tmod_eq_emod_of_nonneg om];omega
   have hr2:Int.tmod ((M:Int)+(D:Int)) 2=0:=by rw [Int.tmod_eq_emod_of_nonneg om];omega
   have g2:jacS M two1 D=s2+(4):=by rw [S2.out];congr 1;unfold two1;simp [h4]
   have g4:jacS M four1 D=s4+(8*(D:Int)):=by rw [S4.out];congr 1;unfold four1;simp [h4]
   have g8:jacS M (eight1 M) D=s8+((q:Int)):=by rw [S8.out];congr 1;unfold eight1;rw [if_pos h2,HQ.out]
   clear S2 S4 S8 HQ h4 h2
   go_wp2
   go_roundg (M - D)
   case measure=>omega
   case rel=>exact ⟨D+1,by omega,by omega,by go_num,by (rw [Nat.add_sub_cancel,g2]) <;> go_num,by (rw [Nat.add_sub_cancel,g4]) <;> go_num,by (rw [Nat.add_sub_cancel,g8]) <;> go_num,rfl⟩
  ·skip
   have hr4:Int.tmod (D:Int) 4=1:=by rw [Int.tmod_eq_emod_of_nonneg om];omega
   have hr2:Int.tmod ((M:Int)+(D:Int)) 2=1:=by rw [Int.tmod_eq_emod_of_nonneg om];omega
   have g2:jacS M two1 D=s2+(4):=by rw [S2.out];congr 1;unfold two1;simp [h4]
   have g4:jacS M four1 D=s4+(8*(D:Int)):=by rw [S4.out];congr 1;unfold four1;simp [h4]
   have g8:jacS M (eight1 M) D=s8+(-(q:Int)):=by rw [S8.out];congr 1;unfold eight1;rw [if_neg om,HQ.out]
   clear S2 S4 S8 HQ h4 h2
   go_wp2
   go_roundg (M - D)
   case measure=>omega
   case rel=>exact ⟨D+1,by omega,by omega,by go_num,by (rw [Nat.add_sub_cancel,g2]) <;> go_num,by (rw [Nat.add_sub_cancel,g4]) <;> go_num,by (rw [Nat.add_sub_cancel,g8]) <;> go_num,rfl⟩
  ·skip
   have hr4:Int.tmod (D:Int) 4=2:=by rw [Int.tmod_eq_emod_of_nonneg om];omega
   have hr2:Int.tmod ((M:Int)+(D:Int)) 2=0:=by rw [Int.tmod_eq_emod_of_nonneg om];omega
   have g2:jacS M two1 D=s2+(0):=by rw [S2.out];congr 1;unfold two1;simp [h4]
   have g4:jacS M four1 D=s4+(8*(D:Int)):=by rw [S4.out];congr 1;unfold four1;simp [h4]
   have g8:jacS M (eight1 M) D=s8+((q:Int)):=by rw [S8.out];congr 1;unfold eight1;rw [if_pos h2,HQ.out]
   clear S2 S4 S8 HQ h4 h2
   go_wp2
   go_roundg (M - D)
   case measure=>omega
   case rel=>exact ⟨D+1,by omega,by omega,by go_num,by (rw [Nat.add_sub_cancel,g2]) <;> go_num,by (rw [Nat.add_sub_cancel,g4]) <;> go_num,by (rw [Nat.add_sub_cancel,g8]) <;> go_num,rfl⟩
  ·skip
   have hr4:Int.tmod (D:Int) 4=2:=by rw [Int.tmod_eq_emod_of_nonneg om];omega
   have hr2:Int.tmod ((M:Int)+(D:Int)) 2=1:=by rw [Int.tmod_eq_emod_of_nonneg om];omega
   have g2:jacS M two1 D=s2+(0):=by rw [S2.out];congr 1;unfold two1;simp [h4]
   have g4:jacS M four1 D=s4+(8*(D:Int)):=by rw [S4.out];congr 1;unfold four1;simp [h4]
   have g8:jacS M (eight1 M) D=s8+(-(q:Int)):=by rw [S8.out];congr 1;unfold eight1;rw [if_neg om,HQ.out]
   clear S2 S4 S8 HQ h4 h2
   go_wp2
   go_roundg (M - D)
   case measure=>omega
   case rel=>exact ⟨D+1,by omega,by omega,by go_num,by (rw [Nat.add_sub_cancel,g2]) <;> go_num,by (rw [Nat.add_sub_cancel,g4]) <;> go_num,by (rw [Nat.add_sub_cancel,g8]) <;> go_num,rfl⟩
  ·skip
   have hr4:Int.tmod (D:Int) 4=3:=by rw [Int.tmod_eq_emod_of_nonneg om];omega
   have hr2:Int.tmod ((M:Int)+(D:Int)) 2=0:=by rw [Int.tmod_eq_emod_of_nonneg om];omega
   have g2:jacS M two1 D=s2+(-4):=by rw [S2.out];congr 1;unfold two1;simp [h4]
   have g4:jacS M four1 D=s4+(8*(D:Int)):=by rw [S4.out];congr 1;unfold four1;simp [h4]
   have g8:jacS M (eight1 M) D=s8+((q:Int)):=by rw [S8.out];congr 1;unfold eight1;rw [if_pos h2,HQ.out]
   clear S2 S4 S8 HQ h4 h2
   go_wp2
   go_roundg (M - D)
   case measure=>omega
   case rel=>exact ⟨D+1,by omega,by omega,by go_num,by (rw [Nat.add_sub_cancel,g2]) <;> go_num,by (rw [Nat.add_sub_cancel,g4]) <;> go_num,by (rw [Nat.add_sub_cancel,g8]) <;> go_num,rfl⟩
  ·skip
   have hr4:Int.tmod (D:Int) 4=3:=by rw [Int.tmod_eq_emod_of_nonneg om];omega
   have hr2:Int.tmod ((M:Int)+(D:Int)) 2=1:=by rw [Int.tmod_eq_emod_of_nonneg om];omega
   have g2:jacS M two1 D=s2+(-4):=by rw [S2.out];congr 1;unfold two1;simp [h4]
   have g4:jacS M four1 D=s4+(8*(D:Int)):=by rw [S4.out];congr 1;unfold four1;simp [h4]
   have g8:jacS M (eight1 M) D=s8+(-(q:Int)):=by rw [S8.out];congr 1;unfold eight1;rw [if_neg om,HQ.out]
   clear S2 S4 S8 HQ h4 h2
   go_wp2
   go_roundg (M - D)
   case measure=>omega
   case rel=>exact ⟨D+1,by omega,by omega,by go_num,by (rw [Nat.add_sub_cancel,g2]) <;> go_num,by (rw [Nat.add_sub_cancel,g4]) <;> go_num,by (rw [Nat.add_sub_cancel,g8]) <;> go_num,rfl⟩
 ·skip
  obtain rfl:D=M+1:=by omega
  rw [Nat.add_sub_cancel]
  have hj:=jacobi hM1 hM2
  have e2:jacS M two1 M=sqW 2 M:=hj.1.symm
  have e4:jacS M four1 M=sqW 4 M:=hj.2.1.symm
  have e8:jacS M (eight1 M) M=sqW 8 M:=hj.2.2.symm
  rw [e2,e4,e8]
  clear hj e2 e4 e8
  have t2:=yAA (k:=2) (m:=M) om om
  have t4:=yAA (k:=4) (m:=M) om om
  have t8:=yAA (k:=8) (m:=M) om om
  obtain ⟨z2,hz2⟩:∃ z,sqW 2 M=z:=⟨_,rfl⟩
  obtain ⟨z4,hz4⟩:∃ z,sqW 4 M=z:=⟨_,rfl⟩
  obtain ⟨z8,hz8⟩:∃ z,sqW 8 M=z:=⟨_,rfl⟩
  rw [hz2,hz4,hz8]
  rw [hz2] at t2
  rw [hz4] at t4
  rw [hz8] at t8
  have HZ2:=zH hz2
  have HZ4:=zH hz4
  have HZ8:=zH hz8
  clear hz2 hz4 hz8
  have hsq:∀ (k:Nat),k≤8→∀ V,Calls Tryz.prog 22 #[.int .i64 k,.int .i64 ((M:Int)+1)] V fun e w'=>∃ h,e = .returned (.tuple #[.slice (some ⟨h,0,none⟩) (M+1) (M+1),.int .i64 0])∧MRow w' h (M+1) (sqW k)∧V.heap.size≤h∧Ext V w':=fun k hk V=>thSq_any k (M+1) V hk om
  have HS2:=zH (hsq 2 om)
  have HS4:=zH (hsq 4 om)
  have HS8:=zH (hsq 8 om)
  clear hsq HS
  go_wp2_with (fail)
  refine (HS2.out _).mono ?_
  rintro e ua ⟨ha,rfl,hm,_,hx⟩
  have HA:=zH hm
  have HX:=zH hx
  clear hm hx HS2
  go_wp2_with (fail)
  refine (HS4.out _).mono ?_
  rintro e ub ⟨hb,rfl,hm,_,hx⟩
  replace HA:=zH (HA.out.ext hx)
  replace HX:=zH (HX.out.trans hx)
  have HB:=zH hm
  clear hm hx HS4
  go_wp2_with (fail)
  refine (HS8.out _).mono ?_
  rintro e uc ⟨hc,rfl,hm,_,hx⟩
  replace HA:=zH (HA.out.ext hx)
  replace HB:=zH (HB.out.ext hx)
  replace HX:=zH (HX.out.trans hx)
  have HC:=zH hm
  clear hm hx HS8
  obtain ⟨na,Aa,ka,a1,a2,ia⟩:=HA.out.cells M om
  obtain ⟨nb,Ab,kb,b1,b2,ib⟩:=HB.out.cells M om
  obtain ⟨nc,Ac,kc,c1,c2,ic⟩:=HC.out.cells M om
  rw [HZ2.out] at ia
  rw [HZ4.out] at ib
  rw [HZ8.out] at ic
  have la:=zAA a1
  have lb:=zAA b1
  have lc:=zAA c1
  simp only at la lb lc
  have hcmp:∀ (n:Bool) (A:Option Addr) (k:Nat) (z:Int),IsInt uc n A k z→∀ V nb Ab eb,Ext uc V→IsInt V nb Ab eb z→Calls Tryz.prog 23 #[.agg #[.bool n,.slice A k k],.agg #[.bool nb,.slice Ab eb eb]] V fun e w'=>e = .returned (.int .i64 0)∧Ext V w':=fun n A k z hi V nb Ab eb hx h=>by
   have:=zCmp_any n nb A Ab k eb z z V (hi.ext hx) h
   rwa [cmpZ_self] at this
  have HCa:=zH (hcmp na Aa ka z2 ia)
  have HCb:=zH (hcmp nb Ab kb z4 ib)
  have HCc:=zH (hcmp nc Ac kc z8 ic)
  have HO2:=zH (fun V=>zOf_any z2 V om om)
  have HO4:=zH (fun V=>zOf_any z4 V om om)
  have HO8:=zH (fun V=>zOf_any z8 V om om)
  have HWw:=zH (fun V=>yAM V)
  clear ia ib ic hcmp HA HB HC HZ2 HZ4 HZ8 hkD hDM hD1
  go_upto_region 24 with (fail)
  have HKeepT:=zH (fun (w':World) (hx:Ext uc w')=>(show w'.cell? ⟨ha,M*2,none⟩=some (.bool na)∧w'.cell? ⟨ha,M*2+1,none⟩=some (.slice Aa ka ka)∧w'.cell? ⟨hb,M*2,none⟩=some (.bool nb)∧w'.cell? ⟨hb,M*2+1,none⟩=some (.slice Ab kb kb)∧w'.cell? ⟨hc,M*2,none⟩=some (.bool nc)∧w'.cell? ⟨hc,M*2+1,none⟩=some (.slice Ac kc kc) from ⟨hx.cell a1,hx.cell a2,hx.cell b1,hx.cell b2,hx.cell c1,hx.cell c2⟩))
  refine rU HKeepT [] [] 32 (fun hH hC=>?_)
  revert hC
  refine tk 0 32 hH ?_
  refine tk 1 32 hH ?_
  refine tk 2 32 hH ?_
  refine tk 3 32 hH ?_
  refine tk 4 32 hH ?_
  intro hC
  refine zAB hC (i:=5) Sg kr (fun K hK=>?_)
  go_simp
  (go_at_call 24;refine (HO2.out _).mono ?_;rintro e w1 ⟨n5,A5,k5,rfl,hi1,hx⟩;have hxN:Ext uc w1:=Ext.trans Ext.ua hx;(try clear hxA);have hxA:=hxN;clear hxN;have HI5:=zH hi1;clear hi1;clear hx)
  try go_wp2_with fail
  have hHeldN:=HKeepT.out w1 Ext.ua
  refine hK.out _ _ (fun _ _=>hHeldN) (fun hCn=>?_)
  clear hK K hH hC
  have hH:=hHeldN
  have hC:=hCn
  clear hHeldN hCn
  try simp only [Act.put,sA,sB,sC]
  refine zAB hC (i:=6) Sg kr (fun K hK=>?_)
  go_simp
  (go_at_call 23;with_reducible refine Calls.mono ((fun hh=>HCa.out _ n5 A5 k5 hh (HI5.out.ext (Ext.refl _))) ?_) ?_;exact Ext.ua;rintro e w2 ⟨rfl,hx⟩;have hxN:Ext uc w2:=Ext.trans Ext.ua hx;(try clear hxA);have hxA:=hxN;clear hxN;clear hx)
  try go_wp2_with fail
  have hHeldN:=HKeepT.out w2 Ext.ua
  refine hK.out _ _ (fun _ _=>hHeldN) (fun hCn=>?_)
  clear hK K hH hC
  have hH:=hHeldN
  have hC:=hCn
  clear hHeldN hCn
  try simp only [Act.put,sA,sB,sC]
  revert hC
  refine tk 7 32 hH ?_
  refine tk 8 32 hH ?_
  refine tk 9 32 hH ?_
  refine tk 10 32 hH ?_
  refine tk 11 32 hH ?_
  refine tk 12 32 hH ?_
  refine tk 13 32 hH ?_
  intro hC
  refine zAB hC (i:=14) Sg kr (fun K hK=>?_)
  go_simp
  (go_at_call 24;refine (HO4.out _).mono ?_;rintro e w3 ⟨n14,A14,k14,rfl,hi1,hx⟩;have hxN:Ext uc w3:=Ext.trans Ext.ua hx;(try clear hxA);have hxA:=hxN;clear hxN;have HI14:=zH hi1;clear hi1;clear hx)
  try go_wp2_with fail
  have hHeldN:=HKeepT.out w3 Ext.ua
  refine hK.out _ _ (fun _ _=>hHeldN) (fun hCn=>?_)
  clear hK K hH hC
  have hH:=hHeldN
  have hC:=hCn
  clear hHeldN hCn
  try simp only [Act.put,sA,sB,sC]
  refine zAB hC (i:=15) Sg kr (fun K hK=>?_)
  go_simp
  (go_at_call 23;with_reducible refine Calls.mono ((fun hh=>HCb.out _ n14 A14 k14 hh (HI14.out.ext (Ext.refl _))) ?_) ?_;exact Ext.ua;rintro e w4 ⟨rfl,hx⟩;have hxN:Ext uc w4:=Ext.trans Ext.ua hx;(try clear hxA);have hxA:=hxN;clear hxN;clear hx)
  try go_wp2_with fail
  have hHeldN:=HKeepT.out w4 Ext.ua
  refine hK.out _ _ (fun _ _=>hHeldN) (fun hCn=>?_)
  clear hK K hH hC
  have hH:=hHeldN
  have hC:=hCn
  clear hHeldN hCn
  try simp only [Act.put,sA,sB,sC]
  revert hC
  refine tk 16 32 hH ?_
  refine tk 17 32 hH ?_
  refine tk 18 32 hH ?_
  refine tk 19 32 hH ?_
  refine tk 20 32 hH ?_
  refine tk 21 32 hH ?_
  refine tk 22 32 hH ?_
  refine tk 23 32 hH ?_
  intro hC
  refine zAB hC (i:=24) Sg kr (fun K hK=>?_)
  go_simp
  (go_at_call 24;refine (HO8.out _).mono ?_;rintro e w5 ⟨n24,A24,k24,rfl,hi1,hx⟩;have hxN:Ext uc w5:=Ext.trans Ext.ua hx;(try clear hxA);have hxA:=hxN;clear hxN;have HI24:=zH hi1;clear hi1;clear hx)
  try go_wp2_with fail
  have hHeldN:=HKeepT.out w5 Ext.ua
  refine hK.out _ _ (fun _ _=>hHeldN) (fun hCn=>?_)
  clear hK K hH hC
  have hH:=hHeldN
  have hC:=hCn
  clear hHeldN hCn
  try simp only [Act.put,sA,sB,sC]
  refine zAB hC (i:=25) Sg kr (fun K hK=>?_)
  go_simp
  (go_at_call 23;with_reducible refine Calls.mono ((fun hh=>HCc.out _ n24 A24 k24 hh (HI24.out.ext (Ext.refl _))) ?_) ?_;exact Ext.ua;rintro e w6 ⟨rfl,hx⟩;have hxN:Ext uc w6:=Ext.trans Ext.ua hx;(try clear hxA);have hxA:=hxN;clear hxN;clear hx)
  try go_wp2_with fail
  have hHeldN:=HKeepT.out w6 Ext.ua
  refine hK.out _ _ (fun _ _=>hHeldN) (fun hCn=>?_)
  clear hK K hH hC
  have hH:=hHeldN
  have hC:=hCn
  clear hHeldN hCn
  try simp only [Act.put,sA,sB,sC]
  revert hC
  refine tk 26 32 hH ?_
  refine tk 27 32 hH ?_
  refine tk 28 32 hH ?_
  intro hC
  refine zAB hC (i:=29) Sg kr (fun K hK=>?_)
  go_simp
  (go_at_call 21;refine (HWw.out _).mono ?_;rintro e w7 ⟨rfl,hx⟩;have hxN:Ext uc w7:=Ext.trans Ext.ua hx;(try clear hxA);have hxA:=hxN;clear hxN;clear hx)
  try go_wp2_with fail
  have hHeldN:=HKeepT.out w7 Ext.ua
  refine hK.out _ _ (fun _ _=>hHeldN) (fun hCn=>?_)
  clear hK K hH hC
  have hH:=hHeldN
  have hC:=hCn
  clear hHeldN hCn
  try simp only [Act.put,sA,sB,sC]
  revert hC
  refine tk 30 32 hH ?_
  refine tk 31 32 hH ?_
  intro hC
  refine zAD kr ?_ _
  clear hC HKeepT
  try clear hH
  have HF:=zH (HR.out _ (HX.out.trans hxA))
  go_wp2
  first
  | exact HF.out
  | exact bodyPost_ret (v:=.bool true) (by simp [results,Tryz.results5,go_sem]) rfl HF.out
  | exact bodyPost_ret (v:=.bool true) (by simp [results,Tryz.results5,go_sem]) rfl (HR.out _ ((HX.out.trans hxA).drew))
end Go.Proofs.YtdkgilioejdmeaaGreat
namespace Go.Proofs.YtdkgilioejdmeaaGreat
open Go.ChangeShapes Go.WideShapes Go.ChangeAt Go.RowKit
theorem Tryz.own:ownKnob Tryz.prog.godebug=none:=by kernel_rfl
theorem post_of_ext {H:Type} {enc:TypeId × Value→H} {P:Program} {f:Func} {s:ChangeSpec} {apart fresh handsOn again:Bool} {W W':World} {args:Array Value} {v:Value} {ds gs:List (DataW H)} {before pa pv:List MemPlace}
  (hW:DataW.Whole enc P f.params.toList s.vars apart W args.toList ds gs before)
  (hres:∀ (b:Nat) (sp:Nat→Bool) (hd:Bool),DataW.TrodAll enc P W' b sp hd f.resultTypes.toList (v.resultList f.resultTypes.size) (s.fn H (ds ++ gs)).results [])
  (hargs:∀ sp:Nat→Bool,(∀ p∈before,sp p.block=true)→DataW.TrodAll enc P W' 0 sp true f.params.toList args.toList (s.fn H (ds ++ gs)).args pa)
  (hvars:∀ sp:Nat→Bool,(∀ p∈before,sp p.block=true)→DataW.TrodVars enc P W' sp s.vars (s.fn H (ds ++ gs)).vars pv)
  (hps:before=pa ++ pv) (hb:Below W.heap.size W W')
  (hok:∀ (j:Nat) (t:TypeId) (r:Value),f.resultTypes[j]? = some t→(v.resultList f.resultTypes.size)[j]? = some r→Value.okWide P W' .any 0 t r) :
  s.post enc P f apart fresh handsOn again W args v W':=by
 have hlt:∀ p∈before,p.block < W.heap.size:=fun p hp=>hW.lt p hp
 have hold:∀ p∈before,(fun b=>decide (b < W.heap.size)) p.block=true:=fun p hp=>by simpa using hlt p hp
 refine ⟨ds,gs,before,[],pa,pv,hW,hres _ _ _,hargs _ hold,hvars _ hold,World.keptBut_mono (fun p hp=>⟨hp,?_⟩) (hb.frame (· ∈ before)),fun _=>?_⟩
 ·rw [hps,List.mem_append] at hp
  exact Or.inr hp
 ·obtain ⟨_,_,_,_,_,hz,hn⟩:=hW
  refine ⟨hok,_,_,([] ++ pa) ++ pv,⟨[] ++ pa,pv,trodAll_append (hargs _ (fun _ _=>rfl)) (hres _ _ _),hvars _ (fun _ _=>rfl),rfl,?_,?_⟩,?_⟩
  ·intro b off hp
   have hin:MemPlace.cell b off∈before:=by rw [hps];simpa using hp
   rw [hb.frozen (hlt _ hin)]
   exact hz b off hin
  ·intro ha
   have:=hn ha
   rw [hps] at this
   simpa using this
  ·intro p hp _
   rw [hps]
   simpa using hp
noncomputable def laidWorld (os:Os):World:=World.holding Tryz.prog os ⟨#[],#[],[]⟩
end Go.Proofs.YtdkgilioejdmeaaGreat
