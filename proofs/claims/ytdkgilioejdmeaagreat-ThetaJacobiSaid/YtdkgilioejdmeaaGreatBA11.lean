/- YtdkgilioejdmeaaGreatBA11: what is proved here stands in the theorems' own rows. -/
import Derived.Deep.DeepCutAuto
import Derived.Test.YtdkgilioejdmeaaGreatBA1
import Derived.Test.YtdkgilioejdmeaaGreatBA6
import Derived.Test.YtdkgilioejdmeaaGreatBA7
import Derived.Test.YtdkgilioejdmeaaGreatBA8
import Derived.Test.YtdkgilioejdmeaaGreatBA10
set_option linter.unusedVariables false
set_option linter.unusedSimpArgs false
namespace Go.Proofs.YtdkgilioejdmeaaGreat
open Go.RowKit
set_option maxHeartbeats 4000000 in
theorem swap_any (lo p n gA gU gL cA cU:Nat) (bl:Nat→Nat) (ct:Nat→Nat→Int) (k:Nat) (w0 w:World) (h:IsLat w lo p n n gA gU gL cA cU bl ct) (hx0:Ext w0 w) (hlo:w0.heap.size≤lo) (hn:n≤100) (hk:k < n) (hk1:1≤k) :
  Calls Tryz.prog 245 #[.pointer (some ⟨p,0,none⟩),.int .i64 k] w fun e w'=>e = .returned (.tuple #[])∧(∃ bl',IsLat w' lo p n n gA gU gL cA cU bl' (swapP n k ct))∧Ext w0 w':=by
 have c0:w.cell? ⟨p,0,none⟩=some (.slice (some ⟨gA,0,none⟩) n cA):=h.box.cell 0 rfl
 have c1:w.cell? ⟨p,1,none⟩=some (.slice (some ⟨gU,0,none⟩) n cU):=h.box.cell 1 rfl
 have cu:=h.cellU k hk
 have cv:=h.cellU (k - 1) om
 have fu:=h.freeU k
 have fv:=h.freeU (k - 1)
 have HH:=zH h
 have HX0:=zH hx0
 have hgU:w0.heap.size≤gU:=Nat.le_trans hlo h.lowU
 have hgA:w0.heap.size≤gA:=Nat.le_trans hlo h.lowA
 have l1:=zAA c1
 have l2:=zAA cu
 simp only at l1 l2
 clear h
 have hk0:k - 1 < n:=by omega
 have hne:k - 1≠k:=by omega
 have h3:(0:Int)≤(k:Int) - 1:=by omega
 have h4:(k:Int) - 1 < (n:Int):=by omega
 have h5:((k:Int) - 1).toNat=k - 1:=by omega
 have h7:(1:Int)≤(k:Int):=by omega
 have hw2:IntKind.i64.wrap ((k:Int) - 1)=(k:Int) - 1:=IntWalk.i64_in _ om
 go_enter Tryz.func245,Tryz.ntmps245
 go_upto_region 0 with (fail)
 have HKeepT:=zH (fun (w':World) (hx:Ext w w')=>(show w'.cell? ⟨p,1,none⟩=some (.slice (some ⟨gU,0,none⟩) n cU)∧w'.cell? ⟨gU,k,none⟩=some (.slice (some ⟨bl (n+k),0,none⟩) n n)∧w'.cell? ⟨gU,k - 1,none⟩=some (.slice (some ⟨bl (n+(k - 1)),0,none⟩) n n) from ⟨hx.cell c1,hx.cell cu,hx.cell cv⟩))
 refine rU HKeepT [27,29] [9,10,28] 30 (fun hH hC=>?_)
 revert hC
 refine tk 0 30 hH ?_
 refine tk 1 30 hH ?_
 refine tk 2 30 hH ?_
 refine tk 3 30 hH ?_
 refine tk 4 30 hH ?_
 refine tk 5 30 hH ?_
 refine tk 6 30 hH ?_
 refine tk 7 30 hH ?_
 refine tk 8 30 hH ?_
 refine tk 11 30 hH ?_
 refine tk 12 30 hH ?_
 refine tk 13 30 hH ?_
 refine tk 14 30 hH ?_
 refine tk 15 30 hH ?_
 refine tk 16 30 hH ?_
 refine tk 17 30 hH ?_
 refine tk 18 30 hH ?_
 refine tk 19 30 hH ?_
 refine tk 20 30 hH ?_
 refine tk 21 30 hH ?_
 refine tk 22 30 hH ?_
 refine tk 23 30 hH ?_
 refine tk 24 30 hH ?_
 refine tk 25 30 hH ?_
 refine tk 26 30 hH ?_
 intro hC
 refine zAF hC (i:=9) (v:=?_) Sg kr kr kr kr Iq (by rfl) ?_ (fun hCn=>?_)
 rotate_left
 ·intro w';go_simp;(try with_reducible rfl)
 clear hC
 have hC:=hCn
 clear hCn
 try simp only [Act.put,sA,sB,sC]
 refine zAF hC (i:=10) (v:=?_) Sg kr kr kr kr Iq (by rfl) ?_ (fun hCn=>?_)
 rotate_left
 ·intro w';go_simp;(try with_reducible rfl)
 clear hC
 have hC:=hCn
 clear hCn
 try simp only [Act.put,sA,sB,sC]
 refine zAB hC (i:=27) Sg kr (fun K hK=>?_)
 go_simp
 refine hK.out _ _ (fun h=>by cases h) (fun hCn=>?_)
 clear hK K hC
 have hC:=hCn
 clear hCn
 try simp only [Act.put,sA,sB,sC]
 refine zAF hC (i:=28) (v:=?_) Sg kr kr kr kr Iq (by rfl) ?_ (fun hCn=>?_)
 rotate_left
 ·intro w';go_simp;(try with_reducible rfl)
 clear hC
 have hC:=hCn
 clear hCn
 try simp only [Act.put,sA,sB,sC]
 refine zAB hC (i:=29) Sg kr (fun K hK=>?_)
 go_simp
 refine hK.out _ _ (fun h=>by cases h) (fun hCn=>?_)
 clear hK K hC
 have hC:=hCn
 clear hCn
 try simp only [Act.put,sA,sB,sC]
 refine zAD kr ?_ _
 clear hC HKeepT
 try clear hH
 obtain ⟨W1,hW1⟩:∃ W1,((w.setCell ⟨gU,k,none⟩ (.slice (some ⟨bl (n+(k - 1)),0,none⟩) n n)).setCell ⟨gU,k - 1,none⟩ (.slice (some ⟨bl (n+k),0,none⟩) n n)).drew=W1:=⟨_,rfl⟩
 have HX1:Hid (Ext w0 W1):=by rw [← hW1];exact ((HX0.out.setCell (p:=⟨gU,k,none⟩) hgU _).setCell (p:=⟨gU,k - 1,none⟩) hgU _).drew
 have HL1:Hid (IsLat W1 lo p n n gA gU gL cA cU (fun s=>bl (sw (n+k) (n+(k - 1)) s)) (fun s=>ct (sw (n+k) (n+(k - 1)) s))):=by rw [← hW1];exact (HH.out.swapU hk hk1).ext (Ext.refl _).drew
 rw [hW1]
 clear hW1 HH HX0 c0 c1 cu cv fu fv l1 l2
 generalize (fun s=>bl (sw (n+k) (n+(k - 1)) s))=bl1 at HL1
 generalize hct1:(fun s=>ct (sw (n+k) (n+(k - 1)) s))=ct1 at HL1
 have c0:W1.cell? ⟨p,0,none⟩=some (.slice (some ⟨gA,0,none⟩) n cA):=HL1.out.box.cell 0 rfl
 have cu:=HL1.out.cellA k hk
 have cv:=HL1.out.cellA (k - 1) hk0
 have fu:=HL1.out.freeA k
 have fv:=HL1.out.freeA (k - 1)
 have l1:=zAA c0
 have l2:=zAA cu
 simp only at l1 l2
 go_upto_region 1 with (fail)
 have HKeepT:=zH (fun (w':World) (hx:Ext W1 w')=>(show w'.cell? ⟨p,0,none⟩=some (.slice (some ⟨gA,0,none⟩) n cA)∧w'.cell? ⟨gA,k,none⟩=some (.slice (some ⟨bl1 k,0,none⟩) n n)∧w'.cell? ⟨gA,k - 1,none⟩=some (.slice (some ⟨bl1 (k - 1),0,none⟩) n n) from ⟨hx.cell c0,hx.cell cu,hx.cell cv⟩))
 refine rU HKeepT [27,29] [9,10,28] 30 (fun hH hC=>?_)
 revert hC
 refine tk 0 30 hH ?_
 refine tk 1 30 hH ?_
 refine tk 2 30 hH ?_
 refine tk 3 30 hH ?_
 refine tk 4 30 hH ?_
 refine tk 5 30 hH ?_
 refine tk 6 30 hH ?_
 refine tk 7 30 hH ?_
 refine tk 8 30 hH ?_
 refine tk 11 30 hH ?_
 refine tk 12 30 hH ?_
 refine tk 13 30 hH ?_
 refine tk 14 30 hH ?_
 refine tk 15 30 hH ?_
 refine tk 16 30 hH ?_
 refine tk 17 30 hH ?_
 refine tk 18 30 hH ?_
 refine tk 19 30 hH ?_
 refine tk 20 30 hH ?_
 refine tk 21 30 hH ?_
 refine tk 22 30 hH ?_
 refine tk 23 30 hH ?_
 refine tk 24 30 hH ?_
 refine tk 25 30 hH ?_
 refine tk 26 30 hH ?_
 intro hC
 refine zAF hC (i:=9) (v:=?_) Sg kr kr kr kr Iq (by rfl) ?_ (fun hCn=>?_)
 rotate_left
 ·intro w';go_simp;(try with_reducible rfl)
 clear hC
 have hC:=hCn
 clear hCn
 try simp only [Act.put,sA,sB,sC]
 refine zAF hC (i:=10) (v:=?_) Sg kr kr kr kr Iq (by rfl) ?_ (fun hCn=>?_)
 rotate_left
 ·intro w';go_simp;(try with_reducible rfl)
 clear hC
 have hC:=hCn
 clear hCn
 try simp only [Act.put,sA,sB,sC]
 refine zAB hC (i:=27) Sg kr (fun K hK=>?_)
 go_simp
 refine hK.out _ _ (fun h=>by cases h) (fun hCn=>?_)
 clear hK K hC
 have hC:=hCn
 clear hCn
 try simp only [Act.put,sA,sB,sC]
 refine zAF hC (i:=28) (v:=?_) Sg kr kr kr kr Iq (by rfl) ?_ (fun hCn=>?_)
 rotate_left
 ·intro w';go_simp;(try with_reducible rfl)
 clear hC
 have hC:=hCn
 clear hCn
 try simp only [Act.put,sA,sB,sC]
 refine zAB hC (i:=29) Sg kr (fun K hK=>?_)
 go_simp
 refine hK.out _ _ (fun h=>by cases h) (fun hCn=>?_)
 clear hK K hC
 have hC:=hCn
 clear hCn
 try simp only [Act.put,sA,sB,sC]
 refine zAD kr ?_ _
 clear hC HKeepT
 try clear hH
 obtain ⟨W2,hW2⟩:∃ W2,((W1.setCell ⟨gA,k,none⟩ (.slice (some ⟨bl1 (k - 1),0,none⟩) n n)).setCell ⟨gA,k - 1,none⟩ (.slice (some ⟨bl1 k,0,none⟩) n n)).drew=W2:=⟨_,rfl⟩
 have HX2:Hid (Ext w0 W2):=by rw [← hW2];exact ((HX1.out.setCell (p:=⟨gA,k,none⟩) hgA _).setCell (p:=⟨gA,k - 1,none⟩) hgA _).drew
 have HL2:Hid (IsLat W2 lo p n n gA gU gL cA cU (fun s=>bl1 (sw k (k - 1) s)) (swR n k ct)):=by
  rw [← hW2]
  have:=(HL1.out.swapA hk hk1).ext (Ext.refl _).drew
  rw [← hct1] at this
  exact this
 rw [hW2]
 clear hW2 HL1 HX1 c0 cu cv fu fv l1 l2 hct1
 generalize (fun s=>bl1 (sw k (k - 1) s))=bl2 at HL2
 have hlp:=HL2.out.lowp
 have hkc:(k:Int) - 1=((k - 1:Nat):Int):=by omega
 have HKC:=zH hkc
 clear hkc
 have c0:W2.cell? ⟨p,0,none⟩=some (.slice (some ⟨gA,0,none⟩) n cA):=HL2.out.box.cell 0 rfl
 obtain ⟨cs,hcs⟩:∃ c,swR n k ct=c:=⟨_,rfl⟩
 have HSw:Hid (swapP n k ct=partsP n (swC k cs n) (k - 1) (n - (k - 1))):=by rw [← hcs];rfl
 rw [hcs] at HL2
 clear hcs
 clear hw2
 go_wp2
 go_loopg [66] n (fun kk kv wk=>∃ m:Nat,kk+m=n∧kv = .int .i64 m∧Hid (IsLat wk lo p n n gA gU gL cA cU bl2 (swC k cs m))∧Hid (Ext w0 wk))
 case atStart=>exact ⟨0,by omega,rfl,HL2,HX2⟩
 clear HL2 HX2
 obtain ⟨m,hkm,rfl,HL,HX⟩:=hrel
 by_cases hmn:m < n
 ·skip
  obtain ⟨c,hc⟩:∃ c,swC k cs m=c:=⟨_,rfl⟩
  have HCs:Hid (put (put c m k (c m (k - 1))) m (k - 1) (c m k)=swC k cs (m+1)):=by rw [← hc];rfl
  rw [hc] at HL
  clear hc
  have cF:wr.cell? ⟨p,0,none⟩=some (.slice (some ⟨gA,0,none⟩) n cA):=HL.out.box.cell 0 rfl
  have cI:=HL.out.cellA m hmn
  have hrI:=HL.out.rows.row m (Or.inl om)
  have hln:latLn n m=n:=by unfold latLn;rw [if_pos om]
  obtain ⟨nx,Ax,kx,cx1,cx2,ix⟩:=hrI.cells k (by rw [hln];exact hk)
  obtain ⟨ny,Ay,ky,cy1,cy2,iy⟩:=hrI.cells (k - 1) (by rw [hln];exact hk0)
  have fx1:=hrI.free (k*2)
  have fx2:=hrI.free (k*2+1)
  have fy1:=hrI.free ((k - 1)*2)
  have fy2:=hrI.free ((k - 1)*2+1)
  have hlw:=HL.out.rows.low m (Or.inl om)
  have HIx:=zH ix
  have HIy:=zH iy
  have HLn2:=zH hln
  clear ix iy hrI hln
  obtain ⟨bI,hbI⟩:∃ b,bl2 m=b:=⟨_,rfl⟩
  rw [hbI] at cI cx1 cx2 cy1 cy2 fx1 fx2 fy1 fy2 hlw
  have HBI:=zH hbI
  clear hbI
  have l2:=zAA cF
  have l3:=zAA cI
  have l4:=zAA cx1
  simp only at l2 l3 l4
  have hneA:(k - 1)*2≠k*2:=by omega
  have hneB:(k - 1)*2≠k*2+1:=by omega
  have hneC:(k - 1)*2+1≠k*2:=by omega
  have hneD:(k - 1)*2+1≠k*2+1:=by omega
  have hw2:IntKind.i64.wrap ((k:Int) - 1)=(k:Int) - 1:=IntWalk.i64_in _ om
  go_upto_region 5 with (fail)
  have HKeepT:=zH (fun (w':World) (hx:Ext wr w')=>(show w'.cell? ⟨p,0,none⟩=some (.slice (some ⟨gA,0,none⟩) n cA)∧w'.cell? ⟨gA,m,none⟩=some (.slice (some ⟨bI,0,none⟩) n n)∧w'.cell? ⟨bI,k*2,none⟩=some (.bool nx)∧w'.cell? ⟨bI,k*2+1,none⟩=some (.slice Ax kx kx)∧w'.cell? ⟨bI,(k - 1)*2,none⟩=some (.bool ny)∧w'.cell? ⟨bI,(k - 1)*2+1,none⟩=some (.slice Ay ky ky) from ⟨hx.cell cF,hx.cell cI,hx.cell cx1,hx.cell cx2,hx.cell cy1,hx.cell cy2⟩))
  refine rU HKeepT [39,41] [15,16,40] 42 (fun hH hC=>?_)
  revert hC
  refine tk 0 42 hH ?_
  refine tk 1 42 hH ?_
  refine tk 2 42 hH ?_
  refine tk 3 42 hH ?_
  refine tk 4 42 hH ?_
  refine tk 5 42 hH ?_
  refine tk 6 42 hH ?_
  refine tk 7 42 hH ?_
  refine tk 8 42 hH ?_
  refine tk 9 42 hH ?_
  refine tk 10 42 hH ?_
  refine tk 11 42 hH ?_
  refine tk 12 42 hH ?_
  refine tk 13 42 hH ?_
  refine tk 14 42 hH ?_
  refine tk 17 42 hH ?_
  refine tk 18 42 hH ?_
  refine tk 19 42 hH ?_
  refine tk 20 42 hH ?_
  refine tk 21 42 hH ?_
  refine tk 22 42 hH ?_
  refine tk 23 42 hH ?_
  refine tk 24 42 hH ?_
  refine tk 25 42 hH ?_
  refine tk 26 42 hH ?_
  refine tk 27 42 hH ?_
  refine tk 28 42 hH ?_
  refine tk 29 42 hH ?_
  refine tk 30 42 hH ?_
  refine tk 31 42 hH ?_
  refine tk 32 42 hH ?_
  refine tk 33 42 hH ?_
  refine tk 34 42 hH ?_
  refine tk 35 42 hH ?_
  refine tk 36 42 hH ?_
  refine tk 37 42 hH ?_
  refine tk 38 42 hH ?_
  intro hC
  refine zAF hC (i:=15) (v:=?_) Sg kr kr kr kr Iq (by rfl) ?_ (fun hCn=>?_)
  rotate_left
  ·intro w';go_simp;(try with_reducible rfl)
  clear hC
  have hC:=hCn
  clear hCn
  try simp only [Act.put,sA,sB,sC]
  refine zAF hC (i:=16) (v:=?_) Sg kr kr kr kr Iq (by rfl) ?_ (fun hCn=>?_)
  rotate_left
  ·intro w';go_simp;(try with_reducible rfl)
  clear hC
  have hC:=hCn
  clear hCn
  try simp only [Act.put,sA,sB,sC]
  refine zAB hC (i:=39) Sg kr (fun K hK=>?_)
  go_simp
  refine hK.out _ _ (fun h=>by cases h) (fun hCn=>?_)
  clear hK K hC
  have hC:=hCn
  clear hCn
  try simp only [Act.put,sA,sB,sC]
  refine zAF hC (i:=40) (v:=?_) Sg kr kr kr kr Iq (by rfl) ?_ (fun hCn=>?_)
  rotate_left
  ·intro w';go_simp;(try with_reducible rfl)
  clear hC
  have hC:=hCn
  clear hCn
  try simp only [Act.put,sA,sB,sC]
  refine zAB hC (i:=41) Sg kr (fun K hK=>?_)
  go_simp
  refine hK.out _ _ (fun h=>by cases h) (fun hCn=>?_)
  clear hK K hC
  have hC:=hCn
  clear hCn
  try simp only [Act.put,sA,sB,sC]
  refine zAD kr ?_ _
  clear hC HKeepT
  try clear hH
  clear hw2
  obtain ⟨W5,hW5⟩:∃ W5,(setInt (setInt wr bI (k*2) ny Ay ky) bI ((k - 1)*2) nx Ax kx).drew=W5:=⟨_,rfl⟩
  have HLn:Hid (IsLat W5 lo p n n gA gU gL cA cU bl2 (swC k cs (m+1))):=by
   rw [← hW5,← HCs.out,← HBI.out]
   have h1:=HL.out.setZ (s:=m) (j:=k) (Or.inl om) (by rw [HLn2.out];exact hk) HIy.out
   have hx1:IsInt (setInt wr (bl2 m) (k*2) ny Ay ky) nx Ax kx (c m k):=zBA (by rw [HBI.out];exact cx1) (by rw [HBI.out];exact cx2) HIx.out
   exact (h1.setZ (s:=m) (j:=k - 1) (Or.inl om) (by rw [HLn2.out];exact hk0) hx1).ext (Ext.refl _).drew
  have HXn:Hid (Ext w0 W5):=by rw [← hW5];exact (zAO (zAO HX.out om) om).drew
  have eV:((((wr.setCell ⟨bI,k*2,none⟩ (.bool ny)).setCell ⟨bI,k*2+1,none⟩ (.slice Ay ky ky)).setCell ⟨bI,(k - 1)*2,none⟩ (.bool nx)).setCell ⟨bI,(k - 1)*2+1,none⟩ (.slice Ax kx kx)).drew=W5:=hW5
  rw [eV]
  clear eV hW5 HL HX HIx HIy cF cI cx1 cx2 cy1 cy2 fx1 fx2 fy1 fy2
  go_wp2
  go_roundg (n - (m+1))
  case measure=>omega
  case rel=>exact ⟨m+1,by omega,by go_num,HLn,HXn⟩
 ·skip
  obtain rfl:n=m:=by omega
  have HP:=zH (parts_any lo p n n gA gU gL cA cU bl2 (swC k cs n) (k - 1) w0 wr HL.out HX.out hlo hn om (Nat.le_refl _))
  rw [← HKC.out] at HP
  have hw2:IntKind.i64.wrap ((k:Int) - 1)=(k:Int) - 1:=IntWalk.i64_in _ om
  clear HL HX hkm hmn
  go_wp2_with (go_at_call 242;refine HP.out.mono ?_;rintro e w3 ⟨rfl,⟨bl3,hl3⟩,hx3⟩;have HL3:=zH hl3;have HX3:=zH hx3;clear hl3 hx3)
  first
   | (go_end0;exact ⟨rfl,⟨bl3,by rw [HSw.out];exact HL3.out⟩,HX3.out⟩)
set_option maxHeartbeats 4000000 in
set_option maxRecDepth 100000 in
theorem reduce_any (lo p n gA gU gL cA cU:Nat) (bl:Nat→Nat) (ct ct':Nat→Nat→Int) (fuel:Nat) (w0 w:World) (h:IsLat w lo p n n gA gU gL cA cU bl ct) (hx0:Ext w0 w) (hlo:w0.heap.size≤lo) (hn:n≤100) (hn1:1≤n) (hred:redP n fuel 1 ct=some ct') :
  Calls Tryz.prog 218 #[.pointer (some ⟨p,0,none⟩)] w fun e w'=>e = .returned (.tuple #[])∧(∃ bl',IsLat w' lo p n n gA gU gL cA cU bl' ct')∧Ext w0 w':=by
 have HL0:=zH h
 have HX0:=zH hx0
 have HR0:=zH hred
 have hmf:∀ (fn:Fn) (first cap:Array Value) (w:World),(Instr.makeFunc fn first cap).run Tryz.prog w = .ok (.func fn first cap) w:=fun _ _ _ _=>rfl
 clear h hx0 hred
 go_enter Tryz.func218,Tryz.ntmps218
 go_wp2
 go_step3
 go_wp2
 go_step3
 go_wp2
 go_loopg [3] fuel (fun kk kv wk=>∃ (k:Nat) (c:Nat→Nat→Int) (b:Nat→Nat),kv = .int .i64 k∧1≤k∧k≤n∧Hid (redP n kk k c=some ct')∧Hid (IsLat wk lo p n n gA gU gL cA cU b c)∧Hid (Ext w0 wk))
 case atStart=>exact ⟨1,ct,bl,rfl,Nat.le_refl _,hn1,HR0,HL0,HX0⟩
 clear HL0 HX0 HR0
 obtain ⟨k,c,b,rfl,hk1,hkn1,HR,HL,HX⟩:=hrel
 have c0:wr.cell? ⟨p,0,none⟩=some (.slice (some ⟨gA,0,none⟩) n cA):=HL.out.box.cell 0 rfl
 obtain ⟨g,rfl⟩:∃ g,gk=g+1:=by
  cases gk with
  | zero=>have:=HR.out;cases this
  | succ g=>exact ⟨g,rfl⟩
 have hR:(if n≤k then some c else if fallsP n k (shortP n k (k - 1) c)=true then redP n g (max 1 (k - 1)) (swapP n k (shortP n k (k - 1) c)) else redP n g (k+1) (shR n k (k - 1) (shortP n k (k - 1) c)))=some ct':=HR.out
 by_cases hkn:k < n
 ·rw [if_neg om] at hR
  have hkc:(k:Int) - 1=((k - 1:Nat):Int):=by omega
  have HKC:=zH hkc
  have HS:=zH (zDK lo p n gA gU gL cA cU b c k (k - 1) w0 wr HL.out HX.out hlo hn hkn om)
  rw [← hkc] at HS
  have hw1:IntKind.i64.wrap ((k:Int) - 1)=(k:Int) - 1:=IntWalk.i64_in _ om
  obtain ⟨c1,hc1⟩:∃ c1,shortP n k (k - 1) c=c1:=⟨_,rfl⟩
  rw [hc1] at hR HS
  obtain ⟨fb,hfb⟩:∃ fb,fallsP n k c1=fb:=⟨_,rfl⟩
  rw [hfb] at hR
  have HFb:=zH hfb
  have HRR:=zH hR
  clear hkc hc1 hfb hR HR HL HX
  cases fb with
  | true =>
   have HR2:Hid (redP n g (max 1 (k - 1)) (swapP n k c1)=some ct'):=by have:=HRR.out;rwa [if_pos rfl] at this
   clear HRR
   go_wp2_with (first
    | (go_at_call 243;refine HS.out.mono ?_;rintro e w1 ⟨rfl,hl,hx⟩;have HL1:=zH hl;have HX1:=zH hx;have HF:=zH (falls_any lo p n n gA gU gL cA cU b c1 k w1 hl hn (Nat.le_refl _) hkn hk1);rw [show fallsB (c1 (2*n+1+k) (k - 1)) (c1 (2*n) (k - 1)) (c1 (2*n) k) (c1 (2*n) (k+1))=true from HFb.out] at HF;clear hl hx)
    | (go_at_call 244;refine HF.out.mono ?_;rintro e w2 ⟨rfl,hx⟩;have HL2:=zH (HL1.out.ext hx);have HX2:=zH (HX1.out.trans hx);have HSw:=zH (swap_any lo p n gA gU gL cA cU b c1 k w0 w2 HL2.out HX2.out hlo hn hkn hk1);clear hx)
    | (go_at_call 245;refine HSw.out.mono ?_;rintro e w3 ⟨rfl,⟨b3,hl⟩,hx⟩;have HL3:=zH hl;have HX3:=zH hx;clear hl hx))
   go_roundg g
   case measure=>omega
   case rel=>exact ⟨max 1 (k - 1),swapP n k c1,b3,by
    congr 1
    have:=HKC.out
    (try simp only [this])
    omega,by omega,by omega,HR2,HL3,HX3⟩
  | false =>
   have HR2:Hid (redP n g (k+1) (shR n k (k - 1) c1)=some ct'):=by have:=HRR.out;rwa [if_neg (by decide)] at this
   clear HRR
   obtain ⟨cT,hcT⟩:∃ cT,shR n k (k - 1) c1=cT:=⟨_,rfl⟩
   rw [hcT] at HR2
   have HT:Hid (shR n k (k - 1) c1=cT):=hcT
   have hw2:IntKind.i64.wrap ((k:Int) - 2)=(k:Int) - 2:=IntWalk.i64_in _ om
   clear hcT
   go_wp2_with (first
    | (go_at_call 243;refine HS.out.mono ?_;rintro e w1 ⟨rfl,hl,hx⟩;have HL1:=zH hl;have HX1:=zH hx;have HF:=zH (falls_any lo p n n gA gU gL cA cU b c1 k w1 hl hn (Nat.le_refl _) hkn hk1);rw [show fallsB (c1 (2*n+1+k) (k - 1)) (c1 (2*n) (k - 1)) (c1 (2*n) k) (c1 (2*n) (k+1))=false from HFb.out] at HF;clear hl hx)
    | (go_at_call 244;refine HF.out.mono ?_;rintro e w2 ⟨rfl,hx⟩;have HL2:=zH (HL1.out.ext hx);have HX2:=zH (HX1.out.trans hx);clear hx))
   clear HS HF HL1 HX1 hw1
   go_loopg [4] (k - 1) (fun kk lv wk=>∃ (m:Nat) (l:Int) (cm:Nat→Nat→Int),kk=m∧m < k∧lv = .int .i64 l∧l+1=m∧Hid (shR n k m cm=cT)∧Hid (IsLat wk lo p n n gA gU gL cA cU b cm)∧Hid (Ext w0 wk))
   case atStart=>exact ⟨k - 1,_,c1,rfl,by omega,rfl,by omega,HT,HL2,HX2⟩
   clear HL2 HX2 HT
   obtain ⟨m,l,cm,rfl,hmk,rfl,hl,HT,HL,HX⟩:=hrel
   cases gk with
   | zero =>
    have hl0:l < 0:=by omega
    have HTe:Hid (cm=cT):=HT.out
    go_wp2
    go_roundg g
    case measure=>omega
    case rel=>exact ⟨k+1,cT,b,by go_num,by omega,by omega,HR2,by have:=HL;rw [HTe.out] at this;exact this,HX⟩
   | succ m =>
    obtain rfl:l=(m:Int):=by omega
    have HS:=zH (zDK lo p n gA gU gL cA cU b cm k m w0 wr HL.out HX.out hlo hn hkn om)
    have HTe:Hid (shR n k m (shortP n k m cm)=cT):=HT.out
    have hw3:IntKind.i64.wrap ((m:Int) - 1)=(m:Int) - 1:=IntWalk.i64_in _ om
    clear HT HL HX hl
    go_wp2_with (go_at_call 243;refine HS.out.mono ?_;rintro e w1 ⟨rfl,hl,hx⟩;have HL1:=zH hl;have HX1:=zH hx;clear hl hx)
    go_roundg m
    case measure=>omega
    case rel=>exact ⟨m,(m:Int) - 1,_,rfl,by omega,by go_num,by omega,HTe,HL1,HX1⟩
 ·rw [if_pos om] at hR
  obtain rfl:c=ct':=Option.some.inj hR
  obtain rfl:k=n:=by omega
  clear hR HR
  go_wp2
  (try simp only [Exit.noGoto_normal])
  first
   | exact bodyPost_ret (results_none rfl _ _ _) rfl ⟨rfl,⟨b,HL.out⟩,HX.out⟩
   | (go_end0;exact ⟨rfl,⟨b,HL.out⟩,HX.out⟩)
   | (trace_state;fail)
set_option maxHeartbeats 8000000 in
set_option maxRecDepth 100000 in
theorem basNew_any (A:Option Addr) (n c:Nat) (rows:List (List Int)) (w:World) (hn:n=rows.length) (hn1:1≤n) (hn8:n≤100) (hr:IsRows w A rows) (hf:Fit64 rows) (hsq:∀ l∈rows,l.length=n) :
  Calls Tryz.prog 217 #[.slice A n c] w fun e w'=>∃ p gA gU gL cA cU bl,e = .returned (.pointer (some ⟨p,0,none⟩))∧IsLat w' w.heap.size p n n gA gU gL cA cU bl (partsP n (newC n (entry rows)) 0 n)∧Ext w w':=by
 have HRs:=zH hr
 have HEnt:Hid (∀ i j W,i < n→j < n→Ext w W→∃ b off R c' b2 off2,A=some ⟨b,off,none⟩∧R=some ⟨b2,off2,none⟩∧W.cell? ⟨b,off+i,none⟩=some (.slice R n c')∧n≤c'∧W.cell? ⟨b2,off2+j,none⟩=some (.int .i64 (entry rows i j)) ∧ -9223372036854775808≤entry rows i j∧entry rows i j≤9223372036854775807):=by
  intro i j W hi hj hX
  obtain ⟨l,hl⟩:∃ l,rows[i]? = some l:=⟨_,List.getElem?_eq_getElem om⟩
  have hll:l.length=n:=by obtain ⟨h1,rfl⟩:=List.getElem?_eq_some_iff.1 hl;exact hsq _ (List.getElem_mem h1)
  obtain ⟨z,hz⟩:∃ z,l[j]? = some z:=⟨_,List.getElem?_eq_getElem om⟩
  obtain ⟨z0,z1⟩:=hf.at_ hl hz
  have HE:entry rows i j=z:=by unfold entry;rw [hl,Option.getD_some,hz,Option.getD_some]
  obtain ⟨b,off,R,c',e1,hb,h1,h2,h3⟩:=(hr.ext hX).at_ hl
  obtain ⟨b2,off2,e2,hb2,h4⟩:=h3.at_ hz
  rw [hll] at h1 h2
  rw [HE]
  exact ⟨b,off,R,c',b2,off2,e1,e2,h1,h2,h4,z0,z1⟩
 have HOne:=zH (fun W=>zBi 1 W om om)
 have hmf:∀ (fn:Fn) (first cap:Array Value) (w:World),(Instr.makeFunc fn first cap).run Tryz.prog w = .ok (.func fn first cap) w:=fun _ _ _ _=>rfl
 clear hr hf hsq hn
 go_enter Tryz.func217,Tryz.ntmps217
 go_wp2
 obtain ⟨p,hp⟩:∃ p,w.heap.size=p:=⟨_,rfl⟩
 obtain ⟨W0,hW0⟩:∃ W0,w.alloc (.cells #[.slice none 0 0,.slice none 0 0,.slice none 0 0,.slice none 0 0] 239)=W0:=⟨_,rfl⟩
 have HS0:Hid (NewSt w W0 n 0 p (.slice none 0 0) (.slice none 0 0) (fun _=>0) (fun _=>0) (entry rows)):=by
  rw [← hW0,← hp]
  have hx:Ext w (w.alloc (.cells #[.slice none 0 0,.slice none 0 0,.slice none 0 0,.slice none 0 0] 239)):=(Ext.refl w).alloc _
  exact ⟨⟨World.ownsRow_nil _ _ _ _,fun j hj=>by omega,fun j k hj=>by omega,fun j hj=>by omega,hx⟩,⟨World.ownsRow_nil _ _ _ _,fun j hj=>by omega,fun j k hj=>by omega,fun j hj=>by omega,hx⟩,Blk.new _ _ _,Nat.le_refl _,fun j k hj=>by omega,fun g hg=>by cases hg⟩
 have HP:=zH hp
 rw [hW0,hp]
 clear hW0 hp
 go_loopg [12] n (fun kk kv wk=>∃ (i:Nat) (vA vU:Value) (hA hU:Nat→Nat),kk+i=n∧kv = .int .i64 i∧Hid (NewSt w wk n i p vA vU hA hU (entry rows)))
 case atStart=>exact ⟨0,_,_,_,_,by omega,rfl,HS0⟩
 clear HS0
 obtain ⟨i,vA,vU,hA,hU,hki,rfl,HS⟩:=hrel
 by_cases hin:i < n
 ·obtain ⟨wq,rfl⟩:∃ wq,wq=wr:=⟨_,rfl⟩
  go_upto_region 5 with (fail)
  go_cut [5,6] (fun s5 s6 wx=>∃ b5 b6,s5 = .slice (some ⟨b5,0,none⟩) n n∧s6 = .slice (some ⟨b6,0,none⟩) n n∧wq.heap.size≤b5∧wq.heap.size≤b6∧b5≠b6∧Hid (MRow wx b5 n (fun _=>0))∧Hid (MRow wx b6 n (fun _=>0))∧Hid (Ext wq wx))
  case first =>
   have HKeepT:=zH (fun (w':World) (hx:Ext wq w')=>(show True from trivial))
   refine wp_region_U (fun w'=>True) [6,7] [3,4] 8 _ kr kr rp ?_ (fun hH hC=>?_)
   ·trivial
   revert hC
   refine tk 0 8 hH ?_
   refine tk 1 8 hH ?_
   intro hC
   refine zAF hC (i:=3) (v:=?_) Sg kr kr kr kr Iq (by rfl) ?_ (fun hCn=>?_)
   rotate_left
   ·intro w';go_simp;(try with_reducible rfl)
   clear hC
   have hC:=hCn
   clear hCn
   try simp only [Act.put,sA,sB,sC]
   refine zAF hC (i:=4) (v:=?_) Sg kr kr kr kr Iq (by rfl) ?_ (fun hCn=>?_)
   rotate_left
   ·intro w';go_simp;(try with_reducible rfl)
   clear hC
   have hC:=hCn
   clear hCn
   try simp only [Act.put,sA,sB,sC]
   refine zBZ hC (i:=2) (j:=5) Sg Sg kr (fun K hK=>?_) (fun K hK=>?_)
   ·skip
    obtain ⟨cs5,hmk5,hrow5⟩:=zAs (n:Int) n rfl om (wq.drew)
    go_simp
    go_wp2_with fail
    have hHeldN:(fun w'=>True) ((wq.alloc (.cells cs5 49)).drew):=trivial
    refine hK.out _ _ (fun _ _=>hHeldN) (fun hCn=>?_)
    clear hK K hC
    (try clear hH)
    have hH:=hHeldN
    have hC:=hCn
    clear hHeldN hCn
    try simp only [Act.put,sA,sB,sC]
    refine zBZ hC (i:=5) (j:=6) Sg Sg kr (fun K hK=>?_) (fun K hK=>?_)
    ·skip
     obtain ⟨cs6,hmk6,hrow6⟩:=zAs (n:Int) n rfl om ((wq.alloc (.cells cs5 49)).drew)
     go_simp
     go_wp2_with fail
     have hHeldN:(fun w'=>True) (((wq.alloc (.cells cs5 49)).alloc (.cells cs6 49)).drew):=trivial
     refine hK.out _ _ (fun _ _=>hHeldN) (fun hCn=>?_)
     clear hK K hC
     (try clear hH)
     have hH:=hHeldN
     have hC:=hCn
     clear hHeldN hCn
     try simp only [Act.put,sA,sB,sC]
     refine zAB hC (i:=6) Sg kr (fun K hK=>?_)
     go_simp
     refine hK.out _ _ (fun h=>by cases h) (fun hCn=>?_)
     clear hK K hC
     have hC:=hCn
     clear hCn
     try simp only [Act.put,sA,sB,sC]
     refine zAB hC (i:=7) Sg kr (fun K hK=>?_)
     go_simp
     refine hK.out _ _ (fun h=>by cases h) (fun hCn=>?_)
     clear hK K hC
     have hC:=hCn
     clear hCn
     try simp only [Act.put,sA,sB,sC]
     refine zAD kr ?_ _
     clear hC HKeepT
     try clear hH
     go_wp2
     refine Met.intro ?_
     go_step
     (repeat apply Exists.intro)
     refine And.symm ⟨?_,?_⟩
     ·first|with_reducible rfl
     first
     | exact ⟨_,_,rfl,rfl,(by first|exact Nat.le_refl _),(by first|omega),by first|omega,zH (by first|exact hrow5.ext ((Ext.refl _).alloc _)),zH (by first|(have h9:=hrow6;simp only [World.size_alloc,World.size_drew] at h9;exact h9)),zH Ext.ua⟩
    ·skip
     go_simp
     refine hK.out _ _ (fun h=>by cases h) (fun hCn=>?_)
     clear hK K hC
     have hC:=hCn
     clear hCn
     try simp only [Act.put,sA,sB,sC]
     refine zAB hC (i:=5) Sg kr (fun K hK=>?_)
     obtain ⟨cs6,hmk6,hrow6⟩:=zAs (n:Int) n rfl om ((wq.alloc (.cells cs5 49)).drew)
     go_simp
     go_wp2_with fail
     have hHeldN:(fun w'=>True) (((wq.alloc (.cells cs5 49)).alloc (.cells cs6 49)).drew):=trivial
     refine hK.out _ _ (fun _ _=>hHeldN) (fun hCn=>?_)
     clear hK K hC
     (try clear hH)
     have hH:=hHeldN
     have hC:=hCn
     clear hHeldN hCn
     try simp only [Act.put,sA,sB,sC]
     refine zAB hC (i:=7) Sg kr (fun K hK=>?_)
     go_simp
     refine hK.out _ _ (fun h=>by cases h) (fun hCn=>?_)
     clear hK K hC
     have hC:=hCn
     clear hCn
     try simp only [Act.put,sA,sB,sC]
     refine zAD kr ?_ _
     clear hC HKeepT
     try clear hH
     go_wp2
     refine Met.intro ?_
     go_step
     (repeat apply Exists.intro)
     refine And.symm ⟨?_,?_⟩
     ·first|with_reducible rfl
     first
     | exact ⟨_,_,rfl,rfl,(by first|exact Nat.le_refl _),(by first|omega),by first|omega,zH (by first|exact hrow5.ext ((Ext.refl _).alloc _)),zH (by first|(have h9:=hrow6;simp only [World.size_alloc,World.size_drew] at h9;exact h9)),zH Ext.ua⟩
   ·skip
    obtain ⟨cs6,hmk6,hrow6⟩:=zAs (n:Int) n rfl om (wq.drew)
    go_simp
    go_wp2_with fail
    have hHeldN:(fun w'=>True) ((wq.alloc (.cells cs6 49)).drew):=trivial
    refine hK.out _ _ (fun _ _=>hHeldN) (fun hCn=>?_)
    clear hK K hC
    (try clear hH)
    have hH:=hHeldN
    have hC:=hCn
    clear hHeldN hCn
    try simp only [Act.put,sA,sB,sC]
    refine zAB hC (i:=2) Sg kr (fun K hK=>?_)
    obtain ⟨cs5,hmk5,hrow5⟩:=zAs (n:Int) n rfl om ((wq.alloc (.cells cs6 49)).drew)
    go_simp
    go_wp2_with fail
    have hHeldN:(fun w'=>True) (((wq.alloc (.cells cs6 49)).alloc (.cells cs5 49)).drew):=trivial
    refine hK.out _ _ (fun _ _=>hHeldN) (fun hCn=>?_)
    clear hK K hC
    (try clear hH)
    have hH:=hHeldN
    have hC:=hCn
    clear hHeldN hCn
    try simp only [Act.put,sA,sB,sC]
    refine zAB hC (i:=6) Sg kr (fun K hK=>?_)
    go_simp
    refine hK.out _ _ (fun h=>by cases h) (fun hCn=>?_)
    clear hK K hC
    have hC:=hCn
    clear hCn
    try simp only [Act.put,sA,sB,sC]
    refine zAB hC (i:=7) Sg kr (fun K hK=>?_)
    go_simp
    refine hK.out _ _ (fun h=>by cases h) (fun hCn=>?_)
    clear hK K hC
    have hC:=hCn
    clear hCn
    try simp only [Act.put,sA,sB,sC]
    refine zAD kr ?_ _
    clear hC HKeepT
    try clear hH
    go_wp2
    refine Met.intro ?_
    go_step
    (repeat apply Exists.intro)
    refine And.symm ⟨?_,?_⟩
    ·first|with_reducible rfl
    first
    | exact ⟨_,_,rfl,rfl,(by first|omega),(by first|exact Nat.le_refl _),by first|omega,zH (by first|(have h9:=hrow5;simp only [World.size_alloc,World.size_drew] at h9;exact h9)),zH (by first|exact hrow6.ext ((Ext.refl _).alloc _)),zH Ext.ua⟩
  obtain ⟨b5,b6,rfl,rfl,hl5,hl6,h56,HM5,HM6,HX5⟩:=hcut
  obtain ⟨W5,hWn⟩:∃ W5,wc=W5:=⟨_,rfl⟩
  rw [hWn] at HM5 HM6 HX5 ⊢
  clear hWn wc
  have HXw:=zH (HS.out.A.ext.trans HX5.out)
  go_wp2
  go_loopg [23] n (fun kk jv wj=>∃ j:Nat,kk+j=n∧jv = .int .i64 j∧Hid (MRow wj b5 n (fun j'=>if j' < j then entry rows i j' else 0))∧Hid (MRow wj b6 n (fun _=>0))∧Hid (Ext wq wj))
  case atStart=>exact ⟨0,by omega,rfl,HM5.out.congr (fun j hj=>by simp),HM6,HX5⟩
  clear HM5 HM6 HX5 HXw
  obtain ⟨j,hkj,rfl,HR,HU,HX⟩:=hrel
  by_cases hjn:j < n
  ·obtain ⟨b,off,R,c',b2,off2,rfl,rfl,hc1,hc2,hc3,hz0,hz1⟩:=HEnt.out i j wr hin hjn (HS.out.A.ext.trans HX.out)
   have HO:=zH (fun W=>zOf_any (entry rows i j) W hz0 hz1)
   obtain ⟨z,hz⟩:∃ z,entry rows i j=z:=⟨_,rfl⟩
   have HZ:=zH hz
   rw [hz] at hc3 HO
   obtain ⟨ng0,A0,k0,c1,c2,_⟩:=HR.out.cells j hjn
   have f1:=HR.out.free (j*2)
   have f2:=HR.out.free (j*2+1)
   have hlt:=HR.out.lt
   have hl1:=zAA hc1
   have hl2:=zAA hc3
   clear hz hz0 hz1
   go_wp2_with fail
   refine (HO.out _).mono ?_
   rintro e w2 ⟨ng,A2,k2,rfl,hz,hx⟩
   replace f1:=hx.free f1 (zAA c1)
   replace c1:=hx.cell c1
   replace f2:=hx.free f2 (zAA c2)
   replace c2:=hx.cell c2
   have HR2:=zH ((HR.out.ext hx).set_ hjn hz)
   have HU2:Hid (MRow (setInt w2 b5 (j*2) ng A2 k2) b6 n (fun _=>0)):=zH ((HU.out.ext hx).far h56 c1 c2)
   have HX2:Hid (Ext wq (setInt w2 b5 (j*2) ng A2 k2)):=zAO (HX.out.trans hx) hl5
   clear hz hx HR HU HX HO
   have HR3:Hid (MRow (setInt w2 b5 (j*2) ng A2 k2) b5 n (fun j'=>if j' < j+1 then entry rows i j' else 0)) :=
    HR2.out.congr fun j' _=>by
     by_cases e:j'=j
     ·subst e;rw [if_pos rfl,if_pos om];exact HZ.out.symm
     ·rw [if_neg e]
      by_cases e2:j' < j
      ·rw [if_pos e2,if_pos om]
      ·rw [if_neg e2,if_neg om]
   clear HR2
   go_wp2
   go_roundg (gk - 1)
   case measure=>omega
   case rel=>exact ⟨j+1,by omega,by go_num,HR3,HU2,HX2⟩
  ·skip
   obtain rfl:n=j:=by omega
   have HMr:Hid (MRow wr b5 n (entry rows i)):=HR.out.congr fun j' hj'=>if_pos hj'
   have HSq:=zH HS.out
   have HXq:=zH HX.out
   obtain ⟨ng0,A0,k0,c1,c2,_⟩:=HU.out.cells i hin
   have f1:=HU.out.free (i*2)
   have f2:=HU.out.free (i*2+1)
   have hlt:=HU.out.lt
   have hd:∀ j,j < i→hA j≠b5∧hA j≠b6∧hU j≠b5∧hU j≠b6:=fun j hj=>by
    have h1:=(HS.out.A.row j hj).lt
    have h2:=(HS.out.U.row j hj).lt
    omega
   have HDd:=zH hd
   have hlw:w.heap.size≤wq.heap.size:=HS.out.A.ext.size
   have HSl:=zH hlw
   clear HR HX HS hd hlw
   go_upto_region 12 with (go_at_call 24;refine (HOne.out _).mono ?_;rintro e w2 ⟨A2,k2,rfl,hz,hx⟩;have HZ2:=zH hz;have hxA:=hx;have tc1:=hxA.cell c1;have tc2:=hxA.cell c2;have uf1:=hxA.free f1 (zAA c1);have uf2:=hxA.free f2 (zAA c2);clear hz hx)
   obtain ⟨W9,hW9⟩:∃ W9,setInt w2 b6 (i*2) false A2 k2=W9:=⟨_,rfl⟩
   have HX9:Hid (Ext wq W9):=by rw [← hW9];exact zAO (HXq.out.trans hxA) hl6
   have HU9:Hid (MRow W9 b6 n (unitM i)):=by
    rw [← hW9]
    refine ((HU.out.ext hxA).set_ hin HZ2.out).congr fun j' hj'=>?_
    unfold unitM;rfl
   have HR9:Hid (MRow W9 b5 n (entry rows i)):=by rw [← hW9];exact (HMr.out.ext hxA).far (Ne.symm h56) tc1 tc2
   have HS9:=zH (HSq.out.ext_ HX9.out)
   have e9:(w2.setCell ⟨b6,i*2,none⟩ (.bool false)).setCell ⟨b6,i*2+1,none⟩ (.slice A2 k2 k2)=W9:=hW9
   rw [e9]
   clear e9 hW9 HU HMr HZ2 c1 c2 f1 f2 tc1 tc2 uf1 uf2 hlt hxA HXq HSq
   have c0:W9.cell? ⟨p,0,none⟩=some vA:=HS9.out.box.cell 0 rfl
   have c1:W9.cell? ⟨p,1,none⟩=some vU:=HS9.out.box.cell 1 rfl
   have l0:=zAA c0
   simp only at l0
   obtain ⟨ii,hii,hz0,hz1,hz2⟩:=info_parts Tryz.infoZs
   have HII:=zH hii
   have HZ0:=zH hz0
   have HZ1:=zH hz1
   have HZ2':=zH hz2
   clear hii hz0 hz1 hz2
   go_upto_region 12 with (fail)
   have HKeepT:=zH (fun (w':World) (hx:Ext W9 w')=>(show w'.cell? ⟨p,0,none⟩=some (vA)∧w'.cell? ⟨p,1,none⟩=some (vU) from ⟨hx.cell c0,hx.cell c1⟩))
   refine rU HKeepT [18,21] [1,19,20] 22 (fun hH hC=>?_)
   revert hC
   refine tk 0 22 hH ?_
   refine tk 2 22 hH ?_
   refine tk 3 22 hH ?_
   refine tk 4 22 hH ?_
   refine tk 5 22 hH ?_
   refine tk 6 22 hH ?_
   refine tk 9 22 hH ?_
   refine tk 10 22 hH ?_
   refine tk 11 22 hH ?_
   refine tk 12 22 hH ?_
   refine tk 13 22 hH ?_
   intro hC
   refine zAF hC (i:=1) (v:=?_) Sg kr kr kr kr Iq (by rfl) ?_ (fun hCn=>?_)
   rotate_left
   ·intro w';go_simp;(try with_reducible rfl)
   clear hC
   have hC:=hCn
   clear hCn
   try simp only [Act.put,sA,sB,sC]
   refine zBZ hC (i:=7) (j:=14) Sg Sg kr (fun K hK=>?_) (fun K hK=>?_)
   ·skip
    go_simp
    have hbs7:Ext (W9.alloc (.cells #[.slice (some ⟨b5,0,none⟩) n n] 41)) (W9.alloc (.cells #[.slice (some ⟨b5,0,none⟩) n n] 41)).drew:=(Ext.refl _).drew
    have hba7:Hid (W9.heap.size+0=W9.heap.size):=rfl
    have hHeldN:(fun w'=>w'.cell? ⟨p,0,none⟩=some (vA)∧w'.cell? ⟨p,1,none⟩=some (vU)) ((W9.alloc (.cells #[.slice (some ⟨b5,0,none⟩) n n] 41)).drew):=by
     (try dsimp only)
     exact HKeepT.out _ Ext.ua
    refine hK.out _ _ (fun _ _=>hHeldN) (fun hCn=>?_)
    clear hK K hC
    (try clear hH)
    have hH:=hHeldN
    have hC:=hCn
    clear hHeldN hCn
    try simp only [Act.put,sA,sB,sC]
    refine zBZ hC (i:=8) (j:=14) Sg Sg kr (fun K hK=>?_) (fun K hK=>?_)
    ·skip
     have hxvA:Ext W9 ((W9.alloc (.cells #[.slice (some ⟨b5,0,none⟩) n n] 41)).drew):=(by repeat (first|with_reducible exact Ext.refl _|refine Ext.drew ?_|refine Ext.alloc ?_ _))
     obtain ⟨vA',w5,hrvA,ovA,gvA,_,avA⟩:=run_append_own_at (P:=Tryz.prog) ((W9.alloc (.cells #[.slice (some ⟨b5,0,none⟩) n n] 41)).drew) w.heap.size 79 79 41 ii (.slice none 0 0) 1 24 Tryz.underlying79 HII.out HZ0.out HZ1.out HZ2'.out rfl (by decide) vA i _ (zAh HS9.out.A.own hxvA) ⟨W9.heap.size,0,none⟩ 1 1 [.slice (some ⟨b5,0,none⟩) n n] rfl (zA9 (by repeat (first|with_reducible exact Ext.refl _|refine Ext.drew ?_))) (by intro u hu;rw [List.mem_singleton.1 hu];rfl) (by unfold maxLen;omega) om (Nat.le_trans HSl.out (Nat.le_trans HX9.out.size (by have:=hxvA.size;exact this)))
     skip
     refine (if_pos (by rfl)).mpr ?_
     refine zAx (.tmp 47) (.tmp 49) 79 rfl vA _ rfl rfl hrvA ?_
     have hU5:=(HS9.out.U.own.kept (row:=none) (zCO hxvA) (by cases vU.ownBlock <;> simp)).kept gvA (by
      rcases hh:vA.ownBlock with _|g
      ·rcases h2:vU.ownBlock with _|g2
       ·exact .inl rfl
       ·exact .inr (by simp)
      ·exact .inr (HS9.out.own g hh))
     have hb5:Blk w5 p 239 #[vA,vU,.slice none 0 0,.slice none 0 0]:=(zAR (zAh HS9.out.A.own hxvA) gvA (HS9.out.box.ext hxvA).typ (by decide)).trans (HS9.out.box.ext hxvA)
     have h95:W9.heap.size≤w5.heap.size:=Nat.le_trans hxvA.size gvA.size
     have hHeldN:(fun w'=>w'.cell? ⟨p,0,none⟩=some (vA)∧w'.cell? ⟨p,1,none⟩=some (vU)) (w5):=⟨hb5.cell 0 rfl,hb5.cell 1 rfl⟩
     refine hK.out _ _ (fun _ _=>hHeldN) (fun hCn=>?_)
     clear hK K hC
     (try clear hH)
     have hH:=hHeldN
     have hC:=hCn
     clear hHeldN hCn
     try simp only [Act.put,sA,sB,sC]
     refine zAB hC (i:=14) Sg kr (fun K hK=>?_)
     go_simp
     have hbs14:Ext (w5.alloc (.cells #[.slice (some ⟨b6,0,none⟩) n n] 41)) (w5.alloc (.cells #[.slice (some ⟨b6,0,none⟩) n n] 41)):=Ext.refl _
     have hba14:Hid (w5.heap.size+0=w5.heap.size):=rfl
     have hHeldN:(fun w'=>w'.cell? ⟨p,0,none⟩=some (vA)∧w'.cell? ⟨p,1,none⟩=some (vU)) ((w5.alloc (.cells #[.slice (some ⟨b6,0,none⟩) n n] 41))):=⟨(hb5.ext ((Ext.refl w5).alloc _)).cell 0 rfl,(hb5.ext ((Ext.refl w5).alloc _)).cell 1 rfl⟩
     refine hK.out _ _ (fun _ _=>hHeldN) (fun hCn=>?_)
     clear hK K hC
     (try clear hH)
     have hH:=hHeldN
     have hC:=hCn
     clear hHeldN hCn
     try simp only [Act.put,sA,sB,sC]
     refine zAB hC (i:=15) Sg kr (fun K hK=>?_)
     have hxvU:Ext w5 ((w5.alloc (.cells #[.slice (some ⟨b6,0,none⟩) n n] 41))):=(by repeat (first|with_reducible exact Ext.refl _|refine Ext.alloc ?_ _))
     obtain ⟨vU',w6,hrvU,ovU,gvU,_,avU⟩:=run_append_own_at (P:=Tryz.prog) ((w5.alloc (.cells #[.slice (some ⟨b6,0,none⟩) n n] 41))) w.heap.size 79 79 41 ii (.slice none 0 0) 1 24 Tryz.underlying79 HII.out HZ0.out HZ1.out HZ2'.out rfl (by decide) vU i _ (zAh hU5 hxvU) ⟨w5.heap.size,0,none⟩ 1 1 [.slice (some ⟨b6,0,none⟩) n n] rfl (zA9 (by repeat (first|with_reducible exact Ext.refl _))) (by intro u hu;rw [List.mem_singleton.1 hu];rfl) (by unfold maxLen;omega) om (Nat.le_trans HSl.out (Nat.le_trans HX9.out.size (by have:=hxvU.size;exact Nat.le_trans h95 this)))
     skip
     refine (if_pos (by rfl)).mpr ?_
     refine zAx (.tmp 54) (.tmp 56) 79 rfl vU _ rfl rfl hrvU ?_
     have hb6:Blk w6 p 239 #[vA,vU,.slice none 0 0,.slice none 0 0]:=(zAR (zAh hU5 hxvU) gvU (hb5.ext hxvU).typ (by decide)).trans (hb5.ext hxvU)
     have c60:w6.cell? ⟨p,0,none⟩=some vA:=hb6.cell 0 rfl
     have c61:w6.cell? ⟨p,1,none⟩=some vU:=hb6.cell 1 rfl
     have f60:=hb6.free 0
     have f61:=hb6.free 1
     have HNx:=zH (NewSt.next HS9.out HR9.out HU9.out (Nat.le_trans HSl.out hl5) (Nat.le_trans HSl.out hl6) h56 HDd.out hxvA ovA gvA avA hxvU ovU gvU avU)
     obtain ⟨g5,cap5,rfl⟩:=zBy ovA
     obtain ⟨g6,cap6,rfl⟩:=zBy ovU
     have hHeldN:(fun w'=>w'.cell? ⟨p,0,none⟩=some (vA)∧w'.cell? ⟨p,1,none⟩=some (vU)) (w6):=⟨hb6.cell 0 rfl,hb6.cell 1 rfl⟩
     refine hK.out _ _ (fun _ _=>hHeldN) (fun hCn=>?_)
     clear hK K hC
     (try clear hH)
     have hH:=hHeldN
     have hC:=hCn
     clear hHeldN hCn
     try simp only [Act.put,sA,sB,sC]
     revert hC
     refine tk 16 22 hH ?_
     refine tk 17 22 hH ?_
     intro hC
     refine zAB hC (i:=18) Sg kr (fun K hK=>?_)
     go_simp
     refine hK.out _ _ (fun h=>by cases h) (fun hCn=>?_)
     clear hK K hC
     have hC:=hCn
     clear hCn
     try simp only [Act.put,sA,sB,sC]
     refine zAF hC (i:=19) (v:=?_) Sg kr kr kr kr Iq (by rfl) ?_ (fun hCn=>?_)
     rotate_left
     ·intro w';go_simp;(try with_reducible rfl)
     clear hC
     have hC:=hCn
     clear hCn
     try simp only [Act.put,sA,sB,sC]
     refine zAF hC (i:=20) (v:=?_) Sg kr kr kr kr Iq (by rfl) ?_ (fun hCn=>?_)
     rotate_left
     ·intro w';go_simp;(try with_reducible rfl)
     clear hC
     have hC:=hCn
     clear hCn
     try simp only [Act.put,sA,sB,sC]
     refine zAB hC (i:=21) Sg kr (fun K hK=>?_)
     go_simp
     refine hK.out _ _ (fun h=>by cases h) (fun hCn=>?_)
     clear hK K hC
     have hC:=hCn
     clear hCn
     try simp only [Act.put,sA,sB,sC]
     refine zAD kr ?_ _
     clear hC HKeepT
     try clear hH
     go_wp2
     clear HS9 HR9 HU9 HX9 c0 c1 HII HZ0 HZ1 HZ2'
     go_wp2
     go_roundg (n - (i+1))
     case measure=>omega
     case rel=>exact ⟨i+1,_,_,_,_,by omega,by go_num,HNx⟩
    ·skip
     go_simp
     have hbs14:Ext ((W9.alloc (.cells #[.slice (some ⟨b5,0,none⟩) n n] 41)).alloc (.cells #[.slice (some ⟨b6,0,none⟩) n n] 41)) ((W9.alloc (.cells #[.slice (some ⟨b5,0,none⟩) n n] 41)).alloc (.cells #[.slice (some ⟨b6,0,none⟩) n n] 41)).drew:=(Ext.refl _).drew
     have hba14:Hid ((W9.alloc (.cells #[.slice (some ⟨b5,0,none⟩) n n] 41)).heap.size+0=(W9.alloc (.cells #[.slice (some ⟨b5,0,none⟩) n n] 41)).heap.size):=rfl
     have hHeldN:(fun w'=>w'.cell? ⟨p,0,none⟩=some (vA)∧w'.cell? ⟨p,1,none⟩=some (vU)) (((W9.alloc (.cells #[.slice (some ⟨b5,0,none⟩) n n] 41)).alloc (.cells #[.slice (some ⟨b6,0,none⟩) n n] 41)).drew):=by
      (try dsimp only)
      exact HKeepT.out _ Ext.ua
     refine hK.out _ _ (fun _ _=>hHeldN) (fun hCn=>?_)
     clear hK K hC
     (try clear hH)
     have hH:=hHeldN
     have hC:=hCn
     clear hHeldN hCn
     try simp only [Act.put,sA,sB,sC]
     refine zAB hC (i:=8) Sg kr (fun K hK=>?_)
     have hxvA:Ext W9 (((W9.alloc (.cells #[.slice (some ⟨b5,0,none⟩) n n] 41)).alloc (.cells #[.slice (some ⟨b6,0,none⟩) n n] 41)).drew):=(by repeat (first|with_reducible exact Ext.refl _|refine Ext.drew ?_|refine Ext.alloc ?_ _))
     obtain ⟨vA',w5,hrvA,ovA,gvA,_,avA⟩:=run_append_own_at (P:=Tryz.prog) (((W9.alloc (.cells #[.slice (some ⟨b5,0,none⟩) n n] 41)).alloc (.cells #[.slice (some ⟨b6,0,none⟩) n n] 41)).drew) w.heap.size 79 79 41 ii (.slice none 0 0) 1 24 Tryz.underlying79 HII.out HZ0.out HZ1.out HZ2'.out rfl (by decide) vA i _ (zAh HS9.out.A.own hxvA) ⟨W9.heap.size,0,none⟩ 1 1 [.slice (some ⟨b5,0,none⟩) n n] rfl (zA9 (by repeat (first|with_reducible exact Ext.refl _|refine Ext.drew ?_|refine Ext.alloc ?_ _))) (by intro u hu;rw [List.mem_singleton.1 hu];rfl) (by unfold maxLen;omega) om (Nat.le_trans HSl.out (Nat.le_trans HX9.out.size (by have:=hxvA.size;exact this)))
     skip
     refine (if_pos (by rfl)).mpr ?_
     refine zAx (.tmp 47) (.tmp 49) 79 rfl vA _ rfl rfl hrvA ?_
     have hU5:=(HS9.out.U.own.kept (row:=none) (zCO hxvA) (by cases vU.ownBlock <;> simp)).kept gvA (by
      rcases hh:vA.ownBlock with _|g
      ·rcases h2:vU.ownBlock with _|g2
       ·exact .inl rfl
       ·exact .inr (by simp)
      ·exact .inr (HS9.out.own g hh))
     have hb5:Blk w5 p 239 #[vA,vU,.slice none 0 0,.slice none 0 0]:=(zAR (zAh HS9.out.A.own hxvA) gvA (HS9.out.box.ext hxvA).typ (by decide)).trans (HS9.out.box.ext hxvA)
     have h95:W9.heap.size≤w5.heap.size:=Nat.le_trans hxvA.size gvA.size
     have hHeldN:(fun w'=>w'.cell? ⟨p,0,none⟩=some (vA)∧w'.cell? ⟨p,1,none⟩=some (vU)) (w5):=⟨hb5.cell 0 rfl,hb5.cell 1 rfl⟩
     refine hK.out _ _ (fun _ _=>hHeldN) (fun hCn=>?_)
     clear hK K hC
     (try clear hH)
     have hH:=hHeldN
     have hC:=hCn
     clear hHeldN hCn
     try simp only [Act.put,sA,sB,sC]
     refine zAB hC (i:=15) Sg kr (fun K hK=>?_)
     have hxvU:Ext w5 (w5):=(by repeat (first|with_reducible exact Ext.refl _))
     obtain ⟨vU',w6,hrvU,ovU,gvU,_,avU⟩:=run_append_own_at (P:=Tryz.prog) (w5) w.heap.size 79 79 41 ii (.slice none 0 0) 1 24 Tryz.underlying79 HII.out HZ0.out HZ1.out HZ2'.out rfl (by decide) vU i _ (zAh hU5 hxvU) ⟨(W9.alloc (.cells #[.slice (some ⟨b5,0,none⟩) n n] 41)).heap.size,0,none⟩ 1 1 [.slice (some ⟨b6,0,none⟩) n n] rfl (zB1 (W1:=((W9.alloc (.cells #[.slice (some ⟨b5,0,none⟩) n n] 41)).alloc (.cells #[.slice (some ⟨b6,0,none⟩) n n] 41)).drew) (by repeat (first|with_reducible exact Ext.refl _|refine Ext.drew ?_)) gvA (fun r hr=>by have h1:=(HS9.out.A.own.lt r hr).2;(try simp only [World.size_alloc,World.size_drew]);omega)) (by intro u hu;rw [List.mem_singleton.1 hu];rfl) (by unfold maxLen;omega) om (Nat.le_trans HSl.out (Nat.le_trans HX9.out.size (by have:=hxvU.size;exact Nat.le_trans h95 this)))
     try simp only [World.size_alloc,World.size_drew] at hrvU
     refine (if_pos (by rfl)).mpr ?_
     refine zAx (.tmp 54) (.tmp 56) 79 rfl vU _ rfl rfl hrvU ?_
     have hb6:Blk w6 p 239 #[vA,vU,.slice none 0 0,.slice none 0 0]:=(zAR (zAh hU5 hxvU) gvU (hb5.ext hxvU).typ (by decide)).trans (hb5.ext hxvU)
     have c60:w6.cell? ⟨p,0,none⟩=some vA:=hb6.cell 0 rfl
     have c61:w6.cell? ⟨p,1,none⟩=some vU:=hb6.cell 1 rfl
     have f60:=hb6.free 0
     have f61:=hb6.free 1
     have HNx:=zH (NewSt.next HS9.out HR9.out HU9.out (Nat.le_trans HSl.out hl5) (Nat.le_trans HSl.out hl6) h56 HDd.out hxvA ovA gvA avA hxvU ovU gvU avU)
     obtain ⟨g5,cap5,rfl⟩:=zBy ovA
     obtain ⟨g6,cap6,rfl⟩:=zBy ovU
     have hHeldN:(fun w'=>w'.cell? ⟨p,0,none⟩=some (vA)∧w'.cell? ⟨p,1,none⟩=some (vU)) (w6):=⟨hb6.cell 0 rfl,hb6.cell 1 rfl⟩
     refine hK.out _ _ (fun _ _=>hHeldN) (fun hCn=>?_)
     clear hK K hC
     (try clear hH)
     have hH:=hHeldN
     have hC:=hCn
     clear hHeldN hCn
     try simp only [Act.put,sA,sB,sC]
     revert hC
     refine tk 16 22 hH ?_
     refine tk 17 22 hH ?_
     intro hC
     refine zAB hC (i:=18) Sg kr (fun K hK=>?_)
     go_simp
     refine hK.out _ _ (fun h=>by cases h) (fun hCn=>?_)
     clear hK K hC
     have hC:=hCn
     clear hCn
     try simp only [Act.put,sA,sB,sC]
     refine zAF hC (i:=19) (v:=?_) Sg kr kr kr kr Iq (by rfl) ?_ (fun hCn=>?_)
     rotate_left
     ·intro w';go_simp;(try with_reducible rfl)
     clear hC
     have hC:=hCn
     clear hCn
     try simp only [Act.put,sA,sB,sC]
     refine zAF hC (i:=20) (v:=?_) Sg kr kr kr kr Iq (by rfl) ?_ (fun hCn=>?_)
     rotate_left
     ·intro w';go_simp;(try with_reducible rfl)
     clear hC
     have hC:=hCn
     clear hCn
     try simp only [Act.put,sA,sB,sC]
     refine zAB hC (i:=21) Sg kr (fun K hK=>?_)
     go_simp
     refine hK.out _ _ (fun h=>by cases h) (fun hCn=>?_)
     clear hK K hC
     have hC:=hCn
     clear hCn
     try simp only [Act.put,sA,sB,sC]
     refine zAD kr ?_ _
     clear hC HKeepT
     try clear hH
     go_wp2
     clear HS9 HR9 HU9 HX9 c0 c1 HII HZ0 HZ1 HZ2'
     go_wp2
     go_roundg (n - (i+1))
     case measure=>omega
     case rel=>exact ⟨i+1,_,_,_,_,by omega,by go_num,HNx⟩
   ·skip
    go_simp
    have hbs14:Ext (W9.alloc (.cells #[.slice (some ⟨b6,0,none⟩) n n] 41)) (W9.alloc (.cells #[.slice (some ⟨b6,0,none⟩) n n] 41)).drew:=(Ext.refl _).drew
    have hba14:Hid (W9.heap.size+0=W9.heap.size):=rfl
    have hHeldN:(fun w'=>w'.cell? ⟨p,0,none⟩=some (vA)∧w'.cell? ⟨p,1,none⟩=some (vU)) ((W9.alloc (.cells #[.slice (some ⟨b6,0,none⟩) n n] 41)).drew):=by
     (try dsimp only)
     exact HKeepT.out _ Ext.ua
    refine hK.out _ _ (fun _ _=>hHeldN) (fun hCn=>?_)
    clear hK K hC
    (try clear hH)
    have hH:=hHeldN
    have hC:=hCn
    clear hHeldN hCn
    try simp only [Act.put,sA,sB,sC]
    refine zAB hC (i:=7) Sg kr (fun K hK=>?_)
    go_simp
    have hbs7:Ext ((W9.alloc (.cells #[.slice (some ⟨b6,0,none⟩) n n] 41)).alloc (.cells #[.slice (some ⟨b5,0,none⟩) n n] 41)) ((W9.alloc (.cells #[.slice (some ⟨b6,0,none⟩) n n] 41)).alloc (.cells #[.slice (some ⟨b5,0,none⟩) n n] 41)).drew:=(Ext.refl _).drew
    have hba7:Hid ((W9.alloc (.cells #[.slice (some ⟨b6,0,none⟩) n n] 41)).heap.size+0=(W9.alloc (.cells #[.slice (some ⟨b6,0,none⟩) n n] 41)).heap.size):=rfl
    have hHeldN:(fun w'=>w'.cell? ⟨p,0,none⟩=some (vA)∧w'.cell? ⟨p,1,none⟩=some (vU)) (((W9.alloc (.cells #[.slice (some ⟨b6,0,none⟩) n n] 41)).alloc (.cells #[.slice (some ⟨b5,0,none⟩) n n] 41)).drew):=by
     (try dsimp only)
     exact HKeepT.out _ Ext.ua
    refine hK.out _ _ (fun _ _=>hHeldN) (fun hCn=>?_)
    clear hK K hC
    (try clear hH)
    have hH:=hHeldN
    have hC:=hCn
    clear hHeldN hCn
    try simp only [Act.put,sA,sB,sC]
    refine zAB hC (i:=8) Sg kr (fun K hK=>?_)
    have hxvA:Ext W9 (((W9.alloc (.cells #[.slice (some ⟨b6,0,none⟩) n n] 41)).alloc (.cells #[.slice (some ⟨b5,0,none⟩) n n] 41)).drew):=(by repeat (first|with_reducible exact Ext.refl _|refine Ext.drew ?_|refine Ext.alloc ?_ _))
    obtain ⟨vA',w5,hrvA,ovA,gvA,_,avA⟩:=run_append_own_at (P:=Tryz.prog) (((W9.alloc (.cells #[.slice (some ⟨b6,0,none⟩) n n] 41)).alloc (.cells #[.slice (some ⟨b5,0,none⟩) n n] 41)).drew) w.heap.size 79 79 41 ii (.slice none 0 0) 1 24 Tryz.underlying79 HII.out HZ0.out HZ1.out HZ2'.out rfl (by decide) vA i _ (zAh HS9.out.A.own hxvA) ⟨(W9.alloc (.cells #[.slice (some ⟨b6,0,none⟩) n n] 41)).heap.size,0,none⟩ 1 1 [.slice (some ⟨b5,0,none⟩) n n] rfl (zA9 (by repeat (first|with_reducible exact Ext.refl _|refine Ext.drew ?_))) (by intro u hu;rw [List.mem_singleton.1 hu];rfl) (by unfold maxLen;omega) om (Nat.le_trans HSl.out (Nat.le_trans HX9.out.size (by have:=hxvA.size;exact this)))
    try simp only [World.size_alloc,World.size_drew] at hrvA
    refine (if_pos (by rfl)).mpr ?_
    refine zAx (.tmp 47) (.tmp 49) 79 rfl vA _ rfl rfl hrvA ?_
    have hU5:=(HS9.out.U.own.kept (row:=none) (zCO hxvA) (by cases vU.ownBlock <;> simp)).kept gvA (by
     rcases hh:vA.ownBlock with _|g
     ·rcases h2:vU.ownBlock with _|g2
      ·exact .inl rfl
      ·exact .inr (by simp)
     ·exact .inr (HS9.out.own g hh))
    have hb5:Blk w5 p 239 #[vA,vU,.slice none 0 0,.slice none 0 0]:=(zAR (zAh HS9.out.A.own hxvA) gvA (HS9.out.box.ext hxvA).typ (by decide)).trans (HS9.out.box.ext hxvA)
    have h95:W9.heap.size≤w5.heap.size:=Nat.le_trans hxvA.size gvA.size
    have hHeldN:(fun w'=>w'.cell? ⟨p,0,none⟩=some (vA)∧w'.cell? ⟨p,1,none⟩=some (vU)) (w5):=⟨hb5.cell 0 rfl,hb5.cell 1 rfl⟩
    refine hK.out _ _ (fun _ _=>hHeldN) (fun hCn=>?_)
    clear hK K hC
    (try clear hH)
    have hH:=hHeldN
    have hC:=hCn
    clear hHeldN hCn
    try simp only [Act.put,sA,sB,sC]
    refine zAB hC (i:=15) Sg kr (fun K hK=>?_)
    have hxvU:Ext w5 (w5):=(by repeat (first|with_reducible exact Ext.refl _))
    obtain ⟨vU',w6,hrvU,ovU,gvU,_,avU⟩:=run_append_own_at (P:=Tryz.prog) (w5) w.heap.size 79 79 41 ii (.slice none 0 0) 1 24 Tryz.underlying79 HII.out HZ0.out HZ1.out HZ2'.out rfl (by decide) vU i _ (zAh hU5 hxvU) ⟨W9.heap.size,0,none⟩ 1 1 [.slice (some ⟨b6,0,none⟩) n n] rfl (zB1 (W1:=((W9.alloc (.cells #[.slice (some ⟨b6,0,none⟩) n n] 41)).alloc (.cells #[.slice (some ⟨b5,0,none⟩) n n] 41)).drew) (by repeat (first|with_reducible exact Ext.refl _|refine Ext.drew ?_|refine Ext.alloc ?_ _)) gvA (fun r hr=>by have h1:=(HS9.out.A.own.lt r hr).2;omega)) (by intro u hu;rw [List.mem_singleton.1 hu];rfl) (by unfold maxLen;omega) om (Nat.le_trans HSl.out (Nat.le_trans HX9.out.size (by have:=hxvU.size;exact Nat.le_trans h95 this)))
    skip
    refine (if_pos (by rfl)).mpr ?_
    refine zAx (.tmp 54) (.tmp 56) 79 rfl vU _ rfl rfl hrvU ?_
    have hb6:Blk w6 p 239 #[vA,vU,.slice none 0 0,.slice none 0 0]:=(zAR (zAh hU5 hxvU) gvU (hb5.ext hxvU).typ (by decide)).trans (hb5.ext hxvU)
    have c60:w6.cell? ⟨p,0,none⟩=some vA:=hb6.cell 0 rfl
    have c61:w6.cell? ⟨p,1,none⟩=some vU:=hb6.cell 1 rfl
    have f60:=hb6.free 0
    have f61:=hb6.free 1
    have HNx:=zH (NewSt.next HS9.out HR9.out HU9.out (Nat.le_trans HSl.out hl5) (Nat.le_trans HSl.out hl6) h56 HDd.out hxvA ovA gvA avA hxvU ovU gvU avU)
    obtain ⟨g5,cap5,rfl⟩:=zBy ovA
    obtain ⟨g6,cap6,rfl⟩:=zBy ovU
    have hHeldN:(fun w'=>w'.cell? ⟨p,0,none⟩=some (vA)∧w'.cell? ⟨p,1,none⟩=some (vU)) (w6):=⟨hb6.cell 0 rfl,hb6.cell 1 rfl⟩
    refine hK.out _ _ (fun _ _=>hHeldN) (fun hCn=>?_)
    clear hK K hC
    (try clear hH)
    have hH:=hHeldN
    have hC:=hCn
    clear hHeldN hCn
    try simp only [Act.put,sA,sB,sC]
    revert hC
    refine tk 16 22 hH ?_
    refine tk 17 22 hH ?_
    intro hC
    refine zAB hC (i:=18) Sg kr (fun K hK=>?_)
    go_simp
    refine hK.out _ _ (fun h=>by cases h) (fun hCn=>?_)
    clear hK K hC
    have hC:=hCn
    clear hCn
    try simp only [Act.put,sA,sB,sC]
    refine zAF hC (i:=19) (v:=?_) Sg kr kr kr kr Iq (by rfl) ?_ (fun hCn=>?_)
    rotate_left
    ·intro w';go_simp;(try with_reducible rfl)
    clear hC
    have hC:=hCn
    clear hCn
    try simp only [Act.put,sA,sB,sC]
    refine zAF hC (i:=20) (v:=?_) Sg kr kr kr kr Iq (by rfl) ?_ (fun hCn=>?_)
    rotate_left
    ·intro w';go_simp;(try with_reducible rfl)
    clear hC
    have hC:=hCn
    clear hCn
    try simp only [Act.put,sA,sB,sC]
    refine zAB hC (i:=21) Sg kr (fun K hK=>?_)
    go_simp
    refine hK.out _ _ (fun h=>by cases h) (fun hCn=>?_)
    clear hK K hC
    have hC:=hCn
    clear hCn
    try simp only [Act.put,sA,sB,sC]
    refine zAD kr ?_ _
    clear hC HKeepT
    try clear hH
    go_wp2
    clear HS9 HR9 HU9 HX9 c0 c1 HII HZ0 HZ1 HZ2'
    go_wp2
    go_roundg (n - (i+1))
    case measure=>omega
    case rel=>exact ⟨i+1,_,_,_,_,by omega,by go_num,HNx⟩
 ·skip
  obtain rfl:n=i:=by omega
  obtain ⟨gA,cA,rfl⟩:∃ gA cA,vA = .slice (some ⟨gA,0,none⟩) n cA:=by
   rcases HS.out.A.own.2 with ⟨_,h0⟩|⟨g,cap,cur,h1,_⟩
   ·omega
   ·exact ⟨g,cap,h1⟩
  obtain ⟨gU,cU,rfl⟩:∃ gU cU,vU = .slice (some ⟨gU,0,none⟩) n cU:=by
   rcases HS.out.U.own.2 with ⟨_,h0⟩|⟨g,cap,cur,h1,_⟩
   ·omega
   ·exact ⟨g,cap,h1⟩
  have hb:=HS.out.box
  have c2:wr.cell? ⟨p,2,none⟩=some (.slice none 0 0):=hb.cell 2 rfl
  have c3:wr.cell? ⟨p,3,none⟩=some (.slice none 0 0):=hb.cell 3 rfl
  have f2:=hb.free 2
  have f3:=hb.free 3
  have HB:=zH hb
  have l2:=hb.lt
  obtain ⟨csL,hmkL,htL,hcL,hfL⟩:=make_slots (n:Int) n rfl om wr
  have HTL:=zH htL
  have HCL:=zH hcL
  have HFL:=zH hfL
  clear hb htL hcL hfL
  go_upto_region 15 with (fail)
  have e14:(wr.setCell ⟨p,3,none⟩ (.slice (some ⟨wr.heap.size,0,none⟩) n n)).alloc (.cells csL 41)=(wr.alloc (.cells csL 41)).setCell ⟨p,3,none⟩ (.slice (some ⟨wr.heap.size,0,none⟩) n n):=(World.setCell_alloc_past _ _ _ _ l2).symm
  rw [e14]
  obtain ⟨W14,hW14⟩:∃ W14,(wr.alloc (.cells csL 41)).setCell ⟨p,3,none⟩ (.slice (some ⟨wr.heap.size,0,none⟩) n n)=W14:=⟨_,rfl⟩
  have HE14:Hid (ExtBut (fun x=>x=p) wr W14):=by rw [← hW14];exact ((ExtBut.refl (fun x=>x=p) wr).alloc _).setCell (p:=⟨p,3,none⟩) (Or.inl rfl) _
  have HB14:Hid (Blk W14 p 239 #[.slice (some ⟨gA,0,none⟩) n cA,.slice (some ⟨gU,0,none⟩) n cU,.slice none 0 0,.slice (some ⟨wr.heap.size,0,none⟩) n n]):=by rw [← hW14];exact (HB.out.ext ((Ext.refl _).alloc _)).set 3 _
  obtain ⟨gL,hgL⟩:∃ g,wr.heap.size=g:=⟨_,rfl⟩
  have hgp:p < gL:=by omega
  have HTL4:Hid (TB W14 41 gL):=by rw [← hW14,← hgL];exact HTL.out.set_ _ _
  have HCL4:Hid (∀ i,i < n→W14.cell? ⟨gL,i,none⟩=some (.slice none 0 0)):=by rw [← hW14,← hgL];exact fun i hi=>(zAJ om).trans (HCL.out i hi)
  have HFL4:Hid (∀ i,W14.frozen? ⟨gL,i,none⟩=false):=by rw [← hW14,← hgL];exact fun i=>(World.frozen?_setCell _ _ _ _).trans (HFL.out i)
  have HGL:=zH hgL
  rw [hW14]
  rw [hgL] at HB14 ⊢
  clear e14 hW14 hmkL HTL HCL HFL HB c2 c3 f2 f3 l2 hgL
  have c2:W14.cell? ⟨p,2,none⟩=some (.slice none 0 0):=HB14.out.cell 2 rfl
  have f2:=HB14.out.free 2
  have l2:=HB14.out.lt
  obtain ⟨csD,hmkD,hDrow⟩:=zAs ((n:Int)+1) (n+1) om om W14
  have HDr:=zH hDrow
  have hw1:IntKind.i64.wrap ((n:Int)+1)=(n:Int)+1:=IntWalk.i64_in _ om
  clear hDrow
  go_upto_region 16 with (fail)
  clear hw1
  have e15:(W14.setCell ⟨p,2,none⟩ (.slice (some ⟨W14.heap.size,0,none⟩) (n+1) (n+1))).alloc (.cells csD 49)=(W14.alloc (.cells csD 49)).setCell ⟨p,2,none⟩ (.slice (some ⟨W14.heap.size,0,none⟩) (n+1) (n+1)):=(World.setCell_alloc_past _ _ _ _ l2).symm
  rw [e15]
  obtain ⟨W15,hW15⟩:∃ W15,(W14.alloc (.cells csD 49)).setCell ⟨p,2,none⟩ (.slice (some ⟨W14.heap.size,0,none⟩) (n+1) (n+1))=W15:=⟨_,rfl⟩
  have hszW:gL≤W14.heap.size:=by have h1:=HE14.out.size;have h2:=HGL.out;omega
  have HL15:Hid (IsLat W15 w.heap.size p n 0 gA gU gL cA cU (fun s=>if s < n then hA s else if s < 2*n then hU (s - n) else W14.heap.size) (newC n (entry rows))):=by
   refine NewSt.lat HS.out ?_ ?_ ?_ ?_ ?_ ?_ ?_ ?_ hn1
   ·rw [← hW15];exact (HE14.out.alloc _).setCell (p:=⟨p,2,none⟩) (Or.inl rfl) _
   ·rw [← hW15];exact (HB14.out.ext ((Ext.refl _).alloc _)).set 2 _
   ·rw [← hW15]
    have hne:p≠W14.heap.size:=by omega
    exact HDr.out.typed (heap_setCell_other _ ⟨p,2,none⟩ _ _ (Ne.symm hne)) fun b hb=>heap_setCell_other _ ⟨p,2,none⟩ b _ (hb.ne (HB14.out.ext ((Ext.refl _).alloc _)).typ (by decide))
   ·have h2:=HGL.out;omega
   ·have h2:=HGL.out;omega
   ·rw [← hW15];exact (HTL4.out.of_eq (Below.heap_alloc _ _ _ HTL4.out.lt)).set_ _ _
   ·rw [← hW15];exact fun i hi=>(zAJ om).trans (((Ext.refl W14).alloc _).cell (HCL4.out i hi))
   ·rw [← hW15];exact fun i=>(World.frozen?_setCell _ _ _ _).trans (((Ext.refl W14).alloc _).free (HFL4.out i) HTL4.out.lt)
  have HX15:Hid (Ext w W15):=by rw [← hW15];exact (((HS.out.A.ext.but HE14.out (by rintro g rfl;exact HS.out.lowp)).alloc _).setCell (p:=⟨p,2,none⟩) HS.out.lowp _)
  rw [hW15]
  have HP0:=zH (parts_any w.heap.size p n 0 gA gU gL cA cU _ _ 0 w W15 HL15.out HX15.out (Nat.le_refl _) hn8 (Nat.le_refl _) om)
  clear e15 hW15 HL15 HX15 HS HE14 HB14 HTL4 HCL4 HFL4 hmkD HDr c2 f2
  go_wp2_with (go_at_call 242;refine HP0.out.mono ?_;rintro e w3 ⟨rfl,⟨bl3,hl3⟩,hx3⟩;have HL3:=zH hl3;have HX3:=zH hx3;clear hl3 hx3)
  refine bodyPost_ret (v:=.pointer (some ⟨p,0,none⟩)) (by simp [results,Tryz.results217,go_sem]) rfl ⟨p,gA,gU,gL,cA,cU,bl3,rfl,HL3.out,HX3.out⟩
theorem made_ok (A:Option Addr) (n c:Nat) (rows:List (List Int)) (w:World) (ct':Nat→Nat→Int) (fuel:Nat) (hn:n=rows.length) (hn1:1≤n) (hn8:n≤100) (hr:IsRows w A rows) (hf:Fit64 rows) (hsq:∀ l∈rows,l.length=n) (hc:chk rows=0)
  (hred:redP n fuel 1 (partsP n (newC n (entry rows)) 0 n)=some ct') :
  Calls Tryz.prog 185 #[.slice A n c] w fun e w'=>∃ p gA gU gL cA cU bl,e = .returned (.tuple #[.pointer (some ⟨p,0,none⟩),.int .i64 0])∧IsLat w' w.heap.size p n n gA gU gL cA cU bl ct'∧Ext w w':=by
 have HC:=zH (zC1 A n c rows w hn hr hf)
 have HN:=zH (fun W (hx:Ext w W)=>basNew_any A n c rows W hn hn1 hn8 (hr.ext hx) hf hsq)
 have HR:=zH hred
 rw [hc] at HC
 clear hc hr hf hn hsq hred
 go_enter Tryz.func185,Tryz.ntmps185
 go_wp2_with (first
  | (go_at_call 49;refine HC.out.mono ?_;rintro e w1 ⟨rfl,hx⟩;have HX1:=zH hx;clear hx)
  | (go_at_call 217;refine (HN.out _ HX1.out).mono ?_;rintro e w2 ⟨p,gA,gU,gL,cA,cU,bl,rfl,hl,hx⟩;have HX2:=zH (HX1.out.trans hx);have HL2:=zH hl;have HRd:=zH (reduce_any w1.heap.size p n gA gU gL cA cU bl _ ct' fuel w1 w2 hl hx (Nat.le_refl _) hn8 hn1 HR.out);clear hl)
  | (go_at_call 218;refine HRd.out.mono ?_;rintro e w3 ⟨rfl,⟨bl3,hl⟩,hx3⟩;have HL3:=zH hl;have HX3:=zH (HX1.out.trans hx3);clear hl hx3))
 refine bodyPost_ret (v:=.tuple #[.pointer (some ⟨p,0,none⟩),.int .i64 0]) (by simp [results,Tryz.results185,go_sem]) rfl ?_
 exact ⟨p,gA,gU,gL,cA,cU,bl3,rfl,⟨HL3.out.box,⟨HL3.out.rows.row,HL3.out.rows.inj,fun s hs=>Nat.le_trans HX1.out.size (HL3.out.rows.low s hs)⟩,HL3.out.tA,HL3.out.tU,HL3.out.tL,HL3.out.neAU,HL3.out.neAL,HL3.out.neUL,HL3.out.cellA,HL3.out.cellU,HL3.out.cellL,HL3.out.restL,HL3.out.freeA,HL3.out.freeU,HL3.out.freeL,
  Nat.le_trans HX1.out.size HL3.out.lowp,Nat.le_trans HX1.out.size HL3.out.lowA,Nat.le_trans HX1.out.size HL3.out.lowU,Nat.le_trans HX1.out.size HL3.out.lowL⟩,HX3.out⟩
end Go.Proofs.YtdkgilioejdmeaaGreat
