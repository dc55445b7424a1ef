/- YtdkgilioejdmeaaGreatBA6: what is proved here stands in the theorems' own rows. -/
import Derived.IntWalk
import Derived.Test.YtdkgilioejdmeaaGreatBA1
import Derived.Test.YtdkgilioejdmeaaGreatBA5
set_option linter.unusedVariables false
set_option linter.unusedSimpArgs false
namespace Go.Proofs.YtdkgilioejdmeaaGreat
open Go.RowKit
def wideB (l d:Int):Bool:=decide (0 < cmpZ (fitZ ((l.natAbs:Int)+l.natAbs)) d)
theorem zA4 {n i:Nat}:latLn n (2*n+1+i)=i:=by unfold latLn;rw [if_neg om,if_neg om];omega
theorem zAu {n:Nat}:latLn n (2*n)=n+1:=by unfold latLn;rw [if_neg om,if_pos rfl]
set_option maxHeartbeats 4000000 in
theorem wide_any (lo p n f gA gU gL cA cU:Nat) (bl:Nat→Nat) (ct:Nat→Nat→Int) (i j:Nat) (w:World) (h:IsLat w lo p n f gA gU gL cA cU bl ct) (hn:n≤100) (hf:f≤n) (hi:i < f) (hj:j < i) :
  Calls Tryz.prog 251 #[.pointer (some ⟨p,0,none⟩),.int .i64 i,.int .i64 j] w fun e w'=>e = .returned (.bool (wideB (ct (2*n+1+i) j) (ct (2*n) (j+1))))∧Ext w w':=by
 have c2:w.cell? ⟨p,2,none⟩=some (.slice (some ⟨bl (2*n),0,none⟩) (n+1) (n+1)):=h.box.cell 2 rfl
 have c3:w.cell? ⟨p,3,none⟩=some (.slice (some ⟨gL,0,none⟩) n n):=h.box.cell 3 rfl
 have hjn:j < n:=by omega
 have cL:=h.cellL i hi
 obtain ⟨nz,Az,kz,cz1,cz2,iz⟩:=(h.rows.row (2*n+1+i) (Or.inr ⟨by omega,by omega⟩)).cells j (by rw [zA4];exact hj)
 obtain ⟨nd,Ad,kd,cd1,cd2,id⟩:=(h.rows.row (2*n) (Or.inl om)).cells (j+1) (by rw [zAu];omega)
 obtain ⟨l,hl⟩:∃ l,ct (2*n+1+i) j=l:=⟨_,rfl⟩
 obtain ⟨d,hd⟩:∃ d,ct (2*n) (j+1)=d:=⟨_,rfl⟩
 obtain ⟨bz,hbz⟩:∃ bz,bl (2*n+1+i)=bz:=⟨_,rfl⟩
 obtain ⟨bd,hbd⟩:∃ bd,bl (2*n)=bd:=⟨_,rfl⟩
 rw [hl] at iz ⊢
 rw [hd] at id ⊢
 rw [hbz] at cL cz1 cz2
 rw [hbd] at c2 cd1 cd2
 have HZ:=zH iz
 have HD:=zH id
 have HX:Hid (Ext w w):=Ext.refl _
 have l2:=zAA c2
 have l3:=zAA cL
 have l4:=zAA cz1
 have l5:=zAA cd1
 simp only at l2 l3 l4 l5
 clear h hl hd hbz hbd iz id
 go_enter Tryz.func251,Tryz.ntmps251
 go_upto_region 2 with (first
   | (go_at_call 47;refine (zCV nz Az kz _).mono ?_;rintro e u1 ⟨rfl,hx⟩;have hxN:Ext w u1:=Ext.trans Ext.ua hx;have hxA:=hxN;clear hxN;  have tc2:=hxA.cell c2;have tcd1:=hxA.cell cd1;have tcd2:=hxA.cell cd2;clear hx)
   | (go_at_call 114;refine (zCx Az kz l.natAbs _ (HZ.out.nat.ext Ext.ua) HZ.out.bits).mono ?_;rintro e u2 ⟨b2,rfl,hi2,hx⟩;have hxN:Ext w u2:=Ext.trans Ext.ua hx;(try clear hxA);have hxA:=hxN;clear hxN;have HI2:=zH hi2;clear hi2;  (try clear tc2);have tc2:=hxA.cell c2;(try clear tcd1);have tcd1:=hxA.cell cd1;(try clear tcd2);have tcd2:=hxA.cell cd2;clear hx))
 obtain ⟨W1,hW1⟩:∃ W1,u2.alloc (.cells #[.bool b2,.slice Az kz kz] 49)=W1:=⟨_,rfl⟩
 have HX1:Hid (Ext w W1):=by rw [← hW1];exact hxA.alloc _
 have HB7:=Blk.new u2 49 #[.bool b2,.slice Az kz kz]
 have HI7:=zH (HI2.out.ext ((Ext.refl u2).alloc (.cells #[.bool b2,.slice Az kz kz] 49)))
 have hs7:=hxA.size
 rw [hW1] at HB7 HI7 ⊢
 obtain ⟨c7a,f7a,c7b,f7b⟩:=HB7.two
 have l7:=HB7.lt
 obtain ⟨b7,hb7⟩:∃ b7,u2.heap.size=b7:=⟨_,rfl⟩
 rw [hb7] at c7a f7a c7b f7b l7 hs7 ⊢
 clear hW1 hxA HI2 HB7 hb7 tc2 tcd1 tcd2
 replace c2:=HX1.out.cell c2
 replace c3:=HX1.out.cell c3
 replace cL:=HX1.out.cell cL
 replace cz1:=HX1.out.cell cz1
 replace cz2:=HX1.out.cell cz2
 replace cd1:=HX1.out.cell cd1
 replace cd2:=HX1.out.cell cd2
 replace HZ:=zH (HZ.out.ext HX1.out)
 replace HD:=zH (HD.out.ext HX1.out)
 replace HX:=zH (HX.out.trans HX1.out)
 have hszW1:=HX1.out.size
 have HAd:=zH (fun W (hx:Ext W1 W)=>zBR b2 b2 Az Az kz kz l.natAbs l.natAbs W (HI7.out.ext hx) (HI7.out.ext hx))
 have HCm:=zH (fun W nn E e z (he:IsInt W nn E e z) (hx:Ext W1 W)=>zCmp_any nn nd E Ad e kd z d W he (HD.out.ext hx))
 obtain ⟨q,hq⟩:∃ q,fitZ ((l.natAbs:Int)+l.natAbs)=q:=⟨_,rfl⟩
 obtain ⟨qc,hqc⟩:∃ qc,codeZ ((l.natAbs:Int)+l.natAbs)=qc:=⟨_,rfl⟩
 have HW:Hid (wideB l d=decide (0 < cmpZ q d)):=by unfold wideB;rw [hq];exact rfl
 rw [hq,hqc] at HAd
 clear hq hqc
 have h0:(0:Int)≤(j:Int)+1:=by omega
 have h1:(j:Int)+1 < ((n+1:Nat):Int):=by omega
 have h2:((j:Int)+1).toNat=j+1:=by omega
 have hw1:IntKind.i64.wrap ((j:Int)+1)=(j:Int)+1:=IntWalk.i64_in _ om
 have HKeepT:=zH (fun (w':World) (hx:Ext W1 w')=>(show w'.cell? ⟨p,2,none⟩=some (.slice (some ⟨bd,0,none⟩) (n+1) (n+1))∧w'.cell? ⟨bd,(j+1)*2,none⟩=some (.bool nd)∧w'.cell? ⟨bd,(j+1)*2+1,none⟩=some (.slice Ad kd kd)∧w'.cell? ⟨b7,0,none⟩=some (.bool b2)∧w'.cell? ⟨b7,1,none⟩=some (.slice Az kz kz) from ⟨hx.cell c2,hx.cell cd1,hx.cell cd2,hx.cell c7a,hx.cell c7b⟩))
 refine zCI (fun w'=>w'.cell? ⟨p,2,none⟩=some (.slice (some ⟨bd,0,none⟩) (n+1) (n+1))∧w'.cell? ⟨bd,(j+1)*2,none⟩=some (.bool nd)∧w'.cell? ⟨bd,(j+1)*2+1,none⟩=some (.slice Ad kd kd)∧w'.cell? ⟨b7,0,none⟩=some (.bool b2)∧w'.cell? ⟨b7,1,none⟩=some (.slice Az kz kz)) 16 [] 17 #[false,false,false,false,false,false,false,false,false,false,false,false,false,false,false,false,false] kr kr kr ?_ (fun hH hC=>?_)
 ·exact HKeepT.out _ Ext.ua
 refine zAE hC hH (i:=0) (f:=17) (v:=?_) Sg kr kr kr kr kr kr Iq (by rfl) ?_ (fun hC=>?_)
 rotate_left
 ·intro w' hSw;go_simp;(try with_reducible rfl)
 try simp only [Act.put,sA,sB,sC]
 refine zAE hC hH (i:=1) (f:=17) (v:=?_) Sg kr kr kr kr kr kr Iq (by rfl) ?_ (fun hC=>?_)
 rotate_left
 ·intro w' hSw;go_simp;(try with_reducible rfl)
 try simp only [Act.put,sA,sB,sC]
 refine zAE hC hH (i:=6) (f:=17) (v:=?_) Sg kr kr kr kr kr kr Iq (by rfl) ?_ (fun hC=>?_)
 rotate_left
 ·intro w' hSw;go_simp;(try with_reducible rfl)
 try simp only [Act.put,sA,sB,sC]
 refine zAE hC hH (i:=7) (f:=17) (v:=?_) Sg kr kr kr kr kr kr Iq (by rfl) ?_ (fun hC=>?_)
 rotate_left
 ·intro w' hSw;go_simp;(try with_reducible rfl)
 try simp only [Act.put,sA,sB,sC]
 refine zAE hC hH (i:=8) (f:=17) (v:=?_) Sg kr kr kr kr kr kr Iq (by rfl) ?_ (fun hC=>?_)
 rotate_left
 ·intro w' hSw;go_simp;(try with_reducible rfl)
 try simp only [Act.put,sA,sB,sC]
 refine zAE hC hH (i:=9) (f:=17) (v:=?_) Sg kr kr kr kr kr kr Iq (by rfl) ?_ (fun hC=>?_)
 rotate_left
 ·intro w' hSw;go_simp;(try with_reducible rfl)
 try simp only [Act.put,sA,sB,sC]
 refine zAE hC hH (i:=10) (f:=17) (v:=?_) Sg kr kr kr kr kr kr Iq (by rfl) ?_ (fun hC=>?_)
 rotate_left
 ·intro w' hSw;go_simp;(try with_reducible rfl)
 try simp only [Act.put,sA,sB,sC]
 refine zAE hC hH (i:=11) (f:=17) (v:=?_) Sg kr kr kr kr kr kr Iq (by rfl) ?_ (fun hC=>?_)
 rotate_left
 ·intro w' hSw;go_simp;(try with_reducible rfl)
 try simp only [Act.put,sA,sB,sC]
 refine zAE hC hH (i:=12) (f:=17) (v:=?_) Sg kr kr kr kr kr kr Iq (by rfl) ?_ (fun hC=>?_)
 rotate_left
 ·intro w' hSw;go_simp;(try with_reducible rfl)
 try simp only [Act.put,sA,sB,sC]
 refine zAE hC hH (i:=13) (f:=17) (v:=?_) Sg kr kr kr kr kr kr Iq (by rfl) ?_ (fun hC=>?_)
 rotate_left
 ·intro w' hSw;go_simp;(try with_reducible rfl)
 try simp only [Act.put,sA,sB,sC]
 refine zAL hC (i:=2) Sg kr (fun K hK=>?_)
 go_simp
 (go_at_call 67;refine (HAd.out _ Ext.ua).mono ?_;rintro e w1 ⟨n1,A1,e1,rfl,hn1,hx⟩;have hxN:Ext W1 w1:=Ext.trans Ext.ua hx;have hxA:=hxN;clear hxN;have HN1:=zH hn1;clear hn1;clear hx)
 try go_wp2_with fail
 have hHeldN:=HKeepT.out w1 Ext.ua
 refine hK.out _ _ (fun _=>hHeldN) (fun hC=>?_)
 clear hK K hH
 have hH:=hHeldN
 clear hHeldN
 try simp only [Act.put,sA,sB,sC]
 refine zAE hC hH (i:=3) (f:=17) (v:=?_) Sg kr kr kr kr kr kr Iq (by rfl) ?_ (fun hC=>?_)
 rotate_left
 ·intro w' hSw;go_simp;(try with_reducible rfl)
 try simp only [Act.put,sA,sB,sC]
 refine zAE hC hH (i:=4) (f:=17) (v:=?_) Sg kr kr kr kr kr kr Iq (by rfl) ?_ (fun hC=>?_)
 rotate_left
 ·intro w' hSw;go_simp;(try with_reducible rfl)
 try simp only [Act.put,sA,sB,sC]
 refine zAL hC (i:=5) Sg kr (fun K hK=>?_)
 go_simp
 (go_at_call 249;refine (zBD n1 A1 e1 q qc _ (HN1.out.ext Ext.ub)).mono ?_;rintro e w2 ⟨rfl,hn2,hx⟩;have hxN:Ext W1 w2:=Ext.trans Ext.ua hx;(try clear hxA);have hxA:=hxN;clear hxN;have HN2:=zH hn2;clear hn2;(first|(have hh:=zH (HN1.out.ext (Ext.trans Ext.ub hx));clear HN1;have HN1:=hh;clear hh));clear hx)
 try go_wp2_with fail
 have hHeldN:=HKeepT.out w2 Ext.ua
 refine hK.out _ _ (fun _=>hHeldN) (fun hC=>?_)
 clear hK K hH
 have hH:=hHeldN
 clear hHeldN
 try simp only [Act.put,sA,sB,sC]
 refine zAL hC (i:=14) Sg kr (fun K hK=>?_)
 go_simp
 (go_at_call 23;refine (HCm.out _ _ _ _ _ (HN2.out.ext Ext.ub) Ext.ua).mono ?_;rintro e w3 ⟨rfl,hx⟩;have hxN:Ext W1 w3:=Ext.trans Ext.ua hx;(try clear hxA);have hxA:=hxN;clear hxN;(first|(have hh:=zH (HN1.out.ext (Ext.trans Ext.ub hx));clear HN1;have HN1:=hh;clear hh));(first|(have hh:=zH (HN2.out.ext (Ext.trans Ext.ub hx));clear HN2;have HN2:=hh;clear hh));clear hx)
 try go_wp2_with fail
 have hHeldN:=HKeepT.out w3 Ext.ua
 refine hK.out _ _ (fun _=>hHeldN) (fun hC=>?_)
 clear hK K hH
 have hH:=hHeldN
 clear hHeldN
 try simp only [Act.put,sA,sB,sC]
 refine zAE hC hH (i:=15) (f:=17) (v:=?_) Sg kr kr kr kr kr kr Iq (by rfl) ?_ (fun hC=>?_)
 rotate_left
 ·intro w' hSw;go_simp;(try with_reducible rfl)
 try simp only [Act.put,sA,sB,sC]
 refine zAL hC (i:=16) Sg kr (fun K hK=>?_)
 go_simp
 refine hK.out _ _ (fun h=>by cases h) (fun hC=>?_)
 clear hK K
 try simp only [Act.put,sA,sB,sC]
 refine zCH kr ?_ _
 clear hC hH HKeepT
 go_wp2
 exact bodyPost_ret (v:=.bool (decide (0 < cmpZ q d))) (by simp [results,Tryz.results251,go_sem]) rfl ⟨by rw [HW.out],HX.out.trans hxA⟩
def put (ct:Nat→Nat→Int) (s j:Nat) (z:Int):Nat→Nat→Int:=fun s' j'=>if s'=s∧j'=j then z else ct s' j'
def entU (n:Nat) (ct:Nat→Nat→Int) (k j:Nat):Nat→Int
 | 0=>ct k j
 | i+1=>exactZ (fitZ (fitZ (ct (2*n) (i+1)*entU n ct k j i) - fitZ (ct (2*n+1+k) i*ct (2*n+1+j) i))) (ct (2*n) i)
def colP (n:Nat) (ct:Nat→Nat→Int) (k:Nat):Nat→Nat→Nat→Int
 | 0=>fun s j=>if s=2*n+1+k then 0 else ct s j
 | j+1=>if j < k then put (colP n ct k j) (2*n+1+k) j (entU n (colP n ct k j) k j j) else put (colP n ct k j) (2*n) (k+1) (entU n (colP n ct k j) k j j)
def rowP (n:Nat) (ct:Nat→Nat→Int) (k:Nat):Nat→Nat→Int:=colP n ct k (k+1)
def partsP (n:Nat) (ct:Nat→Nat→Int) (fr:Nat):Nat→Nat→Nat→Int
 | 0=>put ct (2*n) 0 1
 | m+1=>rowP n (partsP n ct fr m) (fr+m)
def blN (bl:Nat→Nat) (s b:Nat):Nat→Nat:=fun s'=>if s'=s then b else bl s'
theorem IsLat.newL {w W1:World} {lo p n f gA gU gL cA cU:Nat} {bl:Nat→Nat} {ct:Nat→Nat→Int} (h:IsLat w lo p n f gA gU gL cA cU bl ct) (hx:Ext w W1) {k hr:Nat} (hk:k < n) (hkf:k≤f) (hhr:w.heap.size≤hr) (hlo:lo≤w.heap.size)
  (hM:MRow W1 hr k (fun _=>0)):IsLat (W1.setCell ⟨gL,k,none⟩ (.slice (some ⟨hr,0,none⟩) k k)) lo p n (max f (k+1)) gA gU gL cA cU (blN bl (2*n+1+k) hr) (fun s j=>if s=2*n+1+k then 0 else ct s j):=by
 have h1:=h.ext hx
 have hpL:p≠gL:=h.box.typ.ne h.tL (by decide)
 have hT:∀ s,latT n (max f (k+1)) s→s≠2*n+1+k→latT n f s:=by
  intro s hs hne
  rcases hs with hs|⟨hs1,hs2⟩
  ·exact Or.inl hs
  ·refine Or.inr ⟨hs1,?_⟩
   omega
 have hlt:∀ s,latT n f s→bl s < w.heap.size:=fun s hs=>(h.rows.row s hs).lt
 have hD:blN bl (2*n+1+k) hr (2*n)=bl (2*n):=by unfold blN;rw [if_neg om]
 have hA:∀ i,i < n→blN bl (2*n+1+k) hr i=bl i:=fun i hi=>by unfold blN;rw [if_neg om]
 have hU:∀ i,i < n→blN bl (2*n+1+k) hr (n+i)=bl (n+i):=fun i hi=>by unfold blN;rw [if_neg om]
 have ck:∃ a k' c,W1.cell? ⟨gL,k,none⟩=some (.slice a k' c):=by
  by_cases e:k < f
  ·exact ⟨_,_,_,h1.cellL k e⟩
  ·exact h1.restL k om hk
 refine ⟨?_,⟨fun s hs=>?_,fun s t hs ht e=>?_,fun s hs=>?_⟩,h1.tA.set_ _ _,h1.tU.set_ _ _,h1.tL.set_ _ _,h.neAU,h.neAL,h.neUL,fun i hi=>?_,fun i hi=>?_,fun i hi=>?_,fun i h3 h4=>?_,fun i=>?_,fun i=>?_,fun i=>?_,h.lowp,h.lowA,h.lowU,h.lowL⟩
 ·rw [hD];exact h1.box.far hpL _ _
 ·by_cases e:s=2*n+1+k
  ·subst e
   rw [show blN bl (2*n+1+k) hr (2*n+1+k)=hr by unfold blN;rw [if_pos rfl]]
   simp only [if_pos rfl,zA4]
   exact hM.typed (heap_setCell_other W1 ⟨gL,k,none⟩ _ _ (hM.typ.ne h1.tL (by decide))) fun b hb=>heap_setCell_other W1 ⟨gL,k,none⟩ b _ (hb.ne h1.tL (by decide))
  ·rw [show blN bl (2*n+1+k) hr s=bl s by unfold blN;rw [if_neg e]]
   simp only [if_neg e]
   exact ((h1.rows.setB h1.tL (by decide) (by decide)).row s (hT s hs e))
 ·by_cases e1:s=2*n+1+k <;> by_cases e2:t=2*n+1+k
  ·rw [e1,e2]
  ·unfold blN at e;rw [if_pos e1,if_neg e2] at e;have:=hlt t (hT t ht e2);omega
  ·unfold blN at e;rw [if_neg e1,if_pos e2] at e;have:=hlt s (hT s hs e1);omega
  ·unfold blN at e;rw [if_neg e1,if_neg e2] at e;exact h.rows.inj s t (hT s hs e1) (hT t ht e2) e
 ·unfold blN
  by_cases e:s=2*n+1+k
  ·rw [if_pos e];omega
  ·rw [if_neg e];exact h.rows.low s (hT s hs e)
 ·rw [zAJ h.neAL,hA i hi];exact h1.cellA i hi
 ·rw [zAJ h.neUL,hU i hi];exact h1.cellU i hi
 ·by_cases e:i=k
  ·subst e
   obtain ⟨a,k',c,hc⟩:=ck
   refine (setc hc).trans ?_
   unfold blN;rw [if_pos rfl]
  ·rw [zAU e]
   unfold blN;rw [if_neg om]
   exact h1.cellL i om
 ·rw [zAU (show i≠k by omega)]
  exact h1.restL i om h4
 ·rw [World.frozen?_setCell];exact h1.freeA i
 ·rw [World.frozen?_setCell];exact h1.freeU i
 ·rw [World.frozen?_setCell];exact h1.freeL i
theorem IsLat.butZ {w w':World} {lo p n f gA gU gL cA cU g:Nat} {bl:Nat→Nat} {ct:Nat→Nat→Int} (h:IsLat w lo p n f gA gU gL cA cU bl ct) (hx:ExtBut (fun x=>x=g) w w') (hg:TB w 49 g) (hne:∀ s,latT n f s→bl s≠g):IsLat w' lo p n f gA gU gL cA cU bl ct:=by
 have hp:p≠g:=h.box.typ.ne hg (by decide)
 have hA:gA≠g:=h.tA.ne hg (by decide)
 have hU:gU≠g:=h.tU.ne hg (by decide)
 have hL:gL≠g:=h.tL.ne hg (by decide)
 exact ⟨(hx.block p h.box.lt hp).trans h.box,⟨fun s hs=>(h.rows.row s hs).but hx (hne s hs) hg,h.rows.inj,h.rows.low⟩,h.tA.of_eq (hx.block _ h.tA.lt hA),h.tU.of_eq (hx.block _ h.tU.lt hU),h.tL.of_eq (hx.block _ h.tL.lt hL),h.neAU,h.neAL,h.neUL,
 fun i hi=>hx.cell (h.cellA i hi) hA,fun i hi=>hx.cell (h.cellU i hi) hU,fun i hi=>hx.cell (h.cellL i hi) hL,fun i h1 h2=>by obtain ⟨a,k,c,e⟩:=h.restL i h1 h2;exact ⟨a,k,c,hx.cell e hL⟩,
 fun i=>hx.free (h.freeA i) h.tA.lt hA,fun i=>hx.free (h.freeU i) h.tU.lt hU,fun i=>hx.free (h.freeL i) h.tL.lt hL,h.lowp,h.lowA,h.lowU,h.lowL⟩
theorem zCd (w:World) (g o:Nat) (neg:Bool) (A:Option Addr) (k:Nat):ExtBut (fun x=>x=g) w (setInt w g o neg A k):=by
 unfold setInt;exact ((ExtBut.refl (fun x=>x=g) w).setCell (p:=⟨g,o,none⟩) (Or.inl rfl) _).setCell (p:=⟨g,o+1,none⟩) (Or.inl rfl) _
theorem IntB.setI {w:World} {b:Nat} {u:Int} (h:IntB w b u) {neg:Bool} {A:Option Addr} {k:Nat} {z:Int} (hz:IsInt w neg A k z):IntB (setInt w b 0 neg A k) b z:=by
 obtain ⟨n',A',k',h1,h2⟩:=h.box
 exact IntB.put h1 hz
theorem IntB.farI {w:World} {b g o:Nat} {u:Int} (h:IntB w b u) (hg:TB w 49 g) (hne:b≠g) {neg:Bool} {A:Option Addr} {k:Nat}:IntB (setInt w g o neg A k) b u:=by
 obtain ⟨n',A',k',h1,h2⟩:=h.box
 exact ⟨n',A',k',(h1.far hne _ _).far hne _ _,(h2.setB hg (by decide) _ _).setB (hg.set_ _ _) (by decide) _ _⟩
theorem IsLat.setZ {w:World} {lo p n f gA gU gL cA cU:Nat} {bl:Nat→Nat} {ct:Nat→Nat→Int} (h:IsLat w lo p n f gA gU gL cA cU bl ct) {s j:Nat} (hs:latT n f s) (hj:j < latLn n s) {neg:Bool} {A:Option Addr} {k:Nat} {z:Int} (hz:IsInt w neg A k z) :
  IsLat (setInt w (bl s) (j*2) neg A k) lo p n f gA gU gL cA cU bl (put ct s j z):=h.set_ hs hj hz
def fallsB (l d0 d1 d2:Int):Bool:=decide (cmpZ (fitZ (4*fitZ (fitZ (d2*d0)+fitZ (l*l)))) (fitZ (3*fitZ (d1*d1))) < 0)
set_option maxHeartbeats 4000000 in
theorem falls_any (lo p n f gA gU gL cA cU:Nat) (bl:Nat→Nat) (ct:Nat→Nat→Int) (k:Nat) (w:World) (h:IsLat w lo p n f gA gU gL cA cU bl ct) (hn:n≤100) (hf:f≤n) (hk:k < f) (hk1:1≤k) :
  Calls Tryz.prog 244 #[.pointer (some ⟨p,0,none⟩),.int .i64 k] w fun e w'=>e = .returned (.bool (fallsB (ct (2*n+1+k) (k - 1)) (ct (2*n) (k - 1)) (ct (2*n) k) (ct (2*n) (k+1))))∧Ext w w':=by
 have c2:w.cell? ⟨p,2,none⟩=some (.slice (some ⟨bl (2*n),0,none⟩) (n+1) (n+1)):=h.box.cell 2 rfl
 have c3:w.cell? ⟨p,3,none⟩=some (.slice (some ⟨gL,0,none⟩) n n):=h.box.cell 3 rfl
 have hkn:k < n:=by omega
 have cL:=h.cellL k hk
 obtain ⟨nz,Az,kz,cz1,cz2,iz⟩:=(h.rows.row (2*n+1+k) (Or.inr ⟨by omega,by omega⟩)).cells (k - 1) (by rw [zA4];omega)
 have hD:=h.rows.row (2*n) (Or.inl om)
 obtain ⟨n0,A0,k0,cd0,ce0,i0⟩:=hD.cells (k - 1) (by rw [zAu];omega)
 obtain ⟨n1',A1',k1',cd1,ce1,i1⟩:=hD.cells k (by rw [zAu];omega)
 obtain ⟨n2',A2',k2',cd2,ce2,i2⟩:=hD.cells (k+1) (by rw [zAu];omega)
 obtain ⟨l,hl⟩:∃ l,ct (2*n+1+k) (k - 1)=l:=⟨_,rfl⟩
 obtain ⟨d0,hd0⟩:∃ d,ct (2*n) (k - 1)=d:=⟨_,rfl⟩
 obtain ⟨d1,hd1⟩:∃ d,ct (2*n) k=d:=⟨_,rfl⟩
 obtain ⟨d2,hd2⟩:∃ d,ct (2*n) (k+1)=d:=⟨_,rfl⟩
 obtain ⟨bz,hbz⟩:∃ bz,bl (2*n+1+k)=bz:=⟨_,rfl⟩
 obtain ⟨bd,hbd⟩:∃ bd,bl (2*n)=bd:=⟨_,rfl⟩
 rw [hl] at iz ⊢
 rw [hd0] at i0 ⊢
 rw [hd1] at i1 ⊢
 rw [hd2] at i2 ⊢
 rw [hbz] at cL cz1 cz2
 rw [hbd] at c2 cd0 ce0 cd1 ce1 cd2 ce2
 have HZ:=zH iz
 have HD0:=zH i0
 have HD1:=zH i1
 have HD2:=zH i2
 have HX:Hid (Ext w w):=Ext.refl _
 have l2:=zAA c2
 have l3:=zAA cL
 have l4:=zAA cz1
 have l5:=zAA cd1
 simp only at l2 l3 l4 l5
 clear h hD hl hd0 hd1 hd2 hbz hbd iz i0 i1 i2
 have hk0:k - 1 < k:=by omega
 have hk2:k - 1 < n+1:=by omega
 have hk3:k < n+1:=by omega
 have h0:(0:Int)≤(k:Int)+1:=by omega
 have h1:(k:Int)+1 < ((n+1:Nat):Int):=by omega
 have h2:((k:Int)+1).toNat=k+1:=by omega
 have h3:(0:Int)≤(k:Int) - 1:=by omega
 have h4:(k:Int) - 1 < ((n+1:Nat):Int):=by omega
 have h6:(k:Int) - 1 < (k:Int):=by omega
 have h5:((k:Int) - 1).toNat=k - 1:=by omega
 have h7:(1:Int)≤(k:Int):=by omega
 have h8:(k:Int) - 1 < (n:Int)+1:=by omega
 have h9:(k:Int) < (n:Int)+1+1:=by omega
 have h10:(k:Int) < (n:Int)+1:=by omega
 have h11:(k:Int)≤(n:Int)+1:=by omega
 have h12:(k:Int) - 1≤(n:Int):=by omega
 have hw1:IntKind.i64.wrap ((k:Int)+1)=(k:Int)+1:=IntWalk.i64_in _ om
 have hw2:IntKind.i64.wrap ((k:Int) - 1)=(k:Int) - 1:=IntWalk.i64_in _ om
 go_enter Tryz.func244,Tryz.ntmps244
 go_upto_region 2 with (fail)
 obtain ⟨W1,hW1⟩:∃ W1,w.alloc (.cells #[.bool nz,.slice Az kz kz] 49)=W1:=⟨_,rfl⟩
 have HX1:Hid (Ext w W1):=by rw [← hW1];exact (Ext.refl w).alloc _
 have HB5:=Blk.new w 49 #[.bool nz,.slice Az kz kz]
 rw [hW1] at HB5 ⊢
 obtain ⟨c5a,f5a,c5b,f5b⟩:=HB5.two
 have l5':=HB5.lt
 clear hW1 HB5 c3 cL cz1 cz2
 replace c2:=HX1.out.cell c2
 replace cd0:=HX1.out.cell cd0
 replace ce0:=HX1.out.cell ce0
 replace cd1:=HX1.out.cell cd1
 replace ce1:=HX1.out.cell ce1
 replace cd2:=HX1.out.cell cd2
 replace ce2:=HX1.out.cell ce2
 replace HZ:=zH (HZ.out.ext HX1.out)
 replace HD0:=zH (HD0.out.ext HX1.out)
 replace HD1:=zH (HD1.out.ext HX1.out)
 replace HD2:=zH (HD2.out.ext HX1.out)
 replace HX:=zH (HX.out.trans HX1.out)
 have hszW1:=HX1.out.size
 have HM1:=zH (fun W (hx:Ext W1 W)=>zAV n2' n0 A2' A0 k2' k0 d2 d0 W (HD2.out.ext hx) (HD0.out.ext hx))
 have HM2:=zH (fun W (hx:Ext W1 W)=>zAV nz nz Az Az kz kz l l W (HZ.out.ext hx) (HZ.out.ext hx))
 have HF:Hid (fallsB l d0 d1 d2=decide (cmpZ (fitZ (4*fitZ (fitZ (d2*d0)+fitZ (l*l)))) (fitZ (3*fitZ (d1*d1))) < 0)):=rfl
 obtain ⟨m1,hm1⟩:∃ m,fitZ (d2*d0)=m:=⟨_,rfl⟩
 obtain ⟨m2,hm2⟩:∃ m,fitZ (l*l)=m:=⟨_,rfl⟩
 obtain ⟨m3,hm3⟩:∃ m,fitZ (d1*d1)=m:=⟨_,rfl⟩
 obtain ⟨s,hs⟩:∃ s,fitZ (m1+m2)=s:=⟨_,rfl⟩
 rw [hm1] at HM1
 rw [hm2] at HM2
 rw [hm1,hm2,hm3,hs] at HF
 have HAd:=zH (fun W na A k nb B m (ha:IsInt W na A k m1) (hb:IsInt W nb B m m2)=>zBR na nb A B k m m1 m2 W ha hb)
 rw [hs] at HAd
 have HMs:=zH (fun W na A k c (ha:IsInt W na A k s)=>zBD na A k s c W ha)
 have HM3:=zH (fun W na nb A B k m (ha:IsInt W na A k d1) (hb:IsInt W nb B m d1)=>zAV na nb A B k m d1 d1 W ha hb)
 rw [hm3] at HM3
 clear hm1 hm2 hm3 hs
 go_cut [6] (fun s6 wx=>∃ b6,s6 = .pointer (some ⟨b6,0,none⟩)∧W1.heap.size≤b6∧Hid (IntB wx b6 s)∧Hid (Ext W1 wx))
 case first =>
  have HKeep:=zH (fun (w':World) (hx:Ext W1 w')=>(show w'.cell? ⟨p,2,none⟩=some (.slice (some ⟨bd,0,none⟩) (n+1) (n+1))∧w'.cell? ⟨bd,(k - 1)*2,none⟩=some (.bool n0)∧w'.cell? ⟨bd,(k - 1)*2+1,none⟩=some (.slice A0 k0 k0)∧w'.cell? ⟨bd,(k+1)*2,none⟩=some (.bool n2')∧w'.cell? ⟨bd,(k+1)*2+1,none⟩=some (.slice A2' k2' k2')∧w'.cell? ⟨w.heap.size,0,none⟩=some (.bool nz)∧w'.cell? ⟨w.heap.size,1,none⟩=some (.slice Az kz kz) from ⟨hx.cell c2,hx.cell cd0,hx.cell ce0,hx.cell cd2,hx.cell ce2,hx.cell c5a,hx.cell c5b⟩))
  go_region_held3 (fun w'=>w'.cell? ⟨p,2,none⟩=some (.slice (some ⟨bd,0,none⟩) (n+1) (n+1))∧w'.cell? ⟨bd,(k - 1)*2,none⟩=some (.bool n0)∧w'.cell? ⟨bd,(k - 1)*2+1,none⟩=some (.slice A0 k0 k0)∧w'.cell? ⟨bd,(k+1)*2,none⟩=some (.bool n2')∧w'.cell? ⟨bd,(k+1)*2+1,none⟩=some (.slice A2' k2' k2')∧w'.cell? ⟨w.heap.size,0,none⟩=some (.bool nz)∧w'.cell? ⟨w.heap.size,1,none⟩=some (.slice Az kz kz)) (exact HKeep.out _ Ext.ua)
   (first
    | (go_at_call 248;with_reducible refine Calls.mono (HM1.out _ ?_) ?_;exact Ext.ua;rintro e w1 ⟨n1,A1,e1,rfl,hn1,hx⟩;(first|(have k1:=blk1 hx)|(have k1:=True.intro));have hxA:Ext W1 w1:=Ext.trans Ext.ua hx;have HN1:=zH hn1;clear hn1;have hs1:=hxA.size;have hz1:=hx.size;(try simp only [World.size_alloc,World.size_drew,World.size_setCell] at hz1);  clear hx)
    | (go_at_call 248;with_reducible refine Calls.mono (HM2.out _ ?_) ?_;exact Ext.ua;rintro e w2 ⟨n2,A2,e2,rfl,hn2,hx⟩;(first|(have k2:=blk1n hx)|(have k2:=True.intro));(first|(have kk:=carry1 k1 (Ext.trans Ext.ud hx);clear k1;have k1:=kk;clear kk)|skip);have hxN:Ext W1 w2:=Ext.trans Ext.ua hx;clear hxA;have hxA:=hxN;clear hxN;have HN2:=zH hn2;clear hn2;(first|(have hh:=zH (HN1.out.ext (Ext.trans Ext.ub hx));clear HN1;have HN1:=hh;clear hh));have hs2:=hxA.size;have hz2:=hx.size;(try simp only [World.size_alloc,World.size_drew,World.size_setCell] at hz2);  clear hx)
    | (go_at_call 67;refine (HAd.out _ _ _ _ _ _ _ (HN1.out.ext Ext.ub) (HN2.out.ext Ext.ub)).mono ?_;rintro e w3 ⟨n3,A3,e3,rfl,hn3,hx⟩;(first|(have k3:=blk1n hx)|(have k3:=True.intro));(first|(have kk:=carry1 k1 (Ext.trans Ext.ud hx);clear k1;have k1:=kk;clear kk)|skip);(first|(have kk:=carry1 k2 (Ext.trans Ext.ud hx);clear k2;have k2:=kk;clear kk)|skip);have hxN:Ext W1 w3:=Ext.trans Ext.ua hx;clear hxA;have hxA:=hxN;clear hxN;have HN3:=zH hn3;clear hn3;(first|(have hh:=zH (HN1.out.ext (Ext.trans Ext.ub hx));clear HN1;have HN1:=hh;clear hh));(first|(have hh:=zH (HN2.out.ext (Ext.trans Ext.ub hx));clear HN2;have HN2:=hh;clear hh));have hs3:=hxA.size;have hz3:=hx.size;(try simp only [World.size_alloc,World.size_drew,World.size_setCell] at hz3);  clear hx)
    | (go_at_call 249;refine (HMs.out _ _ _ _ _ (HN3.out.ext Ext.ub)).mono ?_;rintro e w4 ⟨rfl,hn4,hx⟩;(first|(have k4:=blk1n hx)|(have k4:=True.intro));(first|(have kk:=carry1 k1 (Ext.trans Ext.ud hx);clear k1;have k1:=kk;clear kk)|skip);(first|(have kk:=carry1 k2 (Ext.trans Ext.ud hx);clear k2;have k2:=kk;clear kk)|skip);(first|(have kk:=carry1 k3 (Ext.trans Ext.ud hx);clear k3;have k3:=kk;clear kk)|skip);have hxN:Ext W1 w4:=Ext.trans Ext.ua hx;clear hxA;have hxA:=hxN;clear hxN;have HN4:=zH hn4;clear hn4;(first|(have hh:=zH (HN1.out.ext (Ext.trans Ext.ub hx));clear HN1;have HN1:=hh;clear hh));(first|(have hh:=zH (HN2.out.ext (Ext.trans Ext.ub hx));clear HN2;have HN2:=hh;clear hh));(first|(have hh:=zH (HN3.out.ext (Ext.trans Ext.ub hx));clear HN3;have HN3:=hh;clear hh));have hs4:=hxA.size;have hz4:=hx.size;(try simp only [World.size_alloc,World.size_drew,World.size_setCell] at hz4);(first|(have zl1:=Blk.lt k1)|skip);(first|(have zz:=Blk.two k1;obtain ⟨zc1,zf1,zd1,zg1⟩:=zz)|skip);(first|(have zl2:=Blk.lt k2)|skip);(first|(have zz:=Blk.two k2;obtain ⟨zc2,zf2,zd2,zg2⟩:=zz)|skip);(first|(have zl3:=Blk.lt k3)|skip);(first|(have zz:=Blk.two k3;obtain ⟨zc3,zf3,zd3,zg3⟩:=zz)|skip);(first|(have zl4:=Blk.lt k4)|skip);(first|(have zz:=Blk.two k4;obtain ⟨zc4,zf4,zd4,zg4⟩:=zz)|skip);  clear hx))
  all_goals
   clear hw1 hw2
   go_wp2
   refine Met.intro ?_
   go_step
   (repeat apply Exists.intro)
   refine And.symm ⟨?_,?_⟩
   ·first|with_reducible rfl
   first
   | exact ⟨_,rfl,(by first|exact Nat.le_refl _|assumption),zH (IntB.mk2 (by (with_reducible repeat (first  | (refine Blk.at ?_;· (first|rfl))|(refine Blk.put2 ?_;· (repeat (first|exact BlkN.of k1 rfl|exact BlkN.of k2 rfl|exact BlkN.of k3 rfl|exact BlkN.of k4 rfl)))))) (by (with_reducible repeat (first|exact HN4.out|refine IsInt.al ?_|(refine IsInt.setN ?_ ?_;· (repeat (first|exact NB.of k1 (by decide)|exact NB.of k2 (by decide)|exact NB.of k3 (by decide)|exact NB.of k4 (by decide)|refine NB.set ?_))))))),zH Ext.ua⟩
 obtain ⟨b6,rfl,hb6,HB6,HX1⟩:=hcut
 obtain ⟨W1,hWn⟩:∃ W1,wc=W1:=⟨_,rfl⟩
 rw [hWn] at HB6 HX1 ⊢
 clear hWn wc
 replace c2:=HX1.out.cell c2
 replace cd0:=HX1.out.cell cd0
 replace ce0:=HX1.out.cell ce0
 replace cd1:=HX1.out.cell cd1
 replace ce1:=HX1.out.cell ce1
 replace cd2:=HX1.out.cell cd2
 replace ce2:=HX1.out.cell ce2
 replace f5a:=HX1.out.free f5a (zAA c5a)
 replace c5a:=HX1.out.cell c5a
 replace f5b:=HX1.out.free f5b (zAA c5b)
 replace c5b:=HX1.out.cell c5b
 replace HZ:=zH (HZ.out.ext HX1.out)
 replace HD0:=zH (HD0.out.ext HX1.out)
 replace HD1:=zH (HD1.out.ext HX1.out)
 replace HD2:=zH (HD2.out.ext HX1.out)
 replace HX:=zH (HX.out.trans HX1.out)
 have hszW1:=HX1.out.size
 obtain ⟨n6,A6,k6,q6,hn6⟩:=HB6.out.box
 obtain ⟨c6a,f6a,c6b,f6b⟩:=q6.two
 have hl6:=q6.lt
 have HN6:=zH hn6
 clear hn6 q6 HB6
 clear HM1 HM2 HAd HMs
 obtain ⟨q4,hq4⟩:∃ q,fitZ (4*s)=q:=⟨_,rfl⟩
 obtain ⟨q3,hq3⟩:∃ q,fitZ (3*m3)=q:=⟨_,rfl⟩
 rw [hq4,hq3] at HF
 have HO4:=zH (fun W=>zBi 4 W om om)
 have HO3:=zH (fun W=>zBi 3 W om om)
 have HM4:=zH (fun W na nb A B k m (ha:IsInt W na A k 4) (hb:IsInt W nb B m s)=>zAV na nb A B k m 4 s W ha hb)
 have HM5:=zH (fun W na nb A B k m (ha:IsInt W na A k 3) (hb:IsInt W nb B m m3)=>zAV na nb A B k m 3 m3 W ha hb)
 have HCm:=zH (fun W na nb A B k m (ha:IsInt W na A k q4) (hb:IsInt W nb B m q3)=>zCmp_any na nb A B k m q4 q3 W ha hb)
 rw [hq4] at HM4
 rw [hq3] at HM5
 clear hq4 hq3
 go_upto_region 3 with (fail)
 have HKeepT:=zH (fun (w':World) (hx:Ext W1 w')=>(show w'.cell? ⟨p,2,none⟩=some (.slice (some ⟨bd,0,none⟩) (n+1) (n+1))∧w'.cell? ⟨bd,k*2,none⟩=some (.bool n1')∧w'.cell? ⟨bd,k*2+1,none⟩=some (.slice A1' k1' k1')∧w'.cell? ⟨b6,0,none⟩=some (.bool n6)∧w'.cell? ⟨b6,1,none⟩=some (.slice A6 k6 k6) from ⟨hx.cell c2,hx.cell cd1,hx.cell ce1,hx.cell c6a,hx.cell c6b⟩))
 refine zCI (fun w'=>w'.cell? ⟨p,2,none⟩=some (.slice (some ⟨bd,0,none⟩) (n+1) (n+1))∧w'.cell? ⟨bd,k*2,none⟩=some (.bool n1')∧w'.cell? ⟨bd,k*2+1,none⟩=some (.slice A1' k1' k1')∧w'.cell? ⟨b6,0,none⟩=some (.bool n6)∧w'.cell? ⟨b6,1,none⟩=some (.slice A6 k6 k6)) 22 [] 23 #[false,false,false,false,false,false,false,false,false,false,false,false,false,false,false,false,false,false,false,false,false,false,false] kr kr kr ?_ (fun hH hC=>?_)
 ·exact HKeepT.out _ Ext.ua
 refine zAE hC hH (i:=1) (f:=23) (v:=?_) Sg kr kr kr kr kr kr Iq (by rfl) ?_ (fun hC=>?_)
 rotate_left
 ·intro w' hSw;go_simp;(try with_reducible rfl)
 try simp only [Act.put,sA,sB,sC]
 refine zAE hC hH (i:=4) (f:=23) (v:=?_) Sg kr kr kr kr kr kr Iq (by rfl) ?_ (fun hC=>?_)
 rotate_left
 ·intro w' hSw;go_simp;(try with_reducible rfl)
 try simp only [Act.put,sA,sB,sC]
 refine zAE hC hH (i:=5) (f:=23) (v:=?_) Sg kr kr kr kr kr kr Iq (by rfl) ?_ (fun hC=>?_)
 rotate_left
 ·intro w' hSw;go_simp;(try with_reducible rfl)
 try simp only [Act.put,sA,sB,sC]
 refine zAE hC hH (i:=6) (f:=23) (v:=?_) Sg kr kr kr kr kr kr Iq (by rfl) ?_ (fun hC=>?_)
 rotate_left
 ·intro w' hSw;go_simp;(try with_reducible rfl)
 try simp only [Act.put,sA,sB,sC]
 refine zAE hC hH (i:=7) (f:=23) (v:=?_) Sg kr kr kr kr kr kr Iq (by rfl) ?_ (fun hC=>?_)
 rotate_left
 ·intro w' hSw;go_simp;(try with_reducible rfl)
 try simp only [Act.put,sA,sB,sC]
 refine zAE hC hH (i:=8) (f:=23) (v:=?_) Sg kr kr kr kr kr kr Iq (by rfl) ?_ (fun hC=>?_)
 rotate_left
 ·intro w' hSw;go_simp;(try with_reducible rfl)
 try simp only [Act.put,sA,sB,sC]
 refine zAE hC hH (i:=9) (f:=23) (v:=?_) Sg kr kr kr kr kr kr Iq (by rfl) ?_ (fun hC=>?_)
 rotate_left
 ·intro w' hSw;go_simp;(try with_reducible rfl)
 try simp only [Act.put,sA,sB,sC]
 refine zAE hC hH (i:=10) (f:=23) (v:=?_) Sg kr kr kr kr kr kr Iq (by rfl) ?_ (fun hC=>?_)
 rotate_left
 ·intro w' hSw;go_simp;(try with_reducible rfl)
 try simp only [Act.put,sA,sB,sC]
 refine zAE hC hH (i:=11) (f:=23) (v:=?_) Sg kr kr kr kr kr kr Iq (by rfl) ?_ (fun hC=>?_)
 rotate_left
 ·intro w' hSw;go_simp;(try with_reducible rfl)
 try simp only [Act.put,sA,sB,sC]
 refine zAE hC hH (i:=12) (f:=23) (v:=?_) Sg kr kr kr kr kr kr Iq (by rfl) ?_ (fun hC=>?_)
 rotate_left
 ·intro w' hSw;go_simp;(try with_reducible rfl)
 try simp only [Act.put,sA,sB,sC]
 refine zAE hC hH (i:=13) (f:=23) (v:=?_) Sg kr kr kr kr kr kr Iq (by rfl) ?_ (fun hC=>?_)
 rotate_left
 ·intro w' hSw;go_simp;(try with_reducible rfl)
 try simp only [Act.put,sA,sB,sC]
 refine zAE hC hH (i:=14) (f:=23) (v:=?_) Sg kr kr kr kr kr kr Iq (by rfl) ?_ (fun hC=>?_)
 rotate_left
 ·intro w' hSw;go_simp;(try with_reducible rfl)
 try simp only [Act.put,sA,sB,sC]
 refine zAE hC hH (i:=15) (f:=23) (v:=?_) Sg kr kr kr kr kr kr Iq (by rfl) ?_ (fun hC=>?_)
 rotate_left
 ·intro w' hSw;go_simp;(try with_reducible rfl)
 try simp only [Act.put,sA,sB,sC]
 refine zAE hC hH (i:=16) (f:=23) (v:=?_) Sg kr kr kr kr kr kr Iq (by rfl) ?_ (fun hC=>?_)
 rotate_left
 ·intro w' hSw;go_simp;(try with_reducible rfl)
 try simp only [Act.put,sA,sB,sC]
 refine zAE hC hH (i:=17) (f:=23) (v:=?_) Sg kr kr kr kr kr kr Iq (by rfl) ?_ (fun hC=>?_)
 rotate_left
 ·intro w' hSw;go_simp;(try with_reducible rfl)
 try simp only [Act.put,sA,sB,sC]
 refine zAL hC (i:=0) Sg kr (fun K hK=>?_)
 go_simp
 (go_at_call 24;refine (HO4.out _).mono ?_;rintro e w1 ⟨e1,a1,rfl,hn1,hx⟩;have hxN:Ext W1 w1:=Ext.trans Ext.ua hx;have hxA:=hxN;clear hxN;have HN1:=zH hn1;clear hn1;clear hx)
 try go_wp2_with fail
 have hHeldN:=HKeepT.out w1 Ext.ua
 refine hK.out _ _ (fun _=>hHeldN) (fun hC=>?_)
 clear hK K hH
 have hH:=hHeldN
 clear hHeldN
 try simp only [Act.put,sA,sB,sC]
 refine zAL hC (i:=2) Sg kr (fun K hK=>?_)
 go_simp
 (go_at_call 248;refine (HM4.out _ _ _ _ _ _ _ (HN1.out.ext Ext.ub) (HN6.out.ext Ext.ua)).mono ?_;rintro e w2 ⟨n2,A2,e2,rfl,hn2,hx⟩;have hxN:Ext W1 w2:=Ext.trans Ext.ua hx;(try clear hxA);have hxA:=hxN;clear hxN;have HN2:=zH hn2;clear hn2;(first|(have hh:=zH (HN1.out.ext (Ext.trans Ext.ub hx));clear HN1;have HN1:=hh;clear hh));clear hx)
 try go_wp2_with fail
 have hHeldN:=HKeepT.out w2 Ext.ua
 refine hK.out _ _ (fun _=>hHeldN) (fun hC=>?_)
 clear hK K hH
 have hH:=hHeldN
 clear hHeldN
 try simp only [Act.put,sA,sB,sC]
 refine zAL hC (i:=3) Sg kr (fun K hK=>?_)
 go_simp
 (go_at_call 24;refine (HO3.out _).mono ?_;rintro e w3 ⟨e3,a3,rfl,hn3,hx⟩;have hxN:Ext W1 w3:=Ext.trans Ext.ua hx;(try clear hxA);have hxA:=hxN;clear hxN;have HN3:=zH hn3;clear hn3;(first|(have hh:=zH (HN1.out.ext (Ext.trans Ext.ub hx));clear HN1;have HN1:=hh;clear hh));(first|(have hh:=zH (HN2.out.ext (Ext.trans Ext.ub hx));clear HN2;have HN2:=hh;clear hh));clear hx)
 try go_wp2_with fail
 have hHeldN:=HKeepT.out w3 Ext.ua
 refine hK.out _ _ (fun _=>hHeldN) (fun hC=>?_)
 clear hK K hH
 have hH:=hHeldN
 clear hHeldN
 try simp only [Act.put,sA,sB,sC]
 refine zAL hC (i:=18) Sg kr (fun K hK=>?_)
 go_simp
 (go_at_call 248;refine (HM3.out _ _ _ _ _ _ _ (HD1.out.ext Ext.ua) (HD1.out.ext Ext.ua)).mono ?_;rintro e w4 ⟨n4,A4,e4,rfl,hn4,hx⟩;have hxN:Ext W1 w4:=Ext.trans Ext.ua hx;(try clear hxA);have hxA:=hxN;clear hxN;have HN4:=zH hn4;clear hn4;(first|(have hh:=zH (HN1.out.ext (Ext.trans Ext.ub hx));clear HN1;have HN1:=hh;clear hh));(first|(have hh:=zH (HN2.out.ext (Ext.trans Ext.ub hx));clear HN2;have HN2:=hh;clear hh));(first|(have hh:=zH (HN3.out.ext (Ext.trans Ext.ub hx));clear HN3;have HN3:=hh;clear hh));clear hx)
 try go_wp2_with fail
 have hHeldN:=HKeepT.out w4 Ext.ua
 refine hK.out _ _ (fun _=>hHeldN) (fun hC=>?_)
 clear hK K hH
 have hH:=hHeldN
 clear hHeldN
 try simp only [Act.put,sA,sB,sC]
 refine zAL hC (i:=19) Sg kr (fun K hK=>?_)
 go_simp
 (go_at_call 248;refine (HM5.out _ _ _ _ _ _ _ (HN3.out.ext Ext.ub) (HN4.out.ext Ext.ub)).mono ?_;rintro e w5 ⟨n5,A5,e5,rfl,hn5,hx⟩;have hxN:Ext W1 w5:=Ext.trans Ext.ua hx;(try clear hxA);have hxA:=hxN;clear hxN;have HN5:=zH hn5;clear hn5;(first|(have hh:=zH (HN1.out.ext (Ext.trans Ext.ub hx));clear HN1;have HN1:=hh;clear hh));(first|(have hh:=zH (HN2.out.ext (Ext.trans Ext.ub hx));clear HN2;have HN2:=hh;clear hh));(first|(have hh:=zH (HN3.out.ext (Ext.trans Ext.ub hx));clear HN3;have HN3:=hh;clear hh));(first|(have hh:=zH (HN4.out.ext (Ext.trans Ext.ub hx));clear HN4;have HN4:=hh;clear hh));clear hx)
 try go_wp2_with fail
 have hHeldN:=HKeepT.out w5 Ext.ua
 refine hK.out _ _ (fun _=>hHeldN) (fun hC=>?_)
 clear hK K hH
 have hH:=hHeldN
 clear hHeldN
 try simp only [Act.put,sA,sB,sC]
 refine zAL hC (i:=20) Sg kr (fun K hK=>?_)
 go_simp
 (go_at_call 23;refine (HCm.out _ _ _ _ _ _ _ (HN2.out.ext Ext.ub) (HN5.out.ext Ext.ub)).mono ?_;rintro e w6 ⟨rfl,hx⟩;have hxN:Ext W1 w6:=Ext.trans Ext.ua hx;(try clear hxA);have hxA:=hxN;clear hxN;(first|(have hh:=zH (HN1.out.ext (Ext.trans Ext.ub hx));clear HN1;have HN1:=hh;clear hh));(first|(have hh:=zH (HN2.out.ext (Ext.trans Ext.ub hx));clear HN2;have HN2:=hh;clear hh));(first|(have hh:=zH (HN3.out.ext (Ext.trans Ext.ub hx));clear HN3;have HN3:=hh;clear hh));(first|(have hh:=zH (HN4.out.ext (Ext.trans Ext.ub hx));clear HN4;have HN4:=hh;clear hh));(first|(have hh:=zH (HN5.out.ext (Ext.trans Ext.ub hx));clear HN5;have HN5:=hh;clear hh));clear hx)
 try go_wp2_with fail
 have hHeldN:=HKeepT.out w6 Ext.ua
 refine hK.out _ _ (fun _=>hHeldN) (fun hC=>?_)
 clear hK K hH
 have hH:=hHeldN
 clear hHeldN
 try simp only [Act.put,sA,sB,sC]
 refine zAE hC hH (i:=21) (f:=23) (v:=?_) Sg kr kr kr kr kr kr Iq (by rfl) ?_ (fun hC=>?_)
 rotate_left
 ·intro w' hSw;go_simp;(try with_reducible rfl)
 try simp only [Act.put,sA,sB,sC]
 refine zAL hC (i:=22) Sg kr (fun K hK=>?_)
 go_simp
 refine hK.out _ _ (fun h=>by cases h) (fun hC=>?_)
 clear hK K
 try simp only [Act.put,sA,sB,sC]
 refine zCH kr ?_ _
 clear hC hH HKeepT
 go_wp2
 exact bodyPost_ret (v:=.bool (decide (cmpZ q4 q3 < 0))) (by simp [results,Tryz.results244,go_sem]) rfl ⟨by rw [HF.out],HX.out.trans hxA⟩
end Go.Proofs.YtdkgilioejdmeaaGreat
namespace Go.Proofs.YtdkgilioejdmeaaGreat
def subMul (q a b:Int):Int:=fitZ (a - fitZ (q*b))
def shA (n i j:Nat) (q:Int) (ct:Nat→Nat→Int):Nat→Nat→Nat→Int
 | 0=>ct
 | m+1=>put (put (shA n i j q ct m) (n+i) m (subMul q (shA n i j q ct m (n+i) m) (shA n i j q ct m (n+j) m))) i m (subMul q (shA n i j q ct m i m) (shA n i j q ct m j m))
def shC (i j:Nat) (q:Int) (ct:Nat→Nat→Int):Nat→Nat→Nat→Int
 | 0=>ct
 | m+1=>put (shC i j q ct m) m i (subMul q (shC i j q ct m m i) (shC i j q ct m m j))
def shL (n i j:Nat) (q:Int) (ct:Nat→Nat→Int):Nat→Nat→Nat→Int
 | 0=>ct
 | m+1=>put (shL n i j q ct m) (2*n+1+i) m (subMul q (shL n i j q ct m (2*n+1+i) m) (shL n i j q ct m (2*n+1+j) m))
def quoS (l d:Int):Int:=fitZ (fitZ (l+l)+d) / fitZ (d+d)
def shQ (n i j:Nat) (q d:Int) (ct:Nat→Nat→Int):Nat→Nat→Int :=
 put (shL n i j q (shC i j q (shA n i j q ct n) n) j) (2*n+1+i) j (subMul q (shL n i j q (shC i j q (shA n i j q ct n) n) j (2*n+1+i) j) d)
def shortP (n i j:Nat) (ct:Nat→Nat→Int):Nat→Nat→Int :=
 if wideB (ct (2*n+1+i) j) (ct (2*n) (j+1))=true then shQ n i j (quoS (ct (2*n+1+i) j) (ct (2*n) (j+1))) (ct (2*n) (j+1)) ct else ct
def swC (k:Nat) (ct:Nat→Nat→Int):Nat→Nat→Nat→Int
 | 0=>ct
 | m+1=>put (put (swC k ct m) m k (swC k ct m m (k - 1))) m (k - 1) (swC k ct m m k)
def swR (n k:Nat) (ct:Nat→Nat→Int):Nat→Nat→Int:=fun s=>ct (sw (n+k) (n+(k - 1)) (sw k (k - 1) s))
def swapP (n k:Nat) (ct:Nat→Nat→Int):Nat→Nat→Int:=partsP n (swC k (swR n k ct) n) (k - 1) (n - (k - 1))
def fallsP (n k:Nat) (c:Nat→Nat→Int):Bool:=fallsB (c (2*n+1+k) (k - 1)) (c (2*n) (k - 1)) (c (2*n) k) (c (2*n) (k+1))
def shR (n k:Nat):Nat→(Nat→Nat→Int)→Nat→Nat→Int
 | 0,c=>c
 | l+1,c=>shR n k l (shortP n k l c)
def redP (n:Nat):Nat→Nat→(Nat→Nat→Int)→Option (Nat→Nat→Int)
 | 0,_,_=>none
 | fuel+1,k,ct=>if n≤k then some ct else
   if fallsP n k (shortP n k (k - 1) ct)=true then redP n fuel (max 1 (k - 1)) (swapP n k (shortP n k (k - 1) ct)) else redP n fuel (k+1) (shR n k (k - 1) (shortP n k (k - 1) ct))
def sm:Nat→(Nat→Int)→Int
 | 0,_=>0
 | n+1,f=>sm n f+f n
theorem zAC {n:Nat} {f g:Nat→Int} (h:∀ i,i < n→f i=g i):sm n f=sm n g:=by
 induction n with
 | zero=>rfl
 | succ n ih=>simp only [sm];rw [ih (fun i hi=>h i om),h n om]
theorem zCT (n:Nat) (f g:Nat→Int):sm n (fun i=>f i+g i)=sm n f+sm n g:=by
 induction n with
 | zero=>rfl
 | succ n ih=>simp only [sm];rw [ih];omega
theorem zAY (n:Nat) (a:Int) (f:Nat→Int):sm n (fun i=>a*f i)=a*sm n f:=by
 induction n with
 | zero=>simp [sm]
 | succ n ih=>simp only [sm];rw [ih,Int.mul_add]
theorem zA5 {n:Nat} {f:Nat→Int} (h:∀ i,i < n→f i=0):sm n f=0:=by
 induction n with
 | zero=>rfl
 | succ n ih=>simp only [sm];rw [ih (fun i hi=>h i om),h n om];rfl
theorem zBL {n k:Nat} {f:Nat→Int} (hk:k < n) (h:∀ i,i < n→i≠k→f i=0):sm n f=f k:=by
 induction n with
 | zero=>omega
 | succ n ih =>
  simp only [sm]
  by_cases e:k=n
  ·subst e;rw [zA5 (fun i hi=>h i om om)];omega
  ·rw [ih om (fun i hi hne=>h i om hne),h n om om];omega
theorem sm_two {n k l:Nat} {f:Nat→Int} (hk:k < n) (hl:l < n) (hkl:k < l) (h:∀ i,i < n→i≠k→i≠l→f i=0):sm n f=f k+f l:=by
 induction n with
 | zero=>omega
 | succ n ih =>
  simp only [sm]
  by_cases e:l=n
  ·subst e;rw [zBL hkl (fun i hi hne=>h i om hne om)]
  ·rw [ih om om (fun i hi h1 h2=>h i om h1 h2),h n om om om];omega
theorem zCG (n m:Nat) (f:Nat→Nat→Int):sm n (fun i=>sm m (fun j=>f i j))=sm m (fun j=>sm n (fun i=>f i j)):=by
 induction n with
 | zero=>simp only [sm];rw [zA5 (fun _ _=>rfl)]
 | succ n ih=>simp only [sm];rw [ih,← zCT]
def skip (l i:Nat):Nat:=if i < l then i else i+1
theorem skip_ne (l i:Nat):skip l i≠l:=by unfold skip;split <;> omega
theorem zBV {l i n:Nat} (h:i < n):skip l i < n+1:=by unfold skip;split <;> omega
def sgn (k:Nat):Int:=if k % 2=0 then 1 else -1
theorem zBQ (k:Nat):sgn (k+1) = - sgn k:=by
 unfold sgn
 by_cases h:k % 2=0
 ·rw [if_pos h,if_neg (show ¬ (k+1) % 2=0 by omega)]
 ·rw [if_neg h,if_pos (show (k+1) % 2=0 by omega)];rfl
theorem zCF (j k:Nat):sgn (j+k)=sgn j*sgn k:=by
 induction k with
 | zero=>simp [sgn]
 | succ k ih=>rw [← Nat.add_assoc,zBQ,zBQ,ih,Int.mul_neg]
theorem sgn_sq (k:Nat):sgn k*sgn k=1:=by unfold sgn;split <;> rfl
theorem zDJ (k:Nat):sgn (k+k)=1:=by rw [zCF,sgn_sq]
def det:Nat→(Nat→Nat→Int)→Int
 | 0,_=>1
 | n+1,M=>sm (n+1) (fun l=>sgn (n+l)*(M l n*det n (fun i j=>M (skip l i) j)))
theorem zAI {n:Nat}:∀ {M M':Nat→Nat→Int},(∀ i j,i < n→j < n→M i j=M' i j)→det n M=det n M':=by
 induction n with
 | zero=>intros;rfl
 | succ n ih =>
  intro M M' h
  simp only [det]
  refine zAC fun l hl=>?_
  rw [h l n hl om,ih (fun i j hi hj=>h _ _ (zBV hi) om)]
theorem zB9 {n:Nat}:∀ {M U V:Nat→Nat→Int} (r:Nat) (a b:Int),r < n→(∀ j,j < n→M r j=a*U r j+b*V r j)→(∀ i j,i < n→j < n→i≠r→M i j=U i j∧M i j=V i j)→det n M=a*det n U+b*det n V:=by
 induction n with
 | zero=>intros;omega
 | succ n ih =>
  intro M U V r a b hr h1 h2
  simp only [det]
  rw [← zAY,← zAY,← zCT]
  refine zAC fun l hl=>?_
  by_cases e:l=r
  ·subst e
   have e1:det n (fun i j=>M (skip l i) j)=det n (fun i j=>U (skip l i) j):=zAI fun i j hi hj=>(h2 _ _ (zBV hi) om (skip_ne _ _)).1
   have e2:det n (fun i j=>M (skip l i) j)=det n (fun i j=>V (skip l i) j):=zAI fun i j hi hj=>(h2 _ _ (zBV hi) om (skip_ne _ _)).2
   rw [h1 n om,← e1,← e2]
   generalize det n (fun i j=>M (skip l i) j)=D
   generalize sgn (n+l)=s
   rw [Int.add_mul,Int.mul_add]
   simp only [Int.mul_assoc,Int.mul_left_comm]
  ·have g:=h2 l n hl om e
   obtain ⟨r',hr',hs⟩:∃ r',r' < n∧skip l r'=r:=by
    by_cases q:r < l
    ·exact ⟨r,by omega,by unfold skip;rw [if_pos q]⟩
    ·exact ⟨r - 1,by omega,by unfold skip;rw [if_neg om];omega⟩
   have inj:∀ i,i≠r'→skip l i≠r:=by intro i hi;rw [← hs];unfold skip;split <;> split <;> omega
   rw [ih (M:=fun i j=>M (skip l i) j) (U:=fun i j=>U (skip l i) j) (V:=fun i j=>V (skip l i) j) r' a b hr' (fun j hj=>by show M (skip l r') j=_;rw [hs];exact h1 j om) (fun i j hi hj hne=>h2 _ _ (zBV hi) om (inj i hne))]
   rw [← g.1]
   have g2:V l n=M l n:=g.2.symm
   rw [g2]
   generalize det n (fun i j=>U (skip l i) j)=D
   generalize det n (fun i j=>V (skip l i) j)=D'
   generalize sgn (n+l)=s
   rw [Int.mul_add,Int.mul_add]
   simp only [Int.mul_left_comm]
theorem det_col {n:Nat}:∀ {M U V:Nat→Nat→Int} (c:Nat) (a b:Int),c < n→(∀ i,i < n→M i c=a*U i c+b*V i c)→(∀ i j,i < n→j < n→j≠c→M i j=U i j∧M i j=V i j)→det n M=a*det n U+b*det n V:=by
 induction n with
 | zero=>intros;omega
 | succ n ih =>
  intro M U V c a b hc h1 h2
  simp only [det]
  rw [← zAY,← zAY,← zCT]
  refine zAC fun l hl=>?_
  by_cases e:c=n
  ·subst e
   have e1:det c (fun i j=>M (skip l i) j)=det c (fun i j=>U (skip l i) j):=zAI fun i j hi hj=>(h2 _ _ (zBV hi) om om).1
   have e2:det c (fun i j=>M (skip l i) j)=det c (fun i j=>V (skip l i) j):=zAI fun i j hi hj=>(h2 _ _ (zBV hi) om om).2
   rw [h1 l om,← e1,← e2]
   generalize det c (fun i j=>M (skip l i) j)=D
   generalize sgn (c+l)=s
   rw [Int.add_mul,Int.mul_add]
   simp only [Int.mul_assoc,Int.mul_left_comm]
  ·have g:=h2 l n hl om om
   rw [ih (M:=fun i j=>M (skip l i) j) (U:=fun i j=>U (skip l i) j) (V:=fun i j=>V (skip l i) j) c a b om (fun i hi=>h1 _ (zBV hi)) (fun i j hi hj hne=>h2 _ _ (zBV hi) om hne)]
   rw [← g.1]
   have g2:V l n=M l n:=g.2.symm
   rw [g2]
   generalize det n (fun i j=>U (skip l i) j)=D
   generalize det n (fun i j=>V (skip l i) j)=D'
   generalize sgn (n+l)=s
   rw [Int.mul_add,Int.mul_add]
   simp only [Int.mul_left_comm]
theorem zCk {n:Nat} {M:Nat→Nat→Int} (r:Nat) (hr:r < n) (h:∀ j,j < n→M r j=0):det n M=0:=by
 have:=zB9 (M:=M) (U:=M) (V:=M) r 0 0 hr (fun j hj=>by rw [h j hj];rfl) (fun _ _ _ _ _=>⟨rfl,rfl⟩)
 rw [this];omega
theorem zC5 {n:Nat}:∀ {M:Nat→Nat→Int} (k:Nat),k+1 < n→(∀ j,j < n→M k j=M (k+1) j)→det n M=0:=by
 induction n with
 | zero=>intros;omega
 | succ n ih =>
  intro M k hk h
  simp only [det]
  rw [sm_two (k:=k) (l:=k+1) om hk om]
  ·have e:det n (fun i j=>M (skip k i) j)=det n (fun i j=>M (skip (k+1) i) j):=zAI fun i j hi hj=>by
    by_cases q:i=k
    ·subst q;rw [show skip i i=i+1 by unfold skip;rw [if_neg om],show skip (i+1) i=i by unfold skip;rw [if_pos om]];exact (h j om).symm
    ·rw [show skip k i=skip (k+1) i by unfold skip;split <;> split <;> omega]
   rw [e,h n om,← Nat.add_assoc,zBQ]
   generalize M (k+1) n*det n (fun i j=>M (skip (k+1) i) j)=D
   rw [Int.neg_mul];omega
  ·intro i hi h1 h2
   have:det n (fun a j=>M (skip i a) j)=0:=by
    rcases Nat.lt_or_ge i k with q|q
    ·refine ih (k - 1) om fun j hj=>?_
     show M (skip i (k - 1)) j=M (skip i (k - 1+1)) j
     rw [show skip i (k - 1)=k by unfold skip;rw [if_neg om];omega,show skip i (k - 1+1)=k+1 by unfold skip;rw [if_neg om];omega]
     exact h j om
    ·refine ih k om fun j hj=>?_
     show M (skip i k) j=M (skip i (k+1)) j
     rw [show skip i k=k by unfold skip;rw [if_pos om],show skip i (k+1)=k+1 by unfold skip;rw [if_pos om]]
     exact h j om
   rw [this];simp
def swp (k:Nat) (i:Nat):Nat:=if i=k then k+1 else if i=k+1 then k else i
def rows2 (k:Nat) (M:Nat→Nat→Int) (u v:Nat→Int):Nat→Nat→Int:=fun i j=>if i=k then u j else if i=k+1 then v j else M i j
theorem zCD (k:Nat) (M:Nat→Nat→Int) (u v:Nat→Int) (j:Nat):rows2 k M u v k j=u j:=by unfold rows2;rw [if_pos rfl]
theorem zCE (k:Nat) (M:Nat→Nat→Int) (u v:Nat→Int) (j:Nat):rows2 k M u v (k+1) j=v j:=by unfold rows2;rw [if_neg om,if_pos rfl]
theorem zCc {k i:Nat} (M:Nat→Nat→Int) (u v:Nat→Int) (j:Nat) (h1:i≠k) (h2:i≠k+1):rows2 k M u v i j=M i j:=by unfold rows2;rw [if_neg h1,if_neg h2]
theorem zC9 {n:Nat} {M:Nat→Nat→Int} (k:Nat) (hk:k+1 < n):det n (fun i j=>M (swp k i) j) = - det n M:=by
 have add1:∀ u u' v,det n (rows2 k M (fun j=>u j+u' j) v)=det n (rows2 k M u v)+det n (rows2 k M u' v):=fun u u' v=>by
  have:=zB9 (M:=rows2 k M (fun j=>u j+u' j) v) (U:=rows2 k M u v) (V:=rows2 k M u' v) k 1 1 (Nat.lt_of_succ_lt hk) (fun j _=>by rw [zCD,zCD,zCD,Int.one_mul,Int.one_mul]) (fun i j _ _ hne=>by
   by_cases e:i=k+1
   ·subst e;rw [zCE,zCE,zCE];exact ⟨rfl,rfl⟩
   ·rw [zCc _ _ _ _ hne e,zCc _ _ _ _ hne e,zCc _ _ _ _ hne e];exact ⟨rfl,rfl⟩)
  rw [this];omega
 have add2:∀ u v v',det n (rows2 k M u (fun j=>v j+v' j))=det n (rows2 k M u v)+det n (rows2 k M u v'):=fun u v v'=>by
  have:=zB9 (M:=rows2 k M u (fun j=>v j+v' j)) (U:=rows2 k M u v) (V:=rows2 k M u v') (k+1) 1 1 hk (fun j _=>by rw [zCE,zCE,zCE,Int.one_mul,Int.one_mul]) (fun i j _ _ hne=>by
   by_cases e:i=k
   ·subst e;rw [zCD,zCD,zCD];exact ⟨rfl,rfl⟩
   ·rw [zCc _ _ _ _ e hne,zCc _ _ _ _ e hne,zCc _ _ _ _ e hne];exact ⟨rfl,rfl⟩)
  rw [this];omega
 have same:∀ u,det n (rows2 k M u u)=0:=fun u=>zC5 k hk fun j _=>by rw [zCD,zCE]
 have h:=same (fun j=>M k j+M (k+1) j)
 rw [add1,add2,add2,same,same] at h
 have e1:det n (rows2 k M (M k) (M (k+1)))=det n M:=zAI fun i j _ _=>by
  unfold rows2;split
  ·rename_i e;rw [e]
  ·split
   ·rename_i e;rw [e]
   ·rfl
 have e2:det n (rows2 k M (M (k+1)) (M k))=det n (fun i j=>M (swp k i) j):=zAI fun i j _ _=>by
  unfold rows2 swp;split
  ·rfl
  ·split <;> rfl
 have h':det n (rows2 k M (M k) (M (k+1)))+det n (rows2 k M (M (k+1)) (M k))=0:=by omega
 rw [e1,e2] at h';omega
theorem det_same_row {n:Nat}:∀ (d:Nat) {M:Nat→Nat→Int} (r:Nat),r+1+d < n→(∀ j,j < n→M r j=M (r+1+d) j)→det n M=0:=by
 intro d
 induction d with
 | zero=>intro M r h1 h2;exact zC5 r h1 h2
 | succ d ih =>
  intro M r h1 h2
  have:=zC9 (M:=M) (r+1+d) om
  have h0:det n (fun i j=>M (swp (r+1+d) i) j)=0:=ih r om fun j hj=>by
   show M (swp (r+1+d) r) j=M (swp (r+1+d) (r+1+d)) j
   rw [show swp (r+1+d) r=r by unfold swp;rw [if_neg om,if_neg om],show swp (r+1+d) (r+1+d)=r+1+(d+1) by unfold swp;rw [if_pos rfl];omega]
   exact h2 j hj
  omega
theorem zB8 {n:Nat} {M:Nat→Nat→Int} (r s:Nat) (hrs:r < s) (hs:s < n) (h:∀ j,j < n→M r j=M s j):det n M=0 :=
 det_same_row (s - r - 1) r om fun j hj=>by rw [show r+1+(s - r - 1)=s by omega];exact h j hj
theorem sm_skip (n l:Nat) (hl:l < n+1) (f:Nat→Int):sm n (fun p=>f (skip l p))+f l=sm (n+1) f:=by
 induction n with
 | zero =>
      obtain rfl:l=0:=by omega
      simp [sm]
 | succ n ih =>
  simp only [sm]
  by_cases e:l=n+1
  ·subst e
   rw [zAC (f:=fun p=>f (skip (n+1) p)) (g:=f) (fun i hi=>by show f (skip (n+1) i)=_;rw [show skip (n+1) i=i by unfold skip;rw [if_pos om]]),show skip (n+1) n=n by unfold skip;rw [if_pos om]]
  ·have:=ih om
   simp only [sm] at this
   rw [show skip l n=n+1 by unfold skip;rw [if_neg om]]
   omega
theorem sm_anti (n:Nat) (G:Nat→Nat→Int) (h:∀ i j,i < n→j < n→G i j = - G j i):sm n (fun i=>sm n (fun j=>G i j))=0:=by
 have h1:sm n (fun i=>sm n (fun j=>G i j))=sm n (fun i=>sm n (fun j=>-1*G j i)):=zAC fun i hi=>zAC fun j hj=>by rw [h i j hi hj];omega
 have h2:sm n (fun i=>sm n (fun j=>-1*G j i)) = -1*sm n (fun i=>sm n (fun j=>G i j)):=by
  rw [zCG n n G,← zAY]
  exact zAC fun i _=>by rw [zAY]
 omega
theorem det_last_col {m:Nat} {M:Nat→Nat→Int} (h:∀ i,i < m+2→M i m=M i (m+1)):det (m+2) M=0:=by
 let D (l q:Nat):Int:=det m (fun i j=>M (skip (max l q) (skip (min l q) i)) j)
 let G (l q:Nat):Int:=if l=q then 0 else (if q < l then -1 else 1)*(sgn (l+q)*(M l m*(M q m*D l q)))
 have e:det (m+2) M=sm (m+2) (fun l=>sm (m+2) (fun q=>G l q)):=by
  show sm (m+2) (fun l=>sgn (m+1+l)*(M l (m+1)*det (m+1) (fun i j=>M (skip l i) j)))=_
  refine zAC fun l hl=>?_
  rw [← h l hl,← sm_skip (m+1) l om (fun q=>G l q)]
  have g0:G l l=0:=by simp only [G,if_pos]
  rw [g0,Int.add_zero]
  show _*(_*sm (m+1) (fun p=>sgn (m+p)*(M (skip l p) m*det m (fun i j=>M (skip l (skip p i)) j))))=_
  rw [← zAY,← zAY]
  refine zAC fun p hp=>?_
  show _=G l (skip l p)
  have hne:=skip_ne l p
  simp only [G]
  rw [if_neg (Ne.symm hne)]
  have hD:D l (skip l p)=det m (fun i j=>M (skip l (skip p i)) j):=zAI fun i j hi hj=>by
   by_cases q:p < l
   ·rw [show skip l p=p by unfold skip;rw [if_pos q],Nat.max_eq_left om,Nat.min_eq_right om]
   ·rw [show skip l p=p+1 by unfold skip;rw [if_neg q],Nat.max_eq_right om,Nat.min_eq_left om]
    rw [show skip (p+1) (skip l i)=skip l (skip p i) by unfold skip;(repeat' split) <;> omega]
  rw [hD]
  generalize det m (fun i j=>M (skip l (skip p i)) j)=E
  by_cases q:p < l
  ·rw [show skip l p=p by unfold skip;rw [if_pos q],if_pos q]
   rw [show m+1+l=(m+l)+1 by omega,zBQ,zCF m l,zCF m p,zCF l p]
   have hs:=sgn_sq m
   generalize sgn m=s at *
   generalize sgn l=t
   generalize sgn p=u
   have:(-(s*t))*(M l m*((s*u)*(M p m*E)))=(s*s)*(-1*(t*u*(M l m*(M p m*E)))):=by
    simp only [Int.neg_mul,Int.mul_neg,Int.one_mul]
    simp only [Int.mul_assoc,Int.mul_left_comm]
   rw [this,hs];omega
  ·rw [show skip l p=p+1 by unfold skip;rw [if_neg q],if_neg om]
   rw [show m+1+l=(m+l)+1 by omega,zBQ,zCF m l,zCF m p,show l+(p+1)=(l+p)+1 by omega,zBQ,zCF l p]
   have hs:=sgn_sq m
   generalize sgn m=s at *
   generalize sgn l=t
   generalize sgn p=u
   have:(-(s*t))*(M l m*((s*u)*(M (p+1) m*E)))=(s*s)*(-1*(t*u*(M l m*(M (p+1) m*E)))):=by
    simp only [Int.neg_mul,Int.mul_neg,Int.one_mul]
    simp only [Int.mul_assoc,Int.mul_left_comm]
   rw [this,hs]
   simp only [Int.neg_mul,Int.mul_neg,Int.one_mul]
 rw [e,sm_anti]
 ·intro i j hi hj
  simp only [G]
  by_cases q:i=j
  ·rw [if_pos q,if_pos q.symm];rfl
  ·rw [if_neg q,if_neg (Ne.symm q)]
   have hD:D i j=D j i:=by simp only [D];rw [Nat.max_comm,Nat.min_comm]
   rw [hD,Nat.add_comm i j]
   generalize D j i=E
   rcases Nat.lt_or_ge i j with q2|q2
   ·rw [if_neg om,if_pos om]
    rw [Int.mul_left_comm (M i m)];omega
   ·rw [if_pos om,if_neg om]
    rw [Int.mul_left_comm (M i m)];omega
def cols2 (k:Nat) (M:Nat→Nat→Int) (u v:Nat→Int):Nat→Nat→Int:=fun i j=>if j=k then u i else if j=k+1 then v i else M i j
theorem zB6 (k:Nat) (M:Nat→Nat→Int) (u v:Nat→Int) (i:Nat):cols2 k M u v i k=u i:=by unfold cols2;rw [if_pos rfl]
theorem zB7 (k:Nat) (M:Nat→Nat→Int) (u v:Nat→Int) (i:Nat):cols2 k M u v i (k+1)=v i:=by unfold cols2;rw [if_neg om,if_pos rfl]
theorem zCX {k j:Nat} (M:Nat→Nat→Int) (u v:Nat→Int) (i:Nat) (h1:j≠k) (h2:j≠k+1):cols2 k M u v i j=M i j:=by unfold cols2;rw [if_neg h1,if_neg h2]
theorem zC4 {n:Nat}:∀ {M:Nat→Nat→Int} (k:Nat),k+1 < n→(∀ i,i < n→M i k=M i (k+1))→det n M=0:=by
 induction n with
 | zero=>intros;omega
 | succ n ih =>
  intro M k hk h
  by_cases e:k+1=n
  ·subst e;exact det_last_col h
  ·simp only [det]
   refine zA5 fun l hl=>?_
   rw [ih (M:=fun i j=>M (skip l i) j) k om (fun i hi=>h _ (zBV hi))]
   simp
theorem zCA {n:Nat} {M:Nat→Nat→Int} (k:Nat) (hk:k+1 < n):det n (fun i j=>M i (swp k j)) = - det n M:=by
 have add1:∀ u u' v,det n (cols2 k M (fun j=>u j+u' j) v)=det n (cols2 k M u v)+det n (cols2 k M u' v):=fun u u' v=>by
  have:=det_col (M:=cols2 k M (fun j=>u j+u' j) v) (U:=cols2 k M u v) (V:=cols2 k M u' v) k 1 1 (Nat.lt_of_succ_lt hk) (fun j _=>by rw [zB6,zB6,zB6,Int.one_mul,Int.one_mul]) (fun i j _ _ hne=>by
   by_cases e:j=k+1
   ·subst e;rw [zB7,zB7,zB7];exact ⟨rfl,rfl⟩
   ·rw [zCX _ _ _ _ hne e,zCX _ _ _ _ hne e,zCX _ _ _ _ hne e];exact ⟨rfl,rfl⟩)
  rw [this];omega
 have add2:∀ u v v',det n (cols2 k M u (fun j=>v j+v' j))=det n (cols2 k M u v)+det n (cols2 k M u v'):=fun u v v'=>by
  have:=det_col (M:=cols2 k M u (fun j=>v j+v' j)) (U:=cols2 k M u v) (V:=cols2 k M u v') (k+1) 1 1 hk (fun j _=>by rw [zB7,zB7,zB7,Int.one_mul,Int.one_mul]) (fun i j _ _ hne=>by
   by_cases e:j=k
   ·subst e;rw [zB6,zB6,zB6];exact ⟨rfl,rfl⟩
   ·rw [zCX _ _ _ _ e hne,zCX _ _ _ _ e hne,zCX _ _ _ _ e hne];exact ⟨rfl,rfl⟩)
  rw [this];omega
 have same:∀ u,det n (cols2 k M u u)=0:=fun u=>zC4 k hk fun j _=>by rw [zB6,zB7]
 have h:=same (fun i=>M i k+M i (k+1))
 rw [add1,add2,add2,same,same] at h
 have e1:det n (cols2 k M (fun i=>M i k) (fun i=>M i (k+1)))=det n M:=zAI fun i j _ _=>by
  unfold cols2;split
  ·rename_i e;rw [e]
  ·split
   ·rename_i e;rw [e]
   ·rfl
 have e2:det n (cols2 k M (fun i=>M i (k+1)) (fun i=>M i k))=det n (fun i j=>M i (swp k j)):=zAI fun i j _ _=>by
  unfold cols2 swp;split
  ·rfl
  ·split <;> rfl
 have h':det n (cols2 k M (fun i=>M i k) (fun i=>M i (k+1)))+det n (cols2 k M (fun i=>M i (k+1)) (fun i=>M i k))=0:=by omega
 rw [e1,e2] at h';omega
theorem det_same_col {n:Nat}:∀ (d:Nat) {M:Nat→Nat→Int} (r:Nat),r+1+d < n→(∀ i,i < n→M i r=M i (r+1+d))→det n M=0:=by
 intro d
 induction d with
 | zero=>intro M r h1 h2;exact zC4 r h1 h2
 | succ d ih =>
  intro M r h1 h2
  have:=zCA (M:=M) (r+1+d) om
  have h0:det n (fun i j=>M i (swp (r+1+d) j))=0:=ih r om fun i hi=>by
   show M i (swp (r+1+d) r)=M i (swp (r+1+d) (r+1+d))
   rw [show swp (r+1+d) r=r by unfold swp;rw [if_neg om,if_neg om],show swp (r+1+d) (r+1+d)=r+1+(d+1) by unfold swp;rw [if_pos rfl];omega]
   exact h2 i hi
  omega
theorem zC7 {n:Nat} {M:Nat→Nat→Int} (r s:Nat) (hrs:r < s) (hs:s < n) (h:∀ i,i < n→M i r=M i s):det n M=0 :=
 det_same_col (s - r - 1) r om fun j hj=>by rw [show r+1+(s - r - 1)=s by omega];exact h j hj
def bord (A:Nat→Nat→Int) (r i j:Nat):Nat→Nat→Int:=fun x y=>A (if x=r then i else x) (if y=r then j else y)
def dmin (A:Nat→Nat→Int) (r i j:Nat):Int:=det (r+1) (bord A r i j)
def cof (A:Nat→Nat→Int) (r i l:Nat):Int:=sgn (r+l)*det r (fun x y=>A (if skip l x=r then i else skip l x) y)
theorem zCs (A:Nat→Nat→Int) (r i j:Nat):dmin A r i j=sm r (fun l=>cof A r i l*A l j)+det r A*A i j:=by
 show sm r _+_=_
 congr 1
 ·refine zAC fun l hl=>?_
  show sgn (r+l)*(bord A r i j l r*det r _)=_
  unfold cof
  rw [zAI (M:=fun x y=>bord A r i j (skip l x) y) (M':=fun x y=>A (if skip l x=r then i else skip l x) y) (fun x y hx hy=>by unfold bord;rw [if_neg (show ¬ y=r by omega)])]
  rw [show bord A r i j l r=A l j by unfold bord;rw [if_neg om,if_pos rfl]]
  rw [Int.mul_assoc,Int.mul_comm (A l j)]
 ·show sgn (r+r)*(bord A r i j r r*det r _)=_
  rw [zDJ,Int.one_mul,show bord A r i j r r=A i j by unfold bord;rw [if_pos rfl,if_pos rfl],Int.mul_comm]
  rw [zAI (M':=A) fun x y hx hy=>by unfold bord;rw [show skip r x=x by unfold skip;rw [if_pos hx],if_neg om,if_neg om]]
theorem zAy (A:Nat→Nat→Int) (r i j:Nat) (hj:j < r):dmin A r i j=0 :=
 zC7 j r hj om fun x hx=>by unfold bord;rw [if_neg (show ¬ j=r by omega),if_pos rfl]
theorem det_comb {n:Nat} (M:Nat→Nat→Int) (s:Nat) (p:Int) (c:Nat→Int) (hs:s < n):∀ (r:Nat) (M':Nat→Nat→Int),r≤s→(∀ j,j < n→M' s j=p*M s j+sm r (fun l=>c l*M l j))→(∀ i j,i < n→j < n→i≠s→M' i j=M i j)→det n M'=p*det n M:=by
 intro r
 induction r with
 | zero =>
  intro M' _ h1 h2
  rw [zB9 (M:=M') (U:=M) (V:=M) s p 0 hs (fun j hj=>by rw [h1 j hj];simp [sm]) (fun i j hi hj hne=>⟨h2 i j hi hj hne,h2 i j hi hj hne⟩)]
  omega
 | succ r ih =>
  intro M' hr h1 h2
  rw [zB9 (M:=M') (U:=fun i j=>if i=s then p*M s j+sm r (fun l=>c l*M l j) else M i j) (V:=fun i j=>if i=s then M r j else M i j) s 1 (c r) hs
   (fun j hj=>by rw [h1 j hj,if_pos rfl,if_pos rfl];simp only [sm];omega)
   (fun i j hi hj hne=>by rw [if_neg hne,if_neg hne];exact ⟨h2 i j hi hj hne,h2 i j hi hj hne⟩)]
  rw [ih (fun i j=>if i=s then p*M s j+sm r (fun l=>c l*M l j) else M i j) om (fun j hj=>by rw [if_pos rfl]) (fun i j hi hj hne=>by rw [if_neg hne])]
  rw [zB8 (M:=fun i j=>if i=s then M r j else M i j) r s om hs (fun j hj=>by rw [if_pos rfl,if_neg om])]
  omega
theorem zBu {r:Nat} {Z:Nat→Nat→Int} (h:∀ y,y < r→Z r y=0):det (r+1) Z=det r Z*Z r r:=by
 simp only [det]
 rw [zBL (k:=r) om]
 ·rw [zDJ,Int.one_mul,Int.mul_comm,zAI (M':=Z) fun x y hx hy=>by rw [show skip r x=x by unfold skip;rw [if_pos hx]]]
 ·intro l hl hne
  rw [zCk (M:=fun i j=>Z (skip l i) j) (r - 1) om (fun j hj=>by show Z (skip l (r - 1)) j=0;rw [show skip l (r - 1)=r by unfold skip;rw [if_neg om];omega];exact h j hj)]
  simp
theorem det_block2 {r:Nat} {Z:Nat→Nat→Int} (h:∀ y,y < r→Z r y=0) (h':∀ y,y < r→Z (r+1) y=0):det (r+2) Z=det r Z*(Z r r*Z (r+1) (r+1) - Z (r+1) r*Z r (r+1)):=by
 show sm (r+2) (fun l=>sgn (r+1+l)*(Z l (r+1)*det (r+1) (fun i j=>Z (skip l i) j)))=_
 rw [sm_two (k:=r) (l:=r+1) om om om]
 ·rw [show r+1+r=(r+r)+1 by omega,zBQ,zDJ,zDJ]
  rw [zBu (Z:=fun i j=>Z (skip r i) j) (fun y hy=>by show Z (skip r r) y=0;rw [show skip r r=r+1 by unfold skip;rw [if_neg om]];exact h' y hy)]
  rw [zBu (Z:=fun i j=>Z (skip (r+1) i) j) (fun y hy=>by show Z (skip (r+1) r) y=0;rw [show skip (r+1) r=r by unfold skip;rw [if_pos om]];exact h y hy)]
  rw [show skip r r=r+1 by unfold skip;rw [if_neg om],show skip (r+1) r=r by unfold skip;rw [if_pos om]]
  rw [zAI (M:=fun i j=>Z (skip r i) j) (M':=Z) fun x y hx hy=>by rw [show skip r x=x by unfold skip;rw [if_pos hx]]]
  rw [zAI (M:=fun i j=>Z (skip (r+1) i) j) (M':=Z) fun x y hx hy=>by rw [show skip (r+1) x=x by unfold skip;rw [if_pos om]]]
  generalize det r Z=D
  rw [Int.mul_sub,Int.mul_left_comm (Z r (r+1)),Int.mul_left_comm (Z (r+1) (r+1)),Int.mul_comm (Z r (r+1)),Int.mul_comm (Z (r+1) (r+1))]
  omega
 ·intro l hl h1 h2
  rw [zBu (Z:=fun i j=>Z (skip l i) j) (fun y hy=>by show Z (skip l r) y=0;rw [show skip l r=r+1 by unfold skip;rw [if_neg om]];exact h' y hy)]
  rw [zCk (n:=r) (M:=fun i j=>Z (skip l i) j) (r - 1) om (fun y hy=>by show Z (skip l (r - 1)) y=0;rw [show skip l (r - 1)=r by unfold skip;rw [if_neg om];omega];exact h y hy)]
  simp
theorem sylvester (A:Nat→Nat→Int) (r i j:Nat) (hp:det r A≠0):det r A*dmin A (r+1) i j=dmin A r r r*dmin A r i j - dmin A r i r*dmin A r r j:=by
 let col:Nat→Nat:=fun y=>if y=r+1 then j else y
 let X:=bord A (r+1) i j
 let Y:Nat→Nat→Int:=fun x y=>if x=r then dmin A r r (col y) else X x y
 let Z:Nat→Nat→Int:=fun x y=>if x=r+1 then dmin A r i (col y) else Y x y
 have hX:∀ x y,x < r+1→X x y=A x (col y):=fun x y hx=>by simp only [X,bord];rw [if_neg om]
 have hY:det (r+2) Y=det r A*det (r+2) X:=det_comb X r (det r A) (cof A r r) om r Y (Nat.le_refl _)
  (fun y hy=>by
   simp only [Y];rw [if_pos trivial,zCs,hX r y om,Int.add_comm]
   congr 1
   exact zAC fun l hl=>by rw [hX l y om])
  (fun x y hx hy hne=>by simp only [Y];rw [if_neg hne])
 have hZ:det (r+2) Z=det r A*det (r+2) Y:=det_comb Y (r+1) (det r A) (cof A r i) om r Z om
  (fun y hy=>by
   simp only [Z];rw [if_pos trivial,zCs,Int.add_comm]
   congr 1
   ·simp only [Y];rw [if_neg om];simp only [X,bord];rw [if_pos trivial]
   ·exact zAC fun l hl=>by simp only [Y];rw [if_neg om,hX l y om])
  (fun x y hx hy hne=>by simp only [Z];rw [if_neg hne])
 have hb:=det_block2 (r:=r) (Z:=Z)
  (fun y hy=>by simp only [Z,Y];rw [if_neg om,if_pos trivial];simp only [col];rw [if_neg om];exact zAy A r r y hy)
  (fun y hy=>by simp only [Z];rw [if_pos trivial];simp only [col];rw [if_neg om];exact zAy A r i y hy)
 have hc:det r Z=det r A:=zAI fun x y hx hy=>by simp only [Z,Y];rw [if_neg om,if_neg om,hX x y om];simp only [col];rw [if_neg om]
 have e1:Z r r=dmin A r r r:=by simp only [Z,Y];rw [if_neg om,if_pos trivial];simp only [col];rw [if_neg om]
 have e2:Z (r+1) (r+1)=dmin A r i j:=by simp only [Z];rw [if_pos trivial];simp only [col];rw [if_pos trivial]
 have e3:Z (r+1) r=dmin A r i r:=by simp only [Z];rw [if_pos trivial];simp only [col];rw [if_neg om]
 have e4:Z r (r+1)=dmin A r r j:=by simp only [Z,Y];rw [if_neg om,if_pos trivial];simp only [col];rw [if_pos trivial]
 rw [hc,e1,e2,e3,e4,hZ,hY] at hb
 exact Int.eq_of_mul_eq_mul_left hp hb
theorem zAX (A:Nat→Nat→Int) (r:Nat):dmin A r r r=det (r+1) A :=
 zAI fun x y hx hy=>by
  unfold bord
  rw [show (if x=r then r else x)=x by split <;> omega,show (if y=r then r else y)=y by split <;> omega]
theorem zAm (A:Nat→Nat→Int) (i j:Nat):dmin A 0 i j=A i j:=by
 unfold dmin det sm bord;simp [sm,det,sgn]
def fct:Nat→Nat
 | 0=>1
 | n+1=>(n+1)*fct n
theorem sm_bound {n B:Nat} {f:Nat→Int} (h:∀ i,i < n→(f i).natAbs≤B):(sm n f).natAbs≤n*B:=by
 induction n with
 | zero=>simp [sm]
 | succ n ih =>
  simp only [sm]
  have h1:=ih fun i hi=>h i om
  have h2:=h n om
  have h3:=Int.natAbs_add_le (sm n f) (f n)
  rw [Nat.succ_mul];omega
theorem sgn_abs (k:Nat):(sgn k).natAbs=1:=by unfold sgn;split <;> rfl
theorem zC6 {n B:Nat}:∀ {M:Nat→Nat→Int},(∀ i j,i < n→j < n→(M i j).natAbs≤B)→(det n M).natAbs≤fct n*B ^ n:=by
 induction n with
 | zero=>intro M h;simp [det,fct]
 | succ n ih =>
  intro M h
  simp only [det]
  have:fct (n+1)*B ^ (n+1)=(n+1)*(B*(fct n*B ^ n)):=by
   rw [fct,Nat.pow_succ];simp only [Nat.mul_assoc,Nat.mul_left_comm,Nat.mul_comm]
  rw [this]
  refine sm_bound fun l hl=>?_
  rw [Int.natAbs_mul,sgn_abs,Nat.one_mul,Int.natAbs_mul]
  exact Nat.mul_le_mul (h l n hl om) (ih fun i j hi hj=>h _ _ (zBV hi) om)
theorem dmin_bound {n B:Nat} {A:Nat→Nat→Int} (h:∀ i j,i < n→j < n→(A i j).natAbs≤B) {r i j:Nat} (hi:i < n) (hj:j < n) (hr:r < n):(dmin A r i j).natAbs≤fct (r+1)*B ^ (r+1) :=
 zC6 fun x y hx hy=>by unfold bord;exact h _ _ (by split <;> omega) (by split <;> omega)
end Go.Proofs.YtdkgilioejdmeaaGreat
namespace Go.Proofs.YtdkgilioejdmeaaGreat
structure PD (n:Nat) (A:Nat→Nat→Int):Prop where
 sym:∀ i j,i < n→j < n→A i j=A j i
 cor:∀ k,k < n→0 < det (k+1) A
theorem PD.pos {n:Nat} {A:Nat→Nat→Int} (h:PD n A) {k:Nat} (hk:k≤n):0 < det k A:=by
 cases k with
 | zero=>exact (by decide:(0:Int) < 1)
 | succ k=>exact h.cor k om
theorem PD.step {n:Nat} {A:Nat→Nat→Int} (h:PD n A) {r:Nat} (hr:r < n) (i j:Nat):det r A*dmin A (r+1) i j=det (r+1) A*dmin A r i j - dmin A r i r*dmin A r r j:=by
 have:=sylvester A r i j (by have:=h.pos (k:=r) om;omega)
 rwa [zAX] at this
theorem PD.dsym {n:Nat} {A:Nat→Nat→Int} (h:PD n A):∀ r,r≤n→∀ i j,i < n→j < n→dmin A r i j=dmin A r j i:=by
 intro r
 induction r with
 | zero=>intro _ i j hi hj;rw [zAm,zAm];exact h.sym i j hi hj
 | succ r ih =>
  intro hr i j hi hj
  have hp:=h.pos (k:=r) om
  have e1:=h.step (r:=r) om i j
  have e2:=h.step (r:=r) om j i
  rw [ih om i j hi hj,ih om i r hi om,ih om r j om hj] at e1
  refine Int.eq_of_mul_eq_mul_left (show det r A≠0 by omega) ?_
  rw [e1,e2,Int.mul_comm (dmin A r r i)]
theorem PD.gram {n:Nat} {A:Nat→Nat→Int} (h:PD n A) {r:Nat} (hr:r < n) {i j:Nat} (hi:i < n) (hj:j < n):det r A*dmin A (r+1) i j=det (r+1) A*dmin A r i j - dmin A r i r*dmin A r j r:=by
 rw [h.step hr,h.dsym r om r j hr hj]
theorem zB3 {a b:Int} (ha:0 < a) (h:0 < a*b):0 < b:=by
 rcases Int.lt_trichotomy 0 b with h1|h1|h1
 ·exact h1
 ·subst h1;simp at h
 ·have:=Int.mul_neg_of_pos_of_neg ha h1;omega
theorem zAQ {a b:Int} (ha:0 < a) (h:0≤a*b):0≤b:=by
 rcases Int.lt_or_le b 0 with h1|h1
 ·have:=Int.mul_neg_of_pos_of_neg ha h1;omega
 ·exact h1
theorem zAp {a b c:Int} (ha:0 < a) (h:a*b≤a*c):b≤c:=Int.le_of_mul_le_mul_left h ha
theorem zAi (a:Int):0≤a*a:=by
 rcases Int.le_total 0 a with h|h
 ·exact Int.mul_nonneg h h
 ·exact Int.mul_nonneg_of_nonpos_of_nonpos h h
theorem PD.diag {n:Nat} {A:Nat→Nat→Int} (h:PD n A) {i:Nat} (hi:i < n):∀ d r,r+d=i→0 < dmin A r i i:=by
 intro d
 induction d with
 | zero =>
      intro r hr;obtain rfl:r=i:=by omega
      rw [zAX];exact h.cor r hi
 | succ d ih =>
  intro r hr
  have h1:=ih (r+1) om
  have h2:=h.gram (r:=r) om hi hi
  have h3:=Int.mul_pos (h.pos (k:=r) om) h1
  have h4:=zAi (dmin A r i r)
  exact zB3 (h.cor r om) om
theorem PD.diag0 {n:Nat} {A:Nat→Nat→Int} (h:PD n A) {i r:Nat} (hi:i < n):0≤dmin A r i i:=by
 by_cases e:r≤i
 ·exact Int.le_of_lt (h.diag hi (i - r) r om)
 ·rw [zAy A r i i om];exact Int.le_refl _
theorem cauchy_step {D E a b c a' b' c' α γ : Int} (hE:0 < E) (hD:0 < D) (ha:0≤a') (hc:0≤c') (h:b'*b'≤a'*c')
  (e1:D*a'=E*a - α * α) (e2:D*c'=E*c - γ * γ) (e3:D*b'=E*b - α * γ):b*b≤a*c:=by
 have hx:0≤a' * γ * γ + c' * α * α - 2*b' * α * γ := by
  rcases Int.lt_or_le 0 a' with h1|h1
  ·have k1:a'*(a' * γ * γ + c' * α * α - 2*b' * α * γ)=(a' * γ - b' * α)*(a' * γ - b' * α)+(a'*c' - b'*b')*(α * α):=by grind
   have k2:=zAi (a' * γ - b' * α)
   have k3:=Int.mul_nonneg (show 0≤a'*c' - b'*b' by omega) (zAi α)
   exact zAQ h1 om
  ·obtain rfl:a'=0:=by omega
   have hb:b'*b'≤0:=by rw [Int.zero_mul] at h;exact h
   have hb0:b'=0:=by
    have:=zAi b'
    exact (Int.mul_eq_zero.1 (show b'*b'=0 by omega)).elim id id
   subst hb0
   have:=Int.mul_nonneg hc (zAi α)
   have e:(0:Int) * γ * γ + c' * α * α - 2*0 * α * γ = c'*(α * α):=by grind
   omega
 have k:E*E*(a*c - b*b)=D*D*(a'*c' - b'*b')+D*(a' * γ * γ + c' * α * α - 2*b' * α * γ):=by grind
 have k1:=Int.mul_nonneg (Int.mul_nonneg (Int.le_of_lt hD) (Int.le_of_lt hD)) (show 0≤a'*c' - b'*b' by omega)
 have k2:=Int.mul_nonneg (Int.le_of_lt hD) hx
 have:=zAQ (Int.mul_pos hE hE) (show 0≤E*E*(a*c - b*b) by omega)
 omega
theorem PD.cauchy {n:Nat} {A:Nat→Nat→Int} (h:PD n A) {i j:Nat} (hi:i < n) (hj:j < n):∀ d r,r+d=n→dmin A r i j*dmin A r i j≤dmin A r i i*dmin A r j j:=by
 intro d
 induction d with
 | zero=>intro r hr;rw [zAy A r i j om,zAy A r i i om];simp
 | succ d ih =>
  intro r hr
  exact cauchy_step (h.cor r om) (h.pos (k:=r) om) (h.diag0 (r:=r+1) hi) (h.diag0 (r:=r+1) hj) (ih (r+1) om) (h.gram om hi hi) (h.gram om hj hj) (h.gram om hi hj)
theorem PD.left {n:Nat} {A:Nat→Nat→Int} (h:PD n A) {i:Nat} (hi:i < n):∀ r,r≤n→dmin A r i i≤det r A*A i i:=by
 intro r
 induction r with
 | zero=>intro _;rw [zAm];show _≤1*_;omega
 | succ r ih =>
  intro hr
  have h1:=h.gram (r:=r) om hi hi
  have h2:=zAi (dmin A r i r)
  have h3:=Int.mul_le_mul_of_nonneg_left (ih om) (Int.le_of_lt (h.cor r om))
  have h4:det (r+1) A*(det r A*A i i)=det r A*(det (r+1) A*A i i):=by grind
  exact zAp (h.pos (k:=r) om) om
theorem PD.dpos {n:Nat} {A:Nat→Nat→Int} (h:PD n A) {i:Nat} (hi:i < n):0 < A i i:=by
 have:=h.diag hi i 0 om
 rwa [zAm] at this
def Qr (n:Nat) (A:Nat→Nat→Int) (r:Nat) (x:Nat→Int):Int:=sm n fun i=>x i*sm n fun j=>dmin A r i j*x j
def Yr (n:Nat) (A:Nat→Nat→Int) (r:Nat) (x:Nat→Int):Int:=sm n fun j=>dmin A r j r*x j
theorem sm_sub (n:Nat) (f g:Nat→Int):sm n (fun i=>f i - g i)=sm n f - sm n g:=by
 induction n with
 | zero=>rfl
 | succ n ih=>simp only [sm];rw [ih];omega
theorem PD.qstep {n:Nat} {A:Nat→Nat→Int} (h:PD n A) {r:Nat} (hr:r < n) (x:Nat→Int):det r A*Qr n A (r+1) x=det (r+1) A*Qr n A r x - Yr n A r x*Yr n A r x:=by
 unfold Qr
 rw [← zAY,← zAY]
 have e1:Yr n A r x*Yr n A r x=sm n fun i=>x i*dmin A r i r*Yr n A r x:=by
  conv=>lhs;arg 1;unfold Yr
  rw [Int.mul_comm,← zAY]
  exact zAC fun i hi=>by grind
 rw [e1,← sm_sub]
 refine zAC fun i hi=>?_
 have e2:det r A*(x i*sm n fun j=>dmin A (r+1) i j*x j)=x i*sm n fun j=>(det (r+1) A*dmin A r i j - dmin A r i r*dmin A r j r)*x j:=by
  rw [Int.mul_left_comm,← zAY]
  congr 1
  exact zAC fun j hj=>by rw [← h.gram hr hi hj];grind
 have e3:(sm n fun j=>(det (r+1) A*dmin A r i j - dmin A r i r*dmin A r j r)*x j)=det (r+1) A*(sm n fun j=>dmin A r i j*x j) - dmin A r i r*Yr n A r x:=by
  unfold Yr
  rw [← zAY,← zAY,← sm_sub]
  exact zAC fun j hj=>by grind
 rw [e2,e3]
 grind
theorem Qr_end {n:Nat} (A:Nat→Nat→Int) (x:Nat→Int):Qr n A n x=0:=by
 unfold Qr
 refine zA5 fun i hi=>?_
 rw [zA5 fun j hj=>by rw [zAy A n i j hj,Int.zero_mul],Int.mul_zero]
theorem PD.qpos {n:Nat} {A:Nat→Nat→Int} (h:PD n A) (x:Nat→Int):∀ d r,r+d=n→0≤Qr n A r x:=by
 intro d
 induction d with
 | zero =>
      intro r hr;obtain rfl:r=n:=by omega
      rw [Qr_end];exact Int.le_refl _
 | succ d ih =>
  intro r hr
  have h1:=h.qstep (r:=r) om x
  have h2:=Int.mul_nonneg (Int.le_of_lt (h.pos (k:=r) om)) (ih (r+1) om)
  have h3:=zAi (Yr n A r x)
  exact zAQ (h.cor r om) om
def bf (n:Nat) (A:Nat→Nat→Int) (x y:Nat→Int):Int:=sm n fun i=>x i*sm n fun j=>A i j*y j
def qf (n:Nat) (A:Nat→Nat→Int) (x:Nat→Int):Int:=bf n A x x
theorem Qr_zero {n:Nat} (A:Nat→Nat→Int) (x:Nat→Int):Qr n A 0 x=qf n A x:=by
 unfold Qr qf bf
 refine zAC fun i hi=>?_
 congr 1
 exact zAC fun j hj=>by rw [zAm]
theorem PD.qf_nonneg {n:Nat} {A:Nat→Nat→Int} (h:PD n A) (x:Nat→Int):0≤qf n A x:=by
 have:=h.qpos x n 0 om;rwa [Qr_zero] at this
theorem zC0 (n:Nat) (A:Nat→Nat→Int) (x y z:Nat→Int):bf n A (fun i=>x i+y i) z=bf n A x z+bf n A y z:=by
 unfold bf;rw [← zCT];exact zAC fun i hi=>by grind
theorem zBI (n:Nat) (A:Nat→Nat→Int) (a:Int) (x z:Nat→Int):bf n A (fun i=>a*x i) z=a*bf n A x z:=by
 unfold bf;rw [← zAY];exact zAC fun i hi=>by grind
theorem zBl (n:Nat) (A:Nat→Nat→Int) (x y z:Nat→Int):bf n A x (fun i=>y i+z i)=bf n A x y+bf n A x z:=by
 unfold bf;rw [← zCT]
 refine zAC fun i hi=>?_
 rw [← Int.mul_add,← zCT]
 congr 1
 exact zAC fun j hj=>by grind
theorem zA8 (n:Nat) (A:Nat→Nat→Int) (a:Int) (x z:Nat→Int):bf n A x (fun i=>a*z i)=a*bf n A x z:=by
 unfold bf;rw [← zAY]
 refine zAC fun i hi=>?_
 have e:(sm n fun j=>A i j*(a*z j))=a*sm n fun j=>A i j*z j:=by rw [← zAY];exact zAC fun j hj=>Int.mul_left_comm _ _ _
 rw [e,Int.mul_left_comm]
theorem bf_comm {n:Nat} {A:Nat→Nat→Int} (hs:∀ i j,i < n→j < n→A i j=A j i) (x y:Nat→Int):bf n A x y=bf n A y x:=by
 have e:∀ u v:Nat→Int,bf n A u v=sm n fun i=>sm n fun j=>u i*(A i j*v j):=by
  intro u v;unfold bf;exact zAC fun i hi=>by rw [← zAY]
 rw [e x y,e y x,zCG]
 exact zAC fun i hi=>zAC fun j hj=>by rw [hs j i hj hi];grind
theorem PD.cs {n:Nat} {A:Nat→Nat→Int} (h:PD n A) (x z:Nat→Int) (hz:0 < qf n A z):bf n A x z*bf n A x z≤qf n A x*qf n A z:=by
 have h1:=h.qf_nonneg (fun i=>qf n A z*x i + -bf n A x z*z i)
 have e:qf n A (fun i=>qf n A z*x i + -bf n A x z*z i)=qf n A z*(qf n A z*qf n A x - bf n A x z*bf n A x z):=by
  show bf n A _ _=_
  rw [zC0,zBl,zBl,zBI,zBI,zBI,zBI,zA8,zA8,zA8,zA8,bf_comm h.sym z x]
  show _=bf n A z z*(bf n A z z*bf n A x x - _)
  generalize bf n A x z=b
  show bf n A z z*(bf n A z z*bf n A x x)+bf n A z z*(-b*b)+(-b*(bf n A z z*b) + -b*(-b*bf n A z z))=_
  grind
 rw [e] at h1
 have:=zAQ hz h1
 have e2:=Int.mul_comm (qf n A z) (qf n A x)
 omega
end Go.Proofs.YtdkgilioejdmeaaGreat
namespace Go.Proofs.YtdkgilioejdmeaaGreat
theorem det_unit {B:Nat}:∀ (d r j:Nat) (M:Nat→Nat→Int),j+d=r→(∀ c,c < r+1→M r c=if c=j then 1 else 0)→(∀ i c,i < r→c < r+1→(M i c).natAbs≤B)→(det (r+1) M).natAbs≤fct r*B ^ r:=by
 intro d
 induction d with
 | zero =>
  intro r j M hj h1 h2
  obtain rfl:j=r:=by omega
  rw [zBu (fun y hy=>by rw [h1 y om,if_neg om]),h1 j om,if_pos rfl,Int.mul_one]
  exact zC6 fun i c hi hc=>h2 i c hi om
 | succ d ih =>
  intro r j M hj h1 h2
  have hs:∀ c,c < r+1→swp j c < r+1:=fun c hc=>by unfold swp;(repeat' split) <;> omega
  have:=ih r (j+1) (fun i c=>M i (swp j c)) om (fun c hc=>by
   show M r (swp j c)=_
   rw [h1 _ (hs c hc)]
   unfold swp
   by_cases e1:c=j
   ·rw [if_pos e1,if_neg om,if_neg om]
   ·rw [if_neg e1]
    by_cases e2:c=j+1
    ·rw [if_pos e2,if_pos rfl,if_pos e2]
    ·rw [if_neg e2,if_neg e1,if_neg e2]) (fun i c hi hc=>h2 i _ hi (hs c hc))
  rw [zCA j om,Int.natAbs_neg] at this
  exact this
def unitB (n j:Nat) (A:Nat→Nat→Int):Nat→Nat→Int:=fun i c=>if i=n then (if c=j then 1 else 0) else A i c
def dualZ (n j:Nat) (A:Nat→Nat→Int) (l:Nat):Int:=cof (unitB n j A) n n l
theorem dualZ_col {n j:Nat} {A:Nat→Nat→Int} {c:Nat} (hc:c < n):sm n (fun l=>dualZ n j A l*A l c)=if c=j then - det n A else 0:=by
 have h:=zCs (unitB n j A) n n c
 rw [zAy _ _ _ _ hc] at h
 have e1:sm n (fun l=>cof (unitB n j A) n n l*unitB n j A l c)=sm n (fun l=>dualZ n j A l*A l c):=zAC fun l hl=>by
  show _*unitB n j A l c=_
  rw [show unitB n j A l c=A l c by unfold unitB;rw [if_neg om]];rfl
 have e2:det n (unitB n j A)=det n A:=zAI fun i c hi hc=>by unfold unitB;rw [if_neg om]
 rw [e1,e2,show unitB n j A n c=if c=j then 1 else 0 by unfold unitB;rw [if_pos rfl]] at h
 split at h <;> rename_i e
 ·rw [if_pos e];omega
 ·rw [if_neg e];omega
theorem bf_dual {n j:Nat} {A:Nat→Nat→Int} (hs:∀ i j,i < n→j < n→A i j=A j i) (hj:j < n) (x:Nat→Int):bf n A x (dualZ n j A) = - (det n A*x j):=by
 unfold bf
 rw [zBL hj (fun i hi hne=>?_)]
 ·rw [show (sm n fun c=>A j c*dualZ n j A c)=sm n (fun l=>dualZ n j A l*A l j) from zAC fun c hc=>by rw [hs j c hj hc];exact Int.mul_comm _ _]
  rw [dualZ_col hj,if_pos rfl]
  grind
 ·rw [show (sm n fun c=>A i c*dualZ n j A c)=sm n (fun l=>dualZ n j A l*A l i) from zAC fun c hc=>by rw [hs i c hi hc];exact Int.mul_comm _ _]
  rw [dualZ_col hi,if_neg hne,Int.mul_zero]
theorem dual_bound {n j B:Nat} {A:Nat→Nat→Int} (hB:∀ i c,i < n→c < n→(A i c).natAbs≤B) (hj:j < n):(dualZ n j A j).natAbs≤fct (n - 1)*B ^ (n - 1):=by
 unfold dualZ cof
 rw [Int.natAbs_mul,sgn_abs,Nat.one_mul]
 obtain ⟨r,rfl⟩:∃ r,n=r+1:=⟨n - 1,by omega⟩
 refine det_unit (B:=B) (r - j) r j _ om (fun c hc=>?_) (fun i c hi hc=>?_)
 ·rw [show skip j r=r+1 by unfold skip;rw [if_neg om],if_pos rfl]
  unfold unitB;rw [if_pos rfl]
 ·rw [if_neg (show ¬ skip j i=r+1 by unfold skip;split <;> omega)]
  have:skip j i < r+1:=by unfold skip;split <;> omega
  unfold unitB;rw [if_neg om]
  exact hB _ _ this hc
def unitV (j:Nat):Nat→Int:=fun i=>if i=j then 1 else 0
theorem qf_unit {n j:Nat} {A:Nat→Nat→Int} (hj:j < n):qf n A (unitV j)=A j j:=by
 unfold qf bf
 rw [zBL hj (fun i hi hne=>by unfold unitV;rw [if_neg hne,Int.zero_mul])]
 rw [zBL hj (fun i hi hne=>by unfold unitV;rw [if_neg hne,Int.mul_zero])]
 unfold unitV;rw [if_pos rfl];omega
theorem PD.coord {n B:Nat} {A:Nat→Nat→Int} (h:PD n A) (hB:∀ i c,i < n→c < n→(A i c).natAbs≤B) (x:Nat→Int) {j:Nat} (hj:j < n):x j*x j≤qf n A x*((fct (n - 1)*B ^ (n - 1):Nat):Int):=by
 have hD:=h.pos (k:=n) om
 have hb:=dual_bound hB hj
 have hz:qf n A (dualZ n j A) = - (det n A*dualZ n j A j):=bf_dual h.sym hj _
 have hz0:=h.qf_nonneg (dualZ n j A)
 have hz1:0 < qf n A (dualZ n j A):=by
  rcases Int.lt_or_le 0 (qf n A (dualZ n j A)) with k|k
  ·exact k
  ·have h1:=h.cs (dualZ n j A) (unitV j) (by rw [qf_unit hj];exact h.dpos hj)
   rw [bf_comm h.sym,bf_dual h.sym hj,show unitV j j=1 by unfold unitV;rw [if_pos rfl],show qf n A (dualZ n j A)=0 by omega] at h1
   have:=Int.mul_pos hD hD
   have e:-(det n A*1) * -(det n A*1)=det n A*det n A:=by grind
   omega
 have h1:=h.cs x (dualZ n j A) hz1
 rw [bf_dual h.sym hj,hz] at h1
 have hm:0 ≤ - dualZ n j A j:=by
  have:0≤det n A*(- dualZ n j A j):=by rw [Int.mul_neg];omega
  exact zAQ hD this
 have h2:det n A*(x j*x j)≤qf n A x*(- dualZ n j A j):=by
  refine zAp hD ?_
  have e1:det n A*(det n A*(x j*x j)) = -(det n A*x j) * -(det n A*x j):=by grind
  have e2:det n A*(qf n A x * -dualZ n j A j)=qf n A x * -(det n A*dualZ n j A j):=by grind
  omega
 have h3:x j*x j≤det n A*(x j*x j):=by
  have:=Int.mul_le_mul_of_nonneg_right (show (1:Int)≤det n A by omega) (zAi (x j))
  omega
 have h4:qf n A x*(- dualZ n j A j)≤qf n A x*((fct (n - 1)*B ^ (n - 1):Nat):Int):=Int.mul_le_mul_of_nonneg_left om (h.qf_nonneg x)
 omega
end Go.Proofs.YtdkgilioejdmeaaGreat
namespace Go.Proofs.YtdkgilioejdmeaaGreat
def addRow (A:Nat→Nat→Int) (i j:Nat) (q:Int):Nat→Nat→Int:=fun r c=>if r=i then A i c - q*A j c else A r c
def addCol (A:Nat→Nat→Int) (i j:Nat) (q:Int):Nat→Nat→Int:=fun r c=>if c=i then A r i - q*A r j else A r c
def rc (A:Nat→Nat→Int) (i j:Nat) (q:Int):Nat→Nat→Int:=addCol (addRow A i j q) i j q
theorem det_addRow {m i j:Nat} (A:Nat→Nat→Int) (q:Int) (hi:i < m) (hj:j < i):det m (addRow A i j q)=det m A:=by
 rw [zB9 (M:=addRow A i j q) (U:=A) (V:=fun r c=>if r=i then A j c else A r c) i 1 (-q) hi (fun c hc=>by unfold addRow;rw [if_pos rfl,if_pos rfl];grind)
  (fun r c hr hc hne=>by unfold addRow;rw [if_neg hne,if_neg hne];exact ⟨rfl,rfl⟩)]
 rw [zB8 (M:=fun r c=>if r=i then A j c else A r c) j i hj hi (fun c hc=>by rw [if_neg om,if_pos rfl])]
 omega
theorem det_addCol {m i j:Nat} (A:Nat→Nat→Int) (q:Int) (hi:i < m) (hj:j < i):det m (addCol A i j q)=det m A:=by
 rw [det_col (M:=addCol A i j q) (U:=A) (V:=fun r c=>if c=i then A r j else A r c) i 1 (-q) hi (fun c hc=>by unfold addCol;rw [if_pos rfl,if_pos rfl];grind)
  (fun r c hr hc hne=>by unfold addCol;rw [if_neg hne,if_neg hne];exact ⟨rfl,rfl⟩)]
 rw [zC7 (M:=fun r c=>if c=i then A r j else A r c) j i hj hi (fun c hc=>by rw [if_neg om,if_pos rfl])]
 omega
theorem det_rc {m i j:Nat} (A:Nat→Nat→Int) (q:Int) (hi:i < m) (hj:j < i):det m (rc A i j q)=det m A:=by
 unfold rc;rw [det_addCol _ _ hi hj,det_addRow _ _ hi hj]
theorem dmin_congr {A A':Nat→Nat→Int} {r i j:Nat} (h:∀ x y,(x < r∨x=i)→(y < r∨y=j)→A x y=A' x y):dmin A r i j=dmin A' r i j :=
 zAI fun x y hx hy=>by unfold bord;exact h _ _ (by split <;> omega) (by split <;> omega)
theorem dmin_row0 (A:Nat→Nat→Int) (r i j:Nat) (hi:i < r):dmin A r i j=0 :=
 zB8 i r hi om fun y hy=>by unfold bord;rw [if_neg (show ¬ i=r by omega),if_pos rfl]
theorem zB4 {A:Nat→Nat→Int} {i j:Nat} {q:Int} {r c:Nat} (hr:r≠i) (hc:c≠i):rc A i j q r c=A r c:=by
 unfold rc addCol addRow;rw [if_neg hc,if_neg hr]
theorem rc_row {A:Nat→Nat→Int} {i j:Nat} {q:Int} {c:Nat} (hc:c≠i):rc A i j q i c=A i c - q*A j c:=by
 unfold rc addCol addRow;rw [if_neg hc,if_pos rfl]
theorem rc_col {A:Nat→Nat→Int} {i j:Nat} {q:Int} {r:Nat} (hr:r≠i):rc A i j q r i=A r i - q*A r j:=by
 unfold rc addCol addRow;rw [if_pos rfl,if_neg hr,if_neg hr]
theorem rc_both {A:Nat→Nat→Int} {i j:Nat} {q:Int}:rc A i j q i i=A i i - q*A j i - q*(A i j - q*A j j):=by
 unfold rc addCol addRow;rw [if_pos rfl,if_pos rfl,if_pos rfl]
theorem dmin_rc_a {A:Nat→Nat→Int} {i j:Nat} (q:Int) {r k c:Nat} (hr:r≤i) (hk:k≠i) (hc:c≠i):dmin (rc A i j q) r k c=dmin A r k c :=
 dmin_congr fun x y hx hy=>zB4 om om
theorem dmin_rc_b {A:Nat→Nat→Int} {i j:Nat} (q:Int) {r c:Nat} (hr:r≤i) (hj:j < i) (hc:c≠i):dmin (rc A i j q) r i c=dmin A r i c - q*dmin A r j c:=by
 show det (r+1) (bord (rc A i j q) r i c)=_
 rw [zB9 (M:=bord (rc A i j q) r i c) (U:=bord A r i c) (V:=bord A r j c) r 1 (-q) om
  (fun y hy=>by
   simp only [bord];rw [if_pos trivial,if_pos trivial,rc_row (by split <;> omega)];grind)
  (fun x y hx hy hne=>by
   simp only [bord];rw [if_neg hne,if_neg hne]
   exact ⟨zB4 om (by split <;> omega),zB4 om (by split <;> omega)⟩)]
 show 1*dmin A r i c + -q*dmin A r j c=_
 grind
theorem dmin_rc_c {A:Nat→Nat→Int} {i j:Nat} (q:Int) {r k:Nat} (hr:r≤i) (hj:j < i) (hk:k≠i):dmin (rc A i j q) r k i=dmin A r k i - q*dmin A r k j:=by
 show det (r+1) (bord (rc A i j q) r k i)=_
 rw [det_col (M:=bord (rc A i j q) r k i) (U:=bord A r k i) (V:=bord A r k j) r 1 (-q) om
  (fun x hx=>by
   simp only [bord];rw [if_pos trivial,if_pos trivial,rc_col (by split <;> omega)];grind)
  (fun x y hx hy hne=>by
   simp only [bord];rw [if_neg hne,if_neg hne]
   exact ⟨zB4 (by split <;> omega) om,zB4 (by split <;> omega) om⟩)]
 show 1*dmin A r k i + -q*dmin A r k j=_
 grind
theorem dmin_rc_d {A:Nat→Nat→Int} {i j:Nat} (q:Int) {r k c:Nat} (hr:i < r) (hj:j < i) (hk:r≤k) (hc:r≤c):dmin (rc A i j q) r k c=dmin A r k c:=by
 show det (r+1) (bord (rc A i j q) r k c)=det (r+1) (bord A r k c)
 rw [← det_rc (bord A r k c) q (show i < r+1 by omega) hj]
 refine zAI fun x y hx hy=>?_
 have h1:¬ i=r:=by omega
 have h2:¬ j=r:=by omega
 have h3:¬ k=i:=by omega
 have h4:¬ c=i:=by omega
 have h5:¬ r=i:=by omega
 by_cases e1:x=r <;> by_cases e2:y=r <;> by_cases e3:x=i <;> by_cases e4:y=i <;> simp [rc,addCol,addRow,bord,h1,h2,h3,h4,h5,e1,e2,e3,e4]
theorem zBW {A:Nat→Nat→Int} {i j:Nat} (q:Int) (hj:j < i) (r:Nat):det r (rc A i j q)=det r A:=by
 by_cases h:r≤i
 ·exact zAI fun x y hx hy=>zB4 om om
 ·exact det_rc A q om hj
theorem PD.rc {n:Nat} {A:Nat→Nat→Int} (h:PD n A) {i j:Nat} (q:Int) (hi:i < n) (hj:j < i):PD n (rc A i j q):=by
 refine ⟨fun x y hx hy=>?_,fun k hk=>by rw [zBW q hj];exact h.cor k hk⟩
 by_cases e1:x=i <;> by_cases e2:y=i
 ·rw [e1,e2]
 ·subst e1;rw [rc_row e2,rc_col e2,h.sym x y hx hy,h.sym j y om hy]
 ·subst e2;rw [rc_row e1,rc_col e1,h.sym x y hx hy,h.sym x j hx om]
 ·rw [zB4 e1 e2,zB4 e2 e1];exact h.sym x y hx hy
theorem PD.rc_L {n:Nat} {A:Nat→Nat→Int} (h:PD n A) {i j:Nat} (q:Int) (hi:i < n) (hj:j < i) {k c:Nat} (hk:k < n) (hc:c < k) :
  dmin (Go.Proofs.YtdkgilioejdmeaaGreat.rc A i j q) c k c=if k=i∧c≤j then dmin A c i c - q*dmin A c j c else dmin A c k c:=by
 by_cases e:k=i
 ·subst e
  rw [dmin_rc_b q om hj om]
  by_cases e2:c≤j
  ·rw [if_pos ⟨rfl,e2⟩]
  ·rw [if_neg om,dmin_row0 A c j c om];omega
 ·rw [if_neg om]
  by_cases e2:c < i
  ·exact dmin_rc_a q om e om
  ·by_cases e3:c=i
   ·subst e3
    rw [dmin_rc_c q om hj e,zAy A c k j hj];omega
   ·exact dmin_rc_d q om hj om om
def swA (A:Nat→Nat→Int) (k:Nat):Nat→Nat→Int:=fun i j=>A (swp k i) (swp k j)
theorem zCU {k i n:Nat} (hk:k+1 < n) (hi:i < n):swp k i < n:=by unfold swp;(repeat' split) <;> omega
theorem zDL {k i:Nat} (hi:i < k):swp k i=i:=by unfold swp;rw [if_neg om,if_neg om]
theorem swp_a (k:Nat):swp k k=k+1:=by unfold swp;rw [if_pos rfl]
theorem swp_b (k:Nat):swp k (k+1)=k:=by unfold swp;rw [if_neg om,if_pos rfl]
theorem zBn {A:Nat→Nat→Int} {k m:Nat} (hm:k+1 < m∨m≤k):det m (swA A k)=det m A:=by
 rcases hm with hm|hm
 ·have h1:=zC9 (n:=m) (M:=fun i j=>A i (swp k j)) k hm
  have h2:=zCA (n:=m) (M:=A) k hm
  show det m (fun i j=>A (swp k i) (swp k j))=_
  rw [h1,h2];omega
 ·exact zAI fun x y hx hy=>by unfold swA;rw [zDL om,zDL om]
theorem zC8 {A:Nat→Nat→Int} {k:Nat}:det (k+1) (swA A k)=dmin A k (k+1) (k+1):=by
 refine zAI fun x y hx hy=>?_
 have e:∀ z,z < k+1→swp k z=if z=k then k+1 else z:=fun z hz=>by
  unfold swp
  by_cases e1:z=k
  ·rw [if_pos e1,if_pos e1]
  ·rw [if_neg e1,if_neg e1,if_neg om]
 unfold swA bord
 rw [e x hx,e y hy]
theorem PD.swA {n:Nat} {A:Nat→Nat→Int} (h:PD n A) {k:Nat} (hk:k+1 < n):PD n (swA A k):=by
 refine ⟨fun i j hi hj=>h.sym _ _ (zCU hk hi) (zCU hk hj),fun m hm=>?_⟩
 by_cases e:m=k
 ·subst e;rw [zC8];exact h.diag hk 1 m rfl
 ·rw [zBn om];exact h.cor m hm
theorem PD.swA_mid {n:Nat} {A:Nat→Nat→Int} (h:PD n A) {k:Nat} (hk:k+1 < n) :
  det (k+1) A*det (k+1) (Go.Proofs.YtdkgilioejdmeaaGreat.swA A k)=det k A*det (k+2) A+dmin A k (k+1) k*dmin A k (k+1) k:=by
 rw [zC8]
 have h1:=h.gram (r:=k) om hk hk
 rw [zAX] at h1
 have h2:det k A*det (k+2) A=det (k+1) A*dmin A k (k+1) (k+1) - dmin A k (k+1) k*dmin A k (k+1) k:=h1
 omega
theorem PD.swA_L {n:Nat} {A:Nat→Nat→Int} {k r i j:Nat} (hr:r≤k) (hi:i < k) (hj:j < k):dmin (Go.Proofs.YtdkgilioejdmeaaGreat.swA A k) r i j=dmin A r i j :=
 dmin_congr fun x y hx hy=>by show A _ _=_;rw [zDL om,zDL om]
end Go.Proofs.YtdkgilioejdmeaaGreat
namespace Go.Proofs.YtdkgilioejdmeaaGreat
open Go.RowKit
theorem zA2 {z:Int} (h:z.natAbs < 2 ^ 4096):fitZ z=z:=by unfold fitZ;rw [if_pos ((zAW _ _).2 h)]
theorem exactZ_mul {b c:Int} (hb:b≠0):exactZ (b*c) b=c:=by
 unfold exactZ
 rw [if_neg hb,if_pos (Int.mul_emod_right _ _),Int.mul_ediv_cancel_left _ hb]
theorem fct_bound {r:Nat} (h:r < 8):fct (r+1)*16384 ^ (r+1)≤2 ^ 128:=by
 have:r=0∨r=1∨r=2∨r=3∨r=4∨r=5∨r=6∨r=7:=by omega
 rcases this with rfl|rfl|rfl|rfl|rfl|rfl|rfl|rfl <;> decide
theorem pow_big_of (a b:Nat) (h:a+a+1 < b):2 ^ a*2 ^ a+2 ^ a*2 ^ a < 2 ^ b:=by
 rw [← Nat.pow_add,← Nat.mul_two,← Nat.pow_succ];exact Nat.pow_lt_pow_right om h
theorem pow_big:2 ^ 128*2 ^ 128+2 ^ 128*2 ^ 128 < 2 ^ 4096:=pow_big_of 128 4096 om
theorem bar_num {a b c d last x:Int} (ha:a.natAbs≤2 ^ 128) (hb:b.natAbs≤2 ^ 128) (hc:c.natAbs≤2 ^ 128) (hd:d.natAbs≤2 ^ 128) (hl:last≠0) (h:last*x=a*b - c*d) :
  exactZ (fitZ (fitZ (a*b) - fitZ (c*d))) last=x:=by
 have h1:(a*b).natAbs≤2 ^ 128*2 ^ 128:=by rw [Int.natAbs_mul];exact Nat.mul_le_mul ha hb
 have h2:(c*d).natAbs≤2 ^ 128*2 ^ 128:=by rw [Int.natAbs_mul];exact Nat.mul_le_mul hc hd
 have h3:(a*b - c*d).natAbs≤(a*b).natAbs+(c*d).natAbs:=by
  have:=Int.natAbs_add_le (a*b) (-(c*d));rw [Int.natAbs_neg] at this;rw [Int.sub_eq_add_neg];exact this
 have q:∀ z:Int,z.natAbs≤2 ^ 128*2 ^ 128+2 ^ 128*2 ^ 128→fitZ z=z:=fun z hz=>zA2 (Nat.lt_of_le_of_lt hz pow_big)
 generalize (2:Nat) ^ 128*2 ^ 128=B at *
 rw [q (a*b) om,q (c*d) om,q (a*b - c*d) om,← h]
 exact exactZ_mul hl
def SmallM (n:Nat) (A:Nat→Nat→Int):Prop:=∀ i j,i < n→j < n→(A i j).natAbs≤16384
theorem SmallM.dmin {n:Nat} {A:Nat→Nat→Int} (h:SmallM n A) (hn:n≤8) {r i j:Nat} (hi:i < n) (hj:j < n) (hr:r < n):(dmin A r i j).natAbs≤2 ^ 128 :=
 Nat.le_trans (dmin_bound h hi hj hr) (fct_bound om)
theorem barPos_det {n:Nat} {A:Nat→Nat→Int} (hA:SmallM n A) (hn:n≤8):∀ (fuel r:Nat) (last:Int) (m:Nat→Nat→Int),r+fuel=n→last=det r A→last≠0→(∀ i k,r≤i→i < n→r≤k→k < n→m i k=dmin A r i k) →
  (barPos n fuel r last m=true↔∀ k,r≤k→k < n→0 < det (k+1) A):=by
 intro fuel
 induction fuel with
 | zero=>intro r last m hr _ _ _;unfold barPos;exact ⟨fun _ k h1 h2=>by omega,fun _=>rfl⟩
 | succ fuel ih =>
  intro r last m hr hl h0 hm
  unfold barPos
  have e:m r r=det (r+1) A:=by rw [hm r r om om om om,zAX]
  by_cases hp:m r r≤0
  ·rw [if_pos hp]
   exact ⟨(fun h=>by cases h),(fun h=>by have:=h r om om;omega)⟩
  ·rw [if_neg hp]
   rw [ih (r+1) (m r r) (barStep n r last m) om e om (fun i k h1 h2 h3 h4=>by
    unfold barStep
    rw [if_pos ⟨by omega,h2,by omega,h4⟩]
    unfold barNew
    rw [hm r r om om om om,hm i k om h2 om h4,hm i r om h2 om om,hm r k om om om h4]
    refine bar_num (hA.dmin hn om om om) (hA.dmin hn h2 h4 om) (hA.dmin hn h2 om om) (hA.dmin hn om h4 om) h0 ?_
    rw [hl];exact sylvester A r i k (by rw [← hl];exact h0))]
   constructor
   ·intro h k h1 h2
    by_cases q:k=r
    ·subst q;omega
    ·exact h k om h2
   ·intro h k h1 h2;exact h k om h2
theorem posB_det {n:Nat} {A:Nat→Nat→Int} (hA:SmallM n A) (hn:n≤8):posB n A=true↔∀ k,k < n→0 < det (k+1) A:=by
 unfold posB
 rw [barPos_det hA hn n 0 1 A om rfl (by decide) (fun i k _ _ _ _=>(zAm A i k).symm)]
 exact ⟨fun h k hk=>h k om hk,fun h k _ hk=>h k hk⟩
end Go.Proofs.YtdkgilioejdmeaaGreat
namespace Go.Proofs.YtdkgilioejdmeaaGreat
set_option exponentiation.threshold 5000
structure Fits (n:Nat) (a:Nat→Nat→Int):Prop where
 f1:∀ r i j,r < n→i < n→j < n→(det (r+1) a*dmin a r i j).natAbs < 2 ^ 4095
 f2:∀ r i j,r < n→i < n→j < n→(dmin a r i r*dmin a r j r).natAbs < 2 ^ 4095
theorem pow_twice (k:Nat):(2:Nat) ^ k+2 ^ k=2 ^ (k+1):=by rw [Nat.pow_succ];omega
theorem pow_4095:(2:Nat) ^ 4095+2 ^ 4095=2 ^ 4096:=pow_twice 4095
theorem fit_sub {x y:Int} (h1:x.natAbs < 2 ^ 4095) (h2:y.natAbs < 2 ^ 4095):fitZ (fitZ x - fitZ y)=x - y:=by
 have e:=pow_4095
 generalize hT:(2:Nat) ^ 4095=T at *
 generalize hS:(2:Nat) ^ 4096=S at *
 rw [zA2 (z:=x) (by rw [hS];omega),zA2 (z:=y) (by rw [hS];omega),zA2 (by rw [hS];omega)]
theorem entU_spec {n k j:Nat} {a c:Nat→Nat→Int} (h:PD n a) (hf:Fits n a) (hk:k < n) (hj:j≤k) (hD:∀ i,i≤k→c (2*n) i=det i a) (hA:c k j=a k j)
  (hLk:∀ i,i < j→c (2*n+1+k) i=dmin a i k i) (hLj:∀ i,i < j→c (2*n+1+j) i=dmin a i j i):∀ i,i≤j→entU n c k j i=dmin a i k j:=by
 intro i
 induction i with
 | zero=>intro _;rw [zAm];exact hA
 | succ i ih =>
  intro hi
  show exactZ (fitZ (fitZ (c (2*n) (i+1)*entU n c k j i) - fitZ (c (2*n+1+k) i*c (2*n+1+j) i))) (c (2*n) i)=_
  rw [ih om,hD (i+1) om,hD i om,hLk i om,hLj i om,fit_sub (hf.f1 i k j om hk om) (hf.f2 i k j om hk om)]
  rw [← h.gram om hk om]
  exact exactZ_mul (by have:=h.pos (k:=i) om;omega)
structure ColOK (n k j:Nat) (a ct c:Nat→Nat→Int):Prop where
 far:∀ s t,s≠2*n+1+k→(s≠2*n∨t≠k+1)→c s t=ct s t
 row:∀ i,i < j→i < k→c (2*n+1+k) i=dmin a i k i
 det:k < j→c (2*n) (k+1)=det (k+1) a
theorem colP_spec {n k:Nat} {a ct:Nat→Nat→Int} (h:PD n a) (hf:Fits n a) (hk:k < n) (hD:∀ i,i≤k→ct (2*n) i=det i a) (hA:∀ i j,i < n→j < n→ct i j=a i j)
  (hL:∀ i j,i < k→j < i→ct (2*n+1+i) j=dmin a j i j):∀ j,j≤k+1→ColOK n k j a ct (colP n ct k j):=by
 intro j
 induction j with
 | zero=>intro _;exact ⟨fun s t h1 h2=>by show (if _ then _ else _)=_;rw [if_neg h1],fun i hi=>by omega,fun hi=>by omega⟩
 | succ j ih =>
  intro hj
  obtain ⟨i1,i2,i3⟩:=ih om
  have he:entU n (colP n ct k j) k j j=dmin a j k j:=by
   refine entU_spec h hf hk om (fun i hi=>?_) ?_ (fun i hi=>i2 i hi om) (fun i hi=>?_) j (Nat.le_refl _)
   ·rw [i1 (2*n) i om (Or.inr om)];exact hD i hi
   ·rw [i1 k j om (Or.inl om)];exact hA k j hk om
   ·by_cases e:j=k
    ·subst e;exact i2 i hi om
    ·rw [i1 (2*n+1+j) i om (Or.inl om)];exact hL j i om hi
  show ColOK n k (j+1) a ct (if j < k then put (colP n ct k j) (2*n+1+k) j (entU n (colP n ct k j) k j j) else put (colP n ct k j) (2*n) (k+1) (entU n (colP n ct k j) k j j))
  rw [he]
  by_cases e:j < k
  ·rw [if_pos e]
   refine ⟨fun s t h1 h2=>?_,fun i hi hik=>?_,fun hi=>by omega⟩
   ·unfold put;rw [if_neg om];exact i1 s t h1 h2
   ·unfold put
    by_cases e2:i=j
    ·subst e2;rw [if_pos ⟨rfl,rfl⟩]
    ·rw [if_neg om];exact i2 i om hik
  ·obtain rfl:j=k:=by omega
   rw [if_neg e]
   refine ⟨fun s t h1 h2=>?_,fun i hi hik=>?_,fun hi=>?_⟩
   ·unfold put;rw [if_neg om];exact i1 s t h1 h2
   ·unfold put;rw [if_neg om];exact i2 i hik hik
   ·unfold put;rw [if_pos ⟨rfl,rfl⟩,zAX]
structure LatTo (n k:Nat) (a ct:Nat→Nat→Int):Prop where
 A:∀ i j,i < n→j < n→ct i j=a i j
 D:∀ i,i≤k→ct (2*n) i=det i a
 L:∀ i j,i < k→j < i→ct (2*n+1+i) j=dmin a j i j
theorem rowP_spec {n k:Nat} {a ct:Nat→Nat→Int} (h:PD n a) (hf:Fits n a) (hk:k < n) (hL:LatTo n k a ct):LatTo n (k+1) a (rowP n ct k)∧∀ s t,s < 2*n→rowP n ct k s t=ct s t:=by
 obtain ⟨c1,c2,c3⟩:=colP_spec h hf hk hL.D hL.A hL.L (k+1) (Nat.le_refl _)
 refine ⟨⟨fun i j hi hj=>?_,fun i hi=>?_,fun i j hi hj=>?_⟩,fun s t hs=>c1 s t om (Or.inl om)⟩
 ·show colP n ct k (k+1) i j=_
  rw [c1 i j om (Or.inl om)];exact hL.A i j hi hj
 ·show colP n ct k (k+1) _ _=_
  by_cases e:i=k+1
  ·subst e;exact c3 om
  ·rw [c1 _ i om (Or.inr om)];exact hL.D i om
 ·show colP n ct k (k+1) _ _=_
  by_cases e:i=k
  ·subst e;exact c2 j om hj
  ·rw [c1 _ j om (Or.inl om)];exact hL.L i j om hj
theorem zDF {n fr:Nat} {a ct:Nat→Nat→Int} (h:PD n a) (hf:Fits n a) (hA:∀ i j,i < n→j < n→ct i j=a i j) (hD:∀ i,1≤i→i≤fr→ct (2*n) i=det i a) (hL:∀ i j,i < fr→j < i→ct (2*n+1+i) j=dmin a j i j) :
  ∀ m,fr+m≤n→LatTo n (fr+m) a (partsP n ct fr m)∧∀ s t,s < 2*n→partsP n ct fr m s t=ct s t:=by
 intro m
 induction m with
 | zero =>
  intro _
  refine ⟨⟨fun i j hi hj=>?_,fun i hi=>?_,fun i j hi hj=>?_⟩,fun s t hs=>?_⟩
  ·show put ct (2*n) 0 1 i j=_
   unfold put;rw [if_neg om];exact hA i j hi hj
  ·show put ct (2*n) 0 1 _ i=_
   unfold put
   by_cases e:i=0
   ·subst e;rw [if_pos ⟨rfl,rfl⟩];rfl
   ·rw [if_neg om];exact hD i om hi
  ·show put ct (2*n) 0 1 _ j=_
   unfold put;rw [if_neg om];exact hL i j hi hj
  ·show put ct (2*n) 0 1 s t=_
   unfold put;rw [if_neg om]
 | succ m ih =>
  intro hm
  obtain ⟨i1,i2⟩:=ih om
  obtain ⟨r1,r2⟩:=rowP_spec h hf om i1
  exact ⟨r1,fun s t hs=>(r2 s t hs).trans (i2 s t hs)⟩
end Go.Proofs.YtdkgilioejdmeaaGreat
namespace Go.Proofs.YtdkgilioejdmeaaGreat
set_option exponentiation.threshold 5000
structure SmQ (q x y:Int):Prop where
 x:x.natAbs < 2 ^ 4095
 y:(q*y).natAbs < 2 ^ 4095
theorem SmQ.eq {q x y:Int} (h:SmQ q x y):subMul q x y=x - q*y:=by
 have e:=pow_4095
 obtain ⟨h1,h2⟩:=h
 unfold subMul
 generalize hT:(2:Nat) ^ 4095=T at *
 generalize hS:(2:Nat) ^ 4096=S at *
 rw [zA2 (z:=q*y) (by rw [hS];omega),zA2 (by rw [hS];omega)]
theorem shA_spec {n i j:Nat} {q:Int} {ct:Nat→Nat→Int} (hi:i < n) (hj:j < i) (hs:∀ t,t < n→SmQ q (ct (n+i) t) (ct (n+j) t)∧SmQ q (ct i t) (ct j t)) :
  ∀ m,m≤n→∀ s t,shA n i j q ct m s t=if s=n+i∧t < m then ct (n+i) t - q*ct (n+j) t else if s=i∧t < m then ct i t - q*ct j t else ct s t:=by
 intro m
 induction m with
 | zero=>intro _ s t;show ct s t=_;rw [if_neg om,if_neg om]
 | succ m ih =>
  intro hm s t
  have ih:=ih om
  show put (put (shA n i j q ct m) (n+i) m (subMul q (shA n i j q ct m (n+i) m) (shA n i j q ct m (n+j) m))) i m (subMul q (shA n i j q ct m i m) (shA n i j q ct m j m)) s t=_
  rw [show shA n i j q ct m (n+i) m=ct (n+i) m by rw [ih,if_neg om,if_neg om],show shA n i j q ct m (n+j) m=ct (n+j) m by rw [ih,if_neg om,if_neg om],
   show shA n i j q ct m i m=ct i m by rw [ih,if_neg om,if_neg om],show shA n i j q ct m j m=ct j m by rw [ih,if_neg om,if_neg om],(hs m om).1.eq,(hs m om).2.eq]
  unfold put
  by_cases e1:s=i∧t=m
  ·rw [if_pos e1,if_neg om,if_pos om,e1.2]
  ·rw [if_neg e1]
   by_cases e2:s=n+i∧t=m
   ·rw [if_pos e2,if_pos om,e2.2]
   ·rw [if_neg e2,ih]
    by_cases e3:s=n+i∧t < m
    ·rw [if_pos e3,if_pos om]
    ·rw [if_neg e3,if_neg (show ¬ (s=n+i∧t < m+1) by omega)]
     by_cases e4:s=i∧t < m
     ·rw [if_pos e4,if_pos om]
     ·rw [if_neg e4,if_neg om]
theorem shC_spec {i j:Nat} {q:Int} {ct:Nat→Nat→Int} (hj:j < i) (N:Nat) (hs:∀ s,s < N→SmQ q (ct s i) (ct s j)) :
  ∀ m,m≤N→∀ s t,shC i j q ct m s t=if t=i∧s < m then ct s i - q*ct s j else ct s t:=by
 intro m
 induction m with
 | zero=>intro _ s t;show ct s t=_;rw [if_neg om]
 | succ m ih =>
  intro hm s t
  have ih:=ih om
  show put (shC i j q ct m) m i (subMul q (shC i j q ct m m i) (shC i j q ct m m j)) s t=_
  rw [show shC i j q ct m m i=ct m i by rw [ih,if_neg om],show shC i j q ct m m j=ct m j by rw [ih,if_neg om],(hs m om).eq]
  unfold put
  by_cases e1:s=m∧t=i
  ·rw [if_pos e1,if_pos om,e1.1]
  ·rw [if_neg e1,ih]
   by_cases e4:t=i∧s < m
   ·rw [if_pos e4,if_pos om]
   ·rw [if_neg e4,if_neg om]
theorem shL_spec {n i j:Nat} {q:Int} {ct:Nat→Nat→Int} (hj:j < i) (hs:∀ t,t < j→SmQ q (ct (2*n+1+i) t) (ct (2*n+1+j) t)) :
  ∀ m,m≤j→∀ s t,shL n i j q ct m s t=if s=2*n+1+i∧t < m then ct (2*n+1+i) t - q*ct (2*n+1+j) t else ct s t:=by
 intro m
 induction m with
 | zero=>intro _ s t;show ct s t=_;rw [if_neg om]
 | succ m ih =>
  intro hm s t
  have ih:=ih om
  show put (shL n i j q ct m) (2*n+1+i) m (subMul q (shL n i j q ct m (2*n+1+i) m) (shL n i j q ct m (2*n+1+j) m)) s t=_
  rw [show shL n i j q ct m (2*n+1+i) m=ct (2*n+1+i) m by rw [ih,if_neg om],show shL n i j q ct m (2*n+1+j) m=ct (2*n+1+j) m by rw [ih,if_neg om],(hs m om).eq]
  unfold put
  by_cases e1:s=2*n+1+i∧t=m
  ·rw [if_pos e1,if_pos om,e1.2]
  ·rw [if_neg e1,ih]
   by_cases e4:s=2*n+1+i∧t < m
   ·rw [if_pos e4,if_pos om]
   ·rw [if_neg e4,if_neg om]
structure ShFits (n i j:Nat) (q:Int) (a u:Nat→Nat→Int):Prop where
 U:∀ t,t < n→SmQ q (u i t) (u j t)
 A:∀ t,t < n→SmQ q (a i t) (a j t)
 C:∀ s,s < n→SmQ q (addRow a i j q s i) (addRow a i j q s j)
 L:∀ t,t < j→SmQ q (dmin a t i t) (dmin a t j t)
 D:SmQ q (dmin a j i j) (det (j+1) a)
structure LatOK (n:Nat) (a u ct:Nat→Nat→Int):Prop where
 lat:LatTo n n a ct
 U:∀ i j,i < n→j < n→ct (n+i) j=u i j
theorem LatOK.shQ {n i j:Nat} {q d:Int} {a u ct:Nat→Nat→Int} (h:LatOK n a u ct) (hp:PD n a) (hi:i < n) (hj:j < i) (hd:d=det (j+1) a) (hs:ShFits n i j q a u) :
  LatOK n (rc a i j q) (addRow u i j q) (shQ n i j q d ct):=by
 subst hd
 have e1:=shA_spec (q:=q) hi hj (ct:=ct) (fun t ht=>⟨by rw [h.U i t hi ht,h.U j t om ht];exact hs.U t ht,by rw [h.lat.A i t hi ht,h.lat.A j t om ht];exact hs.A t ht⟩) n (Nat.le_refl _)
 generalize hc1:shA n i j q ct n=c1 at e1
 have hA1:∀ s t,s < n→t < n→c1 s t=addRow a i j q s t:=by
  intro s t h1 h2
  rw [e1,if_neg om]
  unfold addRow
  by_cases e:s=i
  ·subst e;rw [if_pos ⟨rfl,h2⟩,if_pos rfl,h.lat.A s t hi h2,h.lat.A j t om h2]
  ·rw [if_neg om,if_neg e,h.lat.A s t h1 h2]
 have e2:=shC_spec (q:=q) (i:=i) hj n (ct:=c1) (fun s h1=>by rw [hA1 s i h1 hi,hA1 s j h1 om];exact hs.C s h1) n (Nat.le_refl _)
 generalize hc2:shC i j q c1 n=c2 at e2
 have hL2:∀ r t,r < n→t < r→c2 (2*n+1+r) t=dmin a t r t:=by
  intro r t h1 h2
  rw [e2,if_neg om,e1,if_neg om,if_neg om];exact h.lat.L r t h1 h2
 have e3:=shL_spec (q:=q) (n:=n) hj (ct:=c2) (fun t ht=>by rw [hL2 i t hi om,hL2 j t om ht];exact hs.L t ht) j (Nat.le_refl _)
 generalize hc3:shL n i j q c2 j=c3 at e3
 have hf:∀ s t,Go.Proofs.YtdkgilioejdmeaaGreat.shQ n i j q (det (j+1) a) ct s t=put c3 (2*n+1+i) j (subMul q (c3 (2*n+1+i) j) (det (j+1) a)) s t:=by
  intro s t;unfold Go.Proofs.YtdkgilioejdmeaaGreat.shQ;rw [hc1,hc2,hc3]
 have hl:c3 (2*n+1+i) j=dmin a j i j:=by rw [e3,if_neg om];exact hL2 i j hi hj
 rw [hl,hs.D.eq] at hf
 refine ⟨⟨fun s t h1 h2=>?_,fun k hk=>?_,fun r t h1 h2=>?_⟩,fun s t h1 h2=>?_⟩
 ·rw [hf]
  unfold put
  rw [if_neg om,e3,if_neg om,e2]
  by_cases e:t=i
  ·subst e
   rw [if_pos ⟨rfl,h1⟩,hA1 s t h1 hi,hA1 s j h1 om]
   unfold rc addCol;rw [if_pos rfl]
  ·rw [if_neg om,hA1 s t h1 h2]
   unfold rc addCol;rw [if_neg e]
 ·rw [hf]
  unfold put
  rw [if_neg om,e3,if_neg om,e2,if_neg om,e1,if_neg om,if_neg om,zBW q hj]
  exact h.lat.D k hk
 ·rw [hf,hp.rc_L q hi hj h1 h2]
  unfold put
  by_cases e:r=i
  ·subst e
   by_cases e5:t=j
   ·subst e5;rw [if_pos ⟨rfl,rfl⟩,if_pos ⟨rfl,Nat.le_refl _⟩,zAX]
   ·rw [if_neg om,e3]
    by_cases e6:t < j
    ·rw [if_pos ⟨rfl,e6⟩,if_pos ⟨rfl,by omega⟩,hL2 r t hi h2,hL2 j t om e6]
    ·rw [if_neg om,if_neg om];exact hL2 r t h1 h2
  ·rw [if_neg om,e3,if_neg om,if_neg om];exact hL2 r t h1 h2
 ·rw [hf]
  unfold put
  rw [if_neg om,e3,if_neg om,e2,if_neg om,e1]
  unfold addRow
  by_cases e:s=i
  ·subst e;rw [if_pos ⟨rfl,h2⟩,if_pos rfl,h.U s t h1 h2,h.U j t om h2]
  ·rw [if_neg om,if_neg om,if_neg e];exact h.U s t h1 h2
end Go.Proofs.YtdkgilioejdmeaaGreat
namespace Go.Proofs.YtdkgilioejdmeaaGreat
set_option exponentiation.threshold 5000
theorem zCK {x:Int} {s:Nat} (h:x*x≤(2 ^ s*2 ^ s:Nat)):x.natAbs≤2 ^ s:=by
 have e:x*x=((x.natAbs*x.natAbs:Nat):Int):=(Int.natAbs_mul_self).symm
 rw [e] at h
 exact Nat.mul_self_le_mul_self_iff.1 (Int.ofNat_le.1 h)
theorem sq_of_abs {x:Int} {s:Nat} (h:x.natAbs≤2 ^ s):x*x≤(2 ^ s*2 ^ s:Nat):=by
 have e:x*x=((x.natAbs*x.natAbs:Nat):Int):=(Int.natAbs_mul_self).symm
 rw [e]
 exact Int.ofNat_le.2 (Nat.mul_le_mul h h)
def Grow (n:Nat) (a:Nat→Nat→Int):Prop:=∀ r,r < n→det (r+1) a≤16384*det r a
theorem Grow.le {n:Nat} {a:Nat→Nat→Int} (h:Grow n a):∀ r,r≤n→det r a≤(2 ^ (14*r):Nat):=by
 intro r
 induction r with
 | zero=>intro _;exact Int.le_refl _
 | succ r ih =>
  intro hr
  have h1:=h r om
  have h2:=ih om
  have e:((2 ^ (14*(r+1)):Nat):Int)=16384*((2 ^ (14*r):Nat):Int):=by
   rw [show 14*(r+1)=14*r+14 by omega,Nat.pow_add,show (2:Nat) ^ 14=16384 from rfl,Int.natCast_mul,Int.mul_comm];rfl
  omega
theorem Grow.top {n:Nat} {a:Nat→Nat→Int} (h:Grow n a) (hn:n≤8) {r:Nat} (hr:r≤n):det r a≤(2 ^ 112:Nat) :=
 Int.le_trans (h.le r hr) (Int.ofNat_le.2 (Nat.pow_le_pow_right om om))
def Nm (a:Nat→Nat→Int) (i e:Nat):Prop:=a i i≤(2 ^ e*2 ^ e:Nat)
theorem Nm.mono {a:Nat→Nat→Int} {i e f:Nat} (h:Nm a i e) (hf:e≤f):Nm a i f:=by
 have h2:=Nat.pow_le_pow_right (show 2 > 0 by omega) hf
 exact Int.le_trans h (Int.ofNat_le.2 (Nat.mul_le_mul h2 h2))
theorem zDE {a b c d:Int} (h1:a≤b) (h2:c≤d) (h3:0≤a) (h4:0≤c):a*c≤b*d :=
 Int.le_trans (Int.mul_le_mul_of_nonneg_right h1 h4) (Int.mul_le_mul_of_nonneg_left h2 (Int.le_trans h3 h1))
theorem left_sz {n:Nat} {a:Nat→Nat→Int} (h:PD n a) (hg:Grow n a) (hn:n≤8) {r i e:Nat} (hr:r≤n) (hi:i < n) (he:Nm a i e):dmin a r i i≤(2 ^ 112*(2 ^ e*2 ^ e):Nat):=by
 refine Int.le_trans (h.left hi r hr) ?_
 rw [Int.natCast_mul]
 exact zDE (hg.top hn hr) he (Int.le_of_lt (h.pos hr)) (Int.le_of_lt (h.dpos hi))
theorem dmin_sz {n:Nat} {a:Nat→Nat→Int} (h:PD n a) (hg:Grow n a) (hn:n≤8) {r i j e f:Nat} (hr:r≤n) (hi:i < n) (hj:j < n) (he:Nm a i e) (hf:Nm a j f):(dmin a r i j).natAbs≤2 ^ (112+e+f):=by
 refine zCK ?_
 refine Int.le_trans (h.cauchy hi hj (n - r) r om) ?_
 refine Int.le_trans (zDE (left_sz h hg hn hr hi he) (left_sz h hg hn hr hj hf) (h.diag0 hi) (h.diag0 hj)) ?_
 rw [← Int.natCast_mul]
 refine Int.ofNat_le.2 (Nat.le_of_eq ?_)
 simp only [← Nat.pow_add];congr 1;omega
theorem zB5 {n:Nat} {a:Nat→Nat→Int} (h:PD n a) (hg:Grow n a) (hn:n≤8) {r i e:Nat} (hr:r < n) (hi:i < n) (he:Nm a i e):(dmin a r i r).natAbs≤2 ^ (112+e):=by
 refine zCK ?_
 refine Int.le_trans (h.cauchy hi hr (n - r) r om) ?_
 rw [zAX]
 refine Int.le_trans (zDE (left_sz h hg hn om hi he) (hg.top hn (show r+1≤n by omega)) (h.diag0 hi) (Int.le_of_lt (h.cor r hr))) ?_
 rw [← Int.natCast_mul]
 refine Int.ofNat_le.2 (Nat.le_of_eq ?_)
 simp only [← Nat.pow_add];congr 1;omega
theorem entry_sz {n:Nat} {a:Nat→Nat→Int} (h:PD n a) {i j e f:Nat} (hi:i < n) (hj:j < n) (he:Nm a i e) (hf:Nm a j f):(a i j).natAbs≤2 ^ (e+f):=by
 refine zCK ?_
 have:=h.cauchy hi hj n 0 om
 rw [zAm,zAm,zAm] at this
 refine Int.le_trans this ?_
 refine Int.le_trans (zDE he hf (Int.le_of_lt (h.dpos hi)) (Int.le_of_lt (h.dpos hj))) ?_
 rw [← Int.natCast_mul]
 refine Int.ofNat_le.2 (Nat.le_of_eq ?_)
 simp only [← Nat.pow_add];congr 1;omega
theorem lt_4095 {x s:Nat} (h:x≤2 ^ s) (hs:s < 4095):x < 2 ^ 4095:=Nat.lt_of_le_of_lt h (Nat.pow_lt_pow_right om hs)
theorem zBr {x y:Int} {s t:Nat} (h1:x.natAbs≤2 ^ s) (h2:y.natAbs≤2 ^ t):(x*y).natAbs≤2 ^ (s+t):=by
 rw [Int.natAbs_mul,Nat.pow_add];exact Nat.mul_le_mul h1 h2
theorem add_sz {x y:Int} {s t:Nat} (h1:x.natAbs≤2 ^ s) (h2:y.natAbs≤2 ^ t) (hst:s≤t):(x+y).natAbs≤2 ^ (t+1):=by
 have:=Nat.pow_le_pow_right (show 2 > 0 by omega) hst
 have:=Int.natAbs_add_le x y
 rw [Nat.pow_succ];omega
theorem sub_sz {x y:Int} {s t:Nat} (h1:x.natAbs≤2 ^ s) (h2:y.natAbs≤2 ^ t) (hst:s≤t):(x - y).natAbs≤2 ^ (t+1):=by
 have:=Nat.pow_le_pow_right (show 2 > 0 by omega) hst
 have:=Int.natAbs_sub_le x y
 rw [Nat.pow_succ];omega
theorem det_sz {n:Nat} {a:Nat→Nat→Int} (h:PD n a) (hg:Grow n a) (hn:n≤8) {r:Nat} (hr:r≤n):(det r a).natAbs≤2 ^ 112:=by
 have h1:=hg.top hn hr
 have h2:=h.pos hr
 omega
theorem Fits.of {n:Nat} {a:Nat→Nat→Int} (h:PD n a) (hg:Grow n a) (hn:n≤8) (hm:∀ i,i < n→Nm a i 900):Fits n a :=
 ⟨fun r i j hr hi hj=>lt_4095 (zBr (det_sz h hg hn (show r+1≤n by omega)) (dmin_sz h hg hn om hi hj (hm i hi) (hm j hj))) om,
 fun r i j hr hi hj=>lt_4095 (zBr (zB5 h hg hn hr hi (hm i hi)) (zB5 h hg hn hr hj (hm j hj))) om⟩
theorem quo_sz {l d:Int} {s:Nat} (hd:0 < d) (hl:l.natAbs≤2 ^ s):((l+l+d) / (d+d)).natAbs≤2 ^ (s+1):=by
 have h1:=Int.mul_ediv_add_emod (l+l+d) (d+d)
 have h2:=Int.emod_nonneg (l+l+d) (show d+d≠0 by omega)
 have h3:=Int.emod_lt_of_pos (l+l+d) (show 0 < d+d by omega)
 generalize (l+l+d) / (d+d)=q at *
 generalize (l+l+d) % (d+d)=r at *
 have h4:q*(d+d)=l+l+d - r:=by rw [Int.mul_comm];omega
 have hp:1≤2 ^ s:=Nat.one_le_two_pow
 have h5:q.natAbs*(2*d.natAbs)≤2*l.natAbs+2*d.natAbs:=by
  have e:(q*(d+d)).natAbs=q.natAbs*(2*d.natAbs):=by rw [Int.natAbs_mul];congr 1;omega
  rw [← e,h4];omega
 have hd1:1≤d.natAbs:=by omega
 rw [Nat.pow_succ]
 refine Nat.le_of_mul_le_mul_right (c:=2*d.natAbs) ?_ om
 refine Nat.le_trans h5 ?_
 have h6:2 ^ s*2*(2*d.natAbs)=2 ^ s*(2*d.natAbs)+2 ^ s*(2*d.natAbs):=by rw [Nat.mul_assoc,Nat.two_mul (2*d.natAbs),Nat.mul_add]
 rw [h6]
 have h7:2*l.natAbs≤2 ^ s*(2*d.natAbs):=by
  have:=Nat.mul_le_mul hl (show 2≤2*d.natAbs by omega);omega
 have h8:1*(2*d.natAbs)≤2 ^ s*(2*d.natAbs):=Nat.mul_le_mul_right _ hp
 omega
theorem Nm.rc {n:Nat} {a:Nat→Nat→Int} (h:PD n a) {i j e f s:Nat} {q:Int} (hi:i < n) (hj:j < i) (he:Nm a i e) (hf:Nm a j f) (hq:q.natAbs≤2 ^ s) (hs:e≤s+f):Nm (Go.Proofs.YtdkgilioejdmeaaGreat.rc a i j q) i (s+f+1):=by
 unfold Nm
 rw [rc_both,h.sym j i om hi]
 have h1:=entry_sz h hi (show j < n by omega) he hf
 have h2:(q*a i j).natAbs≤2 ^ (s+(e+f)):=zBr hq h1
 have h3:q*q≤(2 ^ s*2 ^ s:Nat):=sq_of_abs hq
 have h4:q*q*a j j≤((2 ^ s*2 ^ s:Nat):Int)*(2 ^ f*2 ^ f:Nat):=zDE h3 hf (zAi q) (Int.le_of_lt (h.dpos om))
 have e1:a i i - q*a i j - q*(a i j - q*a j j)=a i i - 2*(q*a i j)+q*q*a j j:=by grind
 rw [e1]
 have k1:(2:Nat) ^ e*2 ^ e≤2 ^ (s+f)*2 ^ (s+f):=Nat.mul_le_mul (Nat.pow_le_pow_right om hs) (Nat.pow_le_pow_right om hs)
 have k2:(2:Nat) ^ (s+(e+f))≤2 ^ (s+f)*2 ^ (s+f):=by rw [← Nat.pow_add];exact Nat.pow_le_pow_right om om
 have k3:(2:Nat) ^ s*2 ^ s*(2 ^ f*2 ^ f)=2 ^ (s+f)*2 ^ (s+f):=by simp only [← Nat.pow_add];congr 1;omega
 have k4:(2:Nat) ^ (s+f+1)*2 ^ (s+f+1)=4*(2 ^ (s+f)*2 ^ (s+f)):=by rw [Nat.pow_succ];grind
 rw [← Int.natCast_mul,k3] at h4
 rw [k4]
 unfold Nm at he
 omega
end Go.Proofs.YtdkgilioejdmeaaGreat
namespace Go.Proofs.YtdkgilioejdmeaaGreat
set_option exponentiation.threshold 5000
def SRf (a:Nat→Nat→Int) (i l:Nat):Prop:=∀ j,l≤j→j < i → - det (j+1) a≤2*dmin a j i j∧2*dmin a j i j≤det (j+1) a
theorem sr_left {n:Nat} {a:Nat→Nat→Int} (h:PD n a) (hg:Grow n a) {i:Nat} (hi:i < n) (hs:SRf a i 0):∀ d r,r+d=i→4*dmin a r i i≤(4+d)*(16384*det r a):=by
 intro d
 induction d with
 | zero =>
  intro r hr
  obtain rfl:r=i:=by omega
  rw [zAX]
  have:=hg r hi
  omega
 | succ d ih =>
  intro r hr
  have h1:=ih (r+1) om
  have h2:=h.gram (r:=r) om hi hi
  obtain ⟨h3,h4⟩:=hs r om om
  have h5:=hg r om
  have p0:=h.pos (k:=r) om
  have p1:=h.cor r om
  generalize dmin a r i i=u at *
  generalize dmin a (r+1) i i=u' at *
  generalize dmin a r i r=l at *
  generalize det (r+1) a=E at *
  generalize det r a=D at *
  have h6:4*(l*l)≤E*E:=by
   have:=Int.mul_nonneg (show 0≤E - 2*l by omega) (show 0≤E+2*l by omega)
   have e:(E - 2*l)*(E+2*l)=E*E - 4*(l*l):=by grind
   omega
  have h7:=Int.mul_le_mul_of_nonneg_left h1 (Int.le_of_lt p0)
  have h8:=Int.mul_le_mul_of_nonneg_left h5 (Int.le_of_lt p1)
  refine zAp p1 ?_
  have e1:E*(4*u)=D*(4*u')+4*(l*l):=by
   have:E*(4*u)=4*(E*u):=by grind
   have:D*(4*u')=4*(D*u'):=by grind
   omega
  have e2:E*((4+((d+1:Nat):Int))*(16384*D))=D*((4+(d:Int))*(16384*E))+E*(16384*D):=by
   rw [Int.natCast_add];grind
  rw [e1,e2]
  have h9:E*E≤E*(16384*D):=h8
  omega
theorem sr_nm {n:Nat} {a:Nat→Nat→Int} (h:PD n a) (hg:Grow n a) (hn:n≤8) {i:Nat} (hi:i < n) (hs:SRf a i 0):Nm a i 8:=by
 have h1:=sr_left h hg hi hs i 0 om
 rw [zAm] at h1
 have e:det 0 a=1:=rfl
 rw [e] at h1
 unfold Nm
 have:((2 ^ 8*2 ^ 8:Nat):Int)=65536:=rfl
 omega
structure Red (n:Nat) (a0 a u v:Nat→Nat→Int) (ct:Nat→Nat→Int):Prop where
 ok:LatOK n a u ct
 pd:PD n a
 grow:Grow n a
 gram:∀ i j,i < n→j < n→a i j=bf n a0 (u i) (u j)
 inv:∀ i j,i < n→j < n→sm n (fun k=>v i k*u k j)=if i=j then 1 else 0
structure Start (n:Nat) (a0:Nat→Nat→Int):Prop where
 pd:PD n a0
 small:∀ i j,i < n→j < n→(a0 i j).natAbs≤16384
 dim:n≤8
theorem coord_const {n:Nat} (hn:n≤8):fct (n - 1)*16384 ^ (n - 1)≤2 ^ 112:=by
 have h:∀ m,m≤7→fct m*16384 ^ m≤2 ^ 112:=by
  intro m hm
  match m,hm with
  | 0,_=>decide
  | 1,_=>decide
  | 2,_=>decide
  | 3,_=>decide
  | 4,_=>decide
  | 5,_=>decide
  | 6,_=>decide
  | 7,_=>decide
 exact h _ om
theorem u_sz {n:Nat} {a0 a u v ct:Nat→Nat→Int} (hs:Start n a0) (h:Red n a0 a u v ct) {i t e:Nat} (hi:i < n) (ht:t < n) (he:Nm a i e):(u i t).natAbs≤2 ^ (e+56):=by
 refine zCK ?_
 refine Int.le_trans (hs.pd.coord hs.small (u i) ht) ?_
 have e1:qf n a0 (u i)=a i i:=(h.gram i i hi hi).symm
 rw [e1]
 have h2:((fct (n - 1)*16384 ^ (n - 1):Nat):Int)≤((2 ^ 112:Nat):Int):=Int.ofNat_le.2 (coord_const hs.dim)
 refine Int.le_trans (zDE he h2 (Int.le_of_lt (h.pd.dpos hi)) (Int.natCast_nonneg _)) ?_
 rw [← Int.natCast_mul]
 refine Int.ofNat_le.2 (Nat.le_of_eq ?_)
 simp only [← Nat.pow_add];congr 1;omega
theorem addRow_bf {n:Nat} {a0:Nat→Nat→Int} (u:Nat→Nat→Int) (i j:Nat) (q:Int) (y:Nat→Int):bf n a0 (addRow u i j q i) y=bf n a0 (u i) y - q*bf n a0 (u j) y:=by
 have e:addRow u i j q i=fun c=>u i c+(-q)*u j c:=by funext c;unfold addRow;rw [if_pos rfl];grind
 rw [e,zC0,zBI];grind
theorem zCz {n:Nat} {a0:Nat→Nat→Int} (u:Nat→Nat→Int) (i j:Nat) (q:Int) (y:Nat→Int):bf n a0 y (addRow u i j q i)=bf n a0 y (u i) - q*bf n a0 y (u j):=by
 have e:addRow u i j q i=fun c=>u i c+(-q)*u j c:=by funext c;unfold addRow;rw [if_pos rfl];grind
 rw [e,zBl,zA8];grind
theorem zCL {u:Nat→Nat→Int} {i j r:Nat} {q:Int} (h:r≠i):addRow u i j q r=u r:=by funext c;unfold addRow;rw [if_neg h]
def addV (v:Nat→Nat→Int) (i j:Nat) (q:Int):Nat→Nat→Int:=fun r c=>if c=j then v r j+q*v r i else v r c
theorem Red.turn {n:Nat} {a0 a u v ct:Nat→Nat→Int} (h:Red n a0 a u v ct) {i j:Nat} {q:Int} (hi:i < n) (hj:j < i) (hs:ShFits n i j q a u) (hg:Grow n (rc a i j q)):Red n a0 (rc a i j q) (addRow u i j q) (addV v i j q) (shQ n i j q (det (j+1) a) ct):=by
 refine ⟨h.ok.shQ h.pd hi hj rfl hs,h.pd.rc q hi hj,hg,fun r c hr hc=>?_,fun r c hr hc=>?_⟩
 ·by_cases e1:r=i <;> by_cases e2:c=i
  ·subst e1;subst e2
   rw [rc_both,addRow_bf,zCz,zCz,← h.gram _ _ hi hi,← h.gram j _ om hi,← h.gram _ j hi om,← h.gram j j om om]
   grind
  ·subst e1
   rw [rc_row e2,zCL e2,addRow_bf,← h.gram r c hr hc,← h.gram j c om hc]
  ·subst e2
   rw [rc_col e1,zCL e1,zCz,← h.gram r c hr hc,← h.gram r j hr om]
  ·rw [zB4 e1 e2,zCL e1,zCL e2];exact h.gram r c hr hc
 ·rw [← h.inv r c hr hc]
  have e:∀ k,k < n→addV v i j q r k*addRow u i j q k c=v r k*u k c+((if k=j then q*v r i*u j c else 0)+(if k=i then - (q*v r i*u j c) else 0)):=by
   intro k hk
   unfold addV addRow
   by_cases e1:k=j
   ·subst e1
    rw [if_pos rfl,if_neg om,if_pos rfl,if_neg om];grind
   ·rw [if_neg e1,if_neg e1]
    by_cases e2:k=i
    ·subst e2;rw [if_pos rfl,if_pos rfl];grind
    ·rw [if_neg e2,if_neg e2];omega
  rw [zAC e,zCT,zCT]
  rw [zBL (f:=fun k=>if k=j then q*v r i*u j c else 0) (k:=j) om (fun k hk hne=>if_neg hne),if_pos rfl]
  rw [zBL (f:=fun k=>if k=i then - (q*v r i*u j c) else 0) (k:=i) hi (fun k hk hne=>if_neg hne),if_pos rfl]
  omega
end Go.Proofs.YtdkgilioejdmeaaGreat
namespace Go.Proofs.YtdkgilioejdmeaaGreat
set_option exponentiation.threshold 5000
theorem zBo {z:Int} {s:Nat} (h:z.natAbs≤2 ^ s) (hs:s < 4096):fitZ z=z:=zA2 (Nat.lt_of_le_of_lt h (Nat.pow_lt_pow_right om hs))
theorem wideB_iff {l d:Int} {s:Nat} (h:l.natAbs≤2 ^ s) (hs:s < 4090):wideB l d=true↔d < 2*(l.natAbs:Int):=by
 unfold wideB
 rw [zBo (s:=s+1) (by rw [Nat.pow_succ];omega) om]
 unfold cmpZ
 simp only [decide_eq_true_eq]
 split
 ·omega
 ·split <;> omega
theorem quoS_eq {l d:Int} {s t:Nat} (h:l.natAbs≤2 ^ s) (hd:d.natAbs≤2 ^ t) (hs:s < 4000) (ht:t < 4000):quoS l d=(l+l+d) / (d+d):=by
 unfold quoS
 have h1:(l+l).natAbs≤2 ^ (s+1):=by rw [Nat.pow_succ];omega
 have h2:(d+d).natAbs≤2 ^ (t+1):=by rw [Nat.pow_succ];omega
 have h3:(l+l+d).natAbs≤2 ^ (s+t+2):=by
  have a1:=Nat.pow_le_pow_right (show 2 > 0 by omega) (show s+1≤s+t+1 by omega)
  have a2:=Nat.pow_le_pow_right (show 2 > 0 by omega) (show t≤s+t+1 by omega)
  rw [show s+t+2=(s+t+1)+1 by omega,Nat.pow_succ 2 (s+t+1)]
  omega
 rw [zBo h1 om,zBo h2 om]
 by_cases hb:s+t+2 < 4096
 ·rw [zBo h3 hb]
 ·have h4:(l+l+d).natAbs≤2 ^ 4002:=by
   have a1:=Nat.pow_le_pow_right (show 2 > 0 by omega) (show s+1≤4001 by omega)
   have a2:=Nat.pow_le_pow_right (show 2 > 0 by omega) (show t≤4001 by omega)
   rw [show (4002:Nat)=4001+1 from rfl,Nat.pow_succ 2 4001]
   omega
  rw [zBo h4 om]
theorem smq_of {q x y:Int} {s t r:Nat} (hx:x.natAbs≤2 ^ s) (hq:q.natAbs≤2 ^ t) (hy:y.natAbs≤2 ^ r) (h1:s < 4095) (h2:t+r < 4095):SmQ q x y:=⟨lt_4095 hx h1,lt_4095 (zBr hq hy) h2⟩
theorem Red.short {n:Nat} {a0 a u v ct:Nat→Nat→Int} (hS:Start n a0) (h:Red n a0 a u v ct) (hall:∀ r,r < n→Nm a r 900) {i j e:Nat} (hi:i < n) (hj:j < i) (he:Nm a i e) (hej:Nm a j 8) (hee:e≤778) :
  ∃ a' u' v',Red n a0 a' u' v' (shortP n i j ct)∧(∀ r,r≠i→a' r r=a r r)∧Nm a' i (e+122)∧(∀ r,det r a'=det r a)∧(∀ r c,r < n→c < r→(r≠i∨j < c)→dmin a' c r c=dmin a c r c) ∧
   (- det (j+1) a≤2*dmin a' j i j∧2*dmin a' j i j≤det (j+1) a):=by
 have hn:=hS.dim
 have hjn:j < n:=by omega
 have hl:=zB5 h.pd h.grow hn (r:=j) (i:=i) hjn hi he
 have hd:=det_sz h.pd h.grow hn (show j+1≤n by omega)
 have hd0:=h.pd.cor j hjn
 have eL:=h.ok.lat.L i j hi hj
 have eD:=h.ok.lat.D (j+1) om
 have hw:=wideB_iff (d:=det (j+1) a) hl om
 have hq:=quoS_eq hl hd om om
 unfold shortP
 rw [eL,eD]
 by_cases hwd:det (j+1) a < 2*((dmin a j i j).natAbs:Int)
 ·rw [if_pos (hw.2 hwd),hq]
  have hqs:=quo_sz hd0 hl
  obtain ⟨q,hqe⟩:∃ q,(dmin a j i j+dmin a j i j+det (j+1) a) / (det (j+1) a+det (j+1) a)=q:=⟨_,rfl⟩
  rw [hqe] at hqs ⊢
  have hfit:ShFits n i j q a u:=by
   have au:=fun t (ht:t < n)=>u_sz hS h (i:=i) (t:=t) hi ht he
   have bu:=fun t (ht:t < n)=>u_sz hS h (i:=j) (t:=t) hjn ht hej
   have ae:∀ r t,r < n→t < n→(a r t).natAbs≤2 ^ 1800:=fun r t hr ht=>Nat.le_trans (entry_sz h.pd hr ht (hall r hr) (hall t ht)) (Nat.pow_le_pow_right om om)
   have hq2:q.natAbs≤2 ^ 900:=Nat.le_trans hqs (Nat.pow_le_pow_right om om)
   refine ⟨fun t ht=>smq_of (au t ht) hq2 (bu t ht) om om,fun t ht=>smq_of (ae i t hi ht) hq2 (ae j t hjn ht) om om,fun s hs=>?_,fun t ht=>?_,?_⟩
   ·by_cases e1:s=i
    ·subst e1
     unfold addRow
     rw [if_pos rfl,if_pos rfl]
     have b1:(a s s - q*a j s).natAbs≤2 ^ 2701:=sub_sz (Nat.le_trans (ae s s hi hi) (Nat.pow_le_pow_right om om)) (Nat.le_trans (zBr hq2 (ae j s hjn hi)) (Nat.pow_le_pow_right om (show 900+1800≤2700 by omega))) (Nat.le_refl _)
     have b2:(a s j - q*a j j).natAbs≤2 ^ 2701:=sub_sz (Nat.le_trans (ae s j hi hjn) (Nat.pow_le_pow_right om om)) (Nat.le_trans (zBr hq2 (ae j j hjn hjn)) (Nat.pow_le_pow_right om (show 900+1800≤2700 by omega))) (Nat.le_refl _)
     exact smq_of b1 hq2 b2 om om
    ·unfold addRow
     rw [if_neg e1,if_neg e1]
     exact smq_of (ae s i hs hi) hq2 (ae s j hs hjn) om om
   ·exact smq_of (zB5 h.pd h.grow hn (r:=t) (i:=i) om hi (hall i hi)) hq2 (zB5 h.pd h.grow hn (r:=t) (i:=j) om hjn (hall j hjn)) om om
   ·exact smq_of (zB5 h.pd h.grow hn (r:=j) (i:=i) hjn hi (hall i hi)) hq2 hd om om
  have hgr:Grow n (rc a i j q):=fun r hr=>by rw [zBW q hj,zBW q hj];exact h.grow r hr
  refine ⟨_,_,_,h.turn hi hj hfit hgr,fun r hr=>zB4 hr hr,?_,fun r=>zBW q hj r,fun r c hr hc hrc=>?_,?_⟩
  ·have:=Nm.rc h.pd hi hj he hej hqs om
   exact this.mono om
  ·rw [h.pd.rc_L q hi hj hr hc,if_neg om]
  ·rw [h.pd.rc_L q hi hj hi hj,if_pos ⟨rfl,Nat.le_refl _⟩,zAX]
   have h1:=Int.mul_ediv_add_emod (dmin a j i j+dmin a j i j+det (j+1) a) (det (j+1) a+det (j+1) a)
   have h2:=Int.emod_nonneg (dmin a j i j+dmin a j i j+det (j+1) a) (show det (j+1) a+det (j+1) a≠0 by omega)
   have h3:=Int.emod_lt_of_pos (dmin a j i j+dmin a j i j+det (j+1) a) (show 0 < det (j+1) a+det (j+1) a by omega)
   rw [hqe] at h1
   have h4:(det (j+1) a+det (j+1) a)*q=2*(q*det (j+1) a):=by grind
   omega
 ·rw [if_neg (fun hh=>hwd (hw.1 hh))]
  exact ⟨a,u,v,h,fun r _=>rfl,he.mono om,fun r=>rfl,fun r c _ _ _=>rfl,by omega,by omega⟩
end Go.Proofs.YtdkgilioejdmeaaGreat
namespace Go.Proofs.YtdkgilioejdmeaaGreat
theorem sm_swp {m:Nat} (f:Nat→Int):∀ d,sm (m+2+d) (fun i=>f (swp m i))=sm (m+2+d) f:=by
 intro d
 induction d with
 | zero =>
  show sm m (fun i=>f (swp m i))+f (swp m m)+f (swp m (m+1))=sm m f+f m+f (m+1)
  rw [swp_a,swp_b,zAC (g:=f) (fun i hi=>by rw [zDL hi])];omega
 | succ d ih =>
  show sm (m+2+d) (fun i=>f (swp m i))+f (swp m (m+2+d))=sm (m+2+d) f+f (m+2+d)
  rw [ih,show swp m (m+2+d)=m+2+d by unfold swp;rw [if_neg om,if_neg om]]
theorem swC_spec {k:Nat} {c:Nat→Nat→Int}:∀ m s t,swC (k+1) c m s t=if s < m then c s (swp k t) else c s t:=by
 intro m
 induction m with
 | zero=>intro s t;show c s t=_;rw [if_neg om]
 | succ m ih =>
  intro s t
  show put (put (swC (k+1) c m) m (k+1) (swC (k+1) c m m (k+1 - 1))) m (k+1 - 1) (swC (k+1) c m m (k+1)) s t=_
  rw [ih m (k+1 - 1),ih m (k+1),if_neg om,if_neg om,Nat.add_sub_cancel]
  unfold put
  by_cases e1:s=m∧t=k
  ·rw [if_pos e1,if_pos om,e1.1,e1.2,swp_a]
  ·rw [if_neg e1]
   by_cases e2:s=m∧t=k+1
   ·rw [if_pos e2,if_pos om,e2.1,e2.2,swp_b]
   ·rw [if_neg e2,ih]
    by_cases e3:s < m
    ·rw [if_pos e3,if_pos om]
    ·rw [if_neg e3]
     by_cases e4:s=m
     ·rw [if_pos om,show swp k t=t by unfold swp;rw [if_neg om,if_neg om]]
     ·rw [if_neg om]
theorem sw_swp (k i:Nat):sw (k+1) k i=swp k i:=by unfold sw swp;(repeat' split) <;> omega
theorem swR_A {n k s:Nat} {ct:Nat→Nat→Int} (hk:k+1 < n) (hs:s < n):swR n (k+1) ct s=ct (swp k s):=by
 unfold swR
 rw [Nat.add_sub_cancel,sw_swp]
 have:=zCU hk hs
 rw [show sw (n+(k+1)) (n+k) (swp k s)=swp k s by unfold sw;rw [if_neg om,if_neg om]]
theorem swR_U {n k i:Nat} {ct:Nat→Nat→Int} (hk:k+1 < n) (hi:i < n):swR n (k+1) ct (n+i)=ct (n+swp k i):=by
 unfold swR
 rw [Nat.add_sub_cancel,show sw (k+1) k (n+i)=n+i by unfold sw;rw [if_neg om,if_neg om]]
 congr 1
 unfold sw swp
 (repeat' split) <;> omega
theorem swR_far {n k s:Nat} {ct:Nat→Nat→Int} (hk:k+1 < n) (hs:2*n≤s):swR n (k+1) ct s=ct s:=by
 unfold swR
 rw [Nat.add_sub_cancel,show sw (k+1) k s=s by unfold sw;rw [if_neg om,if_neg om],show sw (n+(k+1)) (n+k) s=s by unfold sw;rw [if_neg om,if_neg om]]
theorem Red.swap {n:Nat} {a0 a u v ct:Nat→Nat→Int} (hS:Start n a0) (h:Red n a0 a u v ct) (hall:∀ r,r < n→Nm a r 900) {k:Nat} (hk:k+1 < n) (hf:4*(det (k+2) a*det k a+dmin a k (k+1) k*dmin a k (k+1) k) < 3*(det (k+1) a*det (k+1) a)) :
  (∃ u' v',Red n a0 (swA a k) u' v' (swapP n (k+1) ct))∧det (k+1) (swA a k) < det (k+1) a:=by
 have hmid:=h.pd.swA_mid hk
 have hp1:=h.pd.cor k om
 have hp0:=h.pd.pos (k:=k) om
 have hpd:=h.pd.swA hk
 have hp2:=hpd.cor k om
 have hlt:det (k+1) (Go.Proofs.YtdkgilioejdmeaaGreat.swA a k) < det (k+1) a:=by
  rcases Int.lt_or_le (det (k+1) (Go.Proofs.YtdkgilioejdmeaaGreat.swA a k)) (det (k+1) a) with h1|h1
  ·exact h1
  ·have h2:=Int.mul_le_mul_of_nonneg_left h1 (Int.le_of_lt hp1)
   have h3:=Int.mul_pos hp1 hp1
   have e:det k a*det (k+2) a=det (k+2) a*det k a:=Int.mul_comm _ _
   omega
 refine ⟨?_,hlt⟩
 have hgr:Grow n (Go.Proofs.YtdkgilioejdmeaaGreat.swA a k):=by
  intro r hr
  by_cases e1:r=k
  ·subst e1
   have h1:=h.grow r om
   rw [zBn (m:=r) om]
   omega
  ·by_cases e2:r=k+1
   ·subst e2
    rw [zBn (m:=k+1+1) om]
    have h1:=h.grow k om
    have h2:=zAi (dmin a k (k+1) k)
    refine zAp hp0 ?_
    have h3:=Int.mul_le_mul_of_nonneg_left h1 (Int.le_of_lt hp2)
    have e3:det k a*(16384*det (k+1) (Go.Proofs.YtdkgilioejdmeaaGreat.swA a k))=det (k+1) (Go.Proofs.YtdkgilioejdmeaaGreat.swA a k)*(16384*det k a):=by grind
    have e4:det (k+1) a*det (k+1) (Go.Proofs.YtdkgilioejdmeaaGreat.swA a k)=det (k+1) (Go.Proofs.YtdkgilioejdmeaaGreat.swA a k)*det (k+1) a:=Int.mul_comm _ _
    have e5:det k a*det (k+1+1) a=det k a*det (k+2) a:=rfl
    omega
   ·rw [zBn (m:=r+1) om,zBn (m:=r) om]
    exact h.grow r hr
 have hnm:∀ i,i < n→Nm (Go.Proofs.YtdkgilioejdmeaaGreat.swA a k) i 900:=fun i hi=>hall _ (zCU hk hi)
 have hft:=Fits.of hpd hgr hS.dim hnm
 obtain ⟨ct2,hct2⟩:∃ c,swC (k+1) (swR n (k+1) ct) n=c:=⟨_,rfl⟩
 have hA2:∀ i j,i < n→j < n→ct2 i j=Go.Proofs.YtdkgilioejdmeaaGreat.swA a k i j:=fun i j hi hj=>by
  rw [← hct2,swC_spec,if_pos hi,swR_A hk hi]
  exact h.ok.lat.A _ _ (zCU hk hi) (zCU hk hj)
 have hU2:∀ i j,i < n→j < n→ct2 (n+i) j=u (swp k i) j:=fun i j hi hj=>by
  rw [← hct2,swC_spec,if_neg om,swR_U hk hi]
  exact h.ok.U _ _ (zCU hk hi) hj
 have hF2:∀ s j,2*n≤s→ct2 s j=ct s j:=fun s j hs=>by rw [← hct2,swC_spec,if_neg om,swR_far hk hs]
 have hsp:=zDF (fr:=k) hpd hft hA2 (fun i h1 h2=>by rw [hF2 _ _ om,zBn om];exact h.ok.lat.D i om)
  (fun i j hi hj=>by rw [hF2 _ _ om,PD.swA_L (n:=n) om hi om];exact h.ok.lat.L i j om hj) (n - k) om
 have hsw:swapP n (k+1) ct=partsP n ct2 k (n - k):=by unfold swapP;rw [hct2,Nat.add_sub_cancel]
 rw [hsw]
 rw [show k+(n - k)=n by omega] at hsp
 obtain ⟨d,hd⟩:∃ d,n=k+2+d:=⟨n - (k+2),by omega⟩
 refine ⟨fun i=>u (swp k i),fun i j=>v i (swp k j),⟨hsp.1,fun i j hi hj=>(hsp.2 _ _ om).trans (hU2 i j hi hj)⟩,hpd,hgr,fun i j hi hj=>h.gram _ _ (zCU hk hi) (zCU hk hj),fun i j hi hj=>?_⟩
 rw [← h.inv i j hi hj,hd]
 exact sm_swp (m:=k) (fun t=>v i t*u t j) d
end Go.Proofs.YtdkgilioejdmeaaGreat
namespace Go.Proofs.YtdkgilioejdmeaaGreat
set_option exponentiation.threshold 5000
theorem fallsB_iff {l d0 d1 d2:Int} (hl:l.natAbs≤2 ^ 1012) (h0:d0.natAbs≤2 ^ 112) (h1:d1.natAbs≤2 ^ 112) (h2:d2.natAbs≤2 ^ 112):fallsB l d0 d1 d2=true↔4*(d2*d0+l*l) < 3*(d1*d1):=by
 unfold fallsB
 have a1:(d2*d0).natAbs≤2 ^ 2024:=Nat.le_trans (zBr h2 h0) (Nat.pow_le_pow_right om om)
 have a2:(l*l).natAbs≤2 ^ 2024:=Nat.le_trans (zBr hl hl) (Nat.pow_le_pow_right om om)
 have a3:(d2*d0+l*l).natAbs≤2 ^ 2025:=add_sz a1 a2 (Nat.le_refl _)
 have a4:(4*(d2*d0+l*l)).natAbs≤2 ^ 2027:=Nat.le_trans (zBr (x:=4) (s:=2) (by decide) a3) (Nat.pow_le_pow_right om om)
 have b1:(d1*d1).natAbs≤2 ^ 224:=Nat.le_trans (zBr h1 h1) (Nat.pow_le_pow_right om om)
 have b2:(3*(d1*d1)).natAbs≤2 ^ 226:=Nat.le_trans (zBr (x:=3) (s:=2) (by decide) b1) (Nat.pow_le_pow_right om om)
 rw [zBo a1 om,zBo a2 om,zBo a3 om,zBo a4 om,zBo b1 om,zBo b2 om]
 unfold cmpZ
 simp only [decide_eq_true_eq]
 split
 ·omega
 ·split <;> omega
theorem shR_ok {n:Nat} {a0:Nat→Nat→Int} (hS:Start n a0) {k:Nat} (hk:k < n):∀ (l:Nat) (a u v ct:Nat→Nat→Int) (e:Nat),l≤k→Red n a0 a u v ct→(∀ r,r < k→SRf a r 0)→SRf a k l→Nm a k e→e+122*l≤900→(∀ r,k < r→r < n→Nm a r 8) →
  ∃ a' u' v',Red n a0 a' u' v' (shR n k l ct)∧(∀ r,r < k→SRf a' r 0)∧SRf a' k 0∧(∀ r,k < r→r < n→Nm a' r 8)∧∀ r,det r a'=det r a:=by
 intro l
 induction l with
 | zero=>intro a u v ct e _ h hs hk0 _ _ hi;exact ⟨a,u,v,h,hs,hk0,hi,fun r=>rfl⟩
 | succ l ih =>
  intro a u v ct e hl h hs hk0 he hee hi
  have hall:∀ r,r < n→Nm a r 900:=fun r hr=>by
   by_cases e1:r < k
   ·exact (sr_nm h.pd h.grow hS.dim hr (hs r e1)).mono om
   ·by_cases e2:r=k
    ·subst e2;exact he.mono om
    ·exact (hi r om hr).mono om
  obtain ⟨a',u',v',h',hd,hnm,hdet,hmin,hr1,hr2⟩:=h.short hS hall hk (show l < k by omega) he (sr_nm h.pd h.grow hS.dim om (hs l om)) om
  obtain ⟨a'',u'',v'',g1,g2,g3,g4,g5⟩:=ih a' u' v' (shortP n k l ct) (e+122) om h'
   (fun r hr j h1 h2=>by rw [hdet,hmin r j om h2 (Or.inl om)];exact hs r hr j h1 h2)
   (fun j h1 h2=>by
    rw [hdet]
    by_cases e1:j=l
    ·subst e1;exact ⟨hr1,hr2⟩
    ·rw [hmin k j hk h2 (Or.inr om)];exact hk0 j om h2)
   hnm om (fun r h1 h2=>by unfold Nm;rw [hd r om];exact hi r h1 h2)
  exact ⟨a'',u'',v'',g1,g2,g3,g4,fun r=>(g5 r).trans (hdet r)⟩
theorem sm_le {n:Nat} {f g:Nat→Int} (h:∀ i,i < n→f i≤g i):sm n f≤sm n g:=by
 induction n with
 | zero=>exact Int.le_refl _
 | succ n ih=>simp only [sm];have:=ih fun i hi=>h i om;have:=h n om;omega
theorem sm_lt {n k:Nat} {f g:Nat→Int} (h:∀ i,i < n→f i≤g i) (hk:k < n) (hlt:f k < g k):sm n f < sm n g:=by
 induction n with
 | zero=>omega
 | succ n ih =>
  simp only [sm]
  have h2:=h n om
  by_cases e:k=n
  ·subst e
   have:=sm_le (n:=k) fun i hi=>h i om
   omega
  ·have:=ih (fun i hi=>h i om) om;omega
def Spot (n:Nat) (a:Nat→Nat→Int):Int:=sm n fun r=>det (r+1) a
structure LInv (n:Nat) (a0:Nat→Nat→Int) (k:Nat) (a u v ct:Nat→Nat→Int):Prop where
 red:Red n a0 a u v ct
 sr:∀ r,r < k→SRf a r 0
 hi:∀ r,k < r→r < n→Nm a r 8
 cur:k < n→Nm a k (8+122*(7 - k))
theorem redP_ok {n:Nat} {a0:Nat→Nat→Int} (hS:Start n a0):∀ (fuel k:Nat) (a u v ct:Nat→Nat→Int),1≤k→k≤n→LInv n a0 k a u v ct→2*Spot n a+((n:Int) - k) < fuel →
  ∃ a' u' v' ct',redP n fuel k ct=some ct'∧Red n a0 a' u' v' ct'∧∀ r,r < n→SRf a' r 0:=by
 intro fuel
 induction fuel with
 | zero =>
  intro k a u v ct hk1 hkn h hm
  have:0≤Spot n a:=by
   have:=sm_le (n:=n) (f:=fun _=>0) (g:=fun r=>det (r+1) a) fun i hi=>Int.le_of_lt (h.red.pd.cor i hi)
   rw [zA5 (fun _ _=>rfl)] at this
   exact this
  omega
 | succ fuel ih =>
  intro k a u v ct hk1 hkn h hm
  show ∃ a' u' v' ct',(if n≤k then some ct else if fallsP n k (shortP n k (k - 1) ct)=true then redP n fuel (max 1 (k - 1)) (swapP n k (shortP n k (k - 1) ct)) else redP n fuel (k+1) (shR n k (k - 1) (shortP n k (k - 1) ct)))=some ct'∧_
  by_cases hk:n≤k
  ·rw [if_pos hk]
   exact ⟨a,u,v,ct,rfl,h.red,fun r hr=>h.sr r om⟩
  ·rw [if_neg hk]
   obtain ⟨m,rfl⟩:∃ m,k=m+1:=⟨k - 1,by omega⟩
   rw [Nat.add_sub_cancel]
   have hn:=hS.dim
   have hmn:m+1 < n:=by omega
   have hcur:=h.cur hmn
   have hall:∀ r,r < n→Nm a r 900:=fun r hr=>by
    by_cases e1:r < m+1
    ·exact (sr_nm h.red.pd h.red.grow hn hr (h.sr r e1)).mono om
    ·by_cases e2:r=m+1
     ·subst e2;exact hcur.mono om
     ·exact (h.hi r om hr).mono om
   obtain ⟨a1,u1,v1,h1,hd1,hnm1,hdet1,hmin1,hr1,hr2⟩:=h.red.short hS hall hmn (show m < m+1 by omega) hcur (sr_nm h.red.pd h.red.grow hn om (h.sr m om)) om
   obtain ⟨c1,hc1⟩:∃ c,shortP n (m+1) m ct=c:=⟨_,rfl⟩
   rw [hc1] at h1 ⊢
   have sr1:∀ r,r < m+1→SRf a1 r 0:=fun r hr j g1 g2=>by rw [hdet1,hmin1 r j om g2 (Or.inl om)];exact h.sr r hr j g1 g2
   have hi1:∀ r,m+1 < r→r < n→Nm a1 r 8:=fun r g1 g2=>by unfold Nm;rw [hd1 r om];exact h.hi r g1 g2
   have hall1:∀ r,r < n→Nm a1 r 900:=fun r hr=>by
    by_cases e1:r < m+1
    ·exact (sr_nm h1.pd h1.grow hn hr (sr1 r e1)).mono om
    ·by_cases e2:r=m+1
     ·subst e2;exact hnm1.mono om
     ·exact (hi1 r om hr).mono om
   have hfi:fallsP n (m+1) c1=true↔4*(det (m+2) a1*det m a1+dmin a1 m (m+1) m*dmin a1 m (m+1) m) < 3*(det (m+1) a1*det (m+1) a1):=by
    unfold fallsP
    rw [Nat.add_sub_cancel,h1.ok.lat.L (m+1) m hmn om,h1.ok.lat.D m om,h1.ok.lat.D (m+1) om,h1.ok.lat.D (m+1+1) om]
    exact fallsB_iff (Nat.le_trans (zB5 h1.pd h1.grow hn (r:=m) om hmn (hall1 _ hmn)) (Nat.pow_le_pow_right om om)) (det_sz h1.pd h1.grow hn om) (det_sz h1.pd h1.grow hn om) (det_sz h1.pd h1.grow hn om)
   have hsp:Spot n a1=Spot n a:=zAC fun r hr=>hdet1 (r+1)
   by_cases hf:fallsP n (m+1) c1=true
   ·rw [if_pos hf]
    obtain ⟨⟨u2,v2,h2⟩,hlt⟩:=h1.swap hS hall1 hmn (hfi.1 hf)
    have hS2:Spot n (swA a1 m) < Spot n a1:=by
     refine sm_lt (k:=m) (fun r hr=>?_) om hlt
     by_cases e1:r=m
     ·subst e1;exact Int.le_of_lt hlt
     ·rw [zBn om];exact Int.le_refl _
    have hsr2:∀ r,r < m→SRf (swA a1 m) r 0:=fun r hr j g1 g2=>by
     rw [PD.swA_L (n:=n) om hr om,zBn om]
     exact sr1 r om j g1 g2
    have hd2:∀ r,m+1 < r→(swA a1 m) r r=a1 r r:=fun r hr=>by unfold swA;rw [show swp m r=r by unfold swp;rw [if_neg om,if_neg om]]
    have hdm:(swA a1 m) m m=a1 (m+1) (m+1):=by unfold swA;rw [swp_a]
    have hdm1:(swA a1 m) (m+1) (m+1)=a1 m m:=by unfold swA;rw [swp_b]
    have hnmm:=sr_nm h1.pd h1.grow hn om (sr1 m om)
    by_cases hm0:m=0
    ·subst hm0
     refine ih (max 1 0) _ u2 v2 _ om om ⟨h2,fun r hr=>?_,fun r g1 g2=>?_,fun _=>?_⟩ ?_
     ·obtain rfl:r=0:=by omega
      intro j g1 g2;omega
     ·unfold Nm;rw [hd2 r om];exact hi1 r om g2
     ·show Nm _ 1 _
      unfold Nm;rw [hdm1];exact hnmm.mono om
     ·have:((max 1 0:Nat):Int)=1:=rfl
      omega
    ·rw [show max 1 m=m by omega]
     refine ih m _ u2 v2 _ om om ⟨h2,hsr2,fun r g1 g2=>?_,fun _=>?_⟩ om
     ·by_cases e1:r=m+1
      ·subst e1;unfold Nm;rw [hdm1];exact hnmm
      ·unfold Nm;rw [hd2 r om];exact hi1 r om g2
     ·unfold Nm;rw [hdm]
      exact hnm1.mono om
   ·rw [if_neg hf]
    obtain ⟨a3,u3,v3,g1,g2,g3,g4,g5⟩:=shR_ok hS hmn m a1 u1 v1 c1 _ om h1 sr1
     (fun j q1 q2=>by
              obtain rfl:j=m:=by omega
              rw [hdet1];exact ⟨hr1,hr2⟩) hnm1 om hi1
    have hsp3:Spot n a3=Spot n a1:=zAC fun r hr=>g5 (r+1)
    refine ih (m+1+1) a3 u3 v3 _ om om ⟨g1,fun r hr=>?_,fun r q1 q2=>g4 r om q2,fun hlt=>?_⟩ om
    ·by_cases e1:r=m+1
     ·subst e1;exact g3
     ·exact g2 r om
    ·exact (g4 (m+1+1) om hlt).mono om
end Go.Proofs.YtdkgilioejdmeaaGreat
