/- YtdkgilioejdmeaaGreatBA4: what is proved here stands in the theorems' own rows. -/
import Derived.Test.YtdkgilioejdmeaaGreatBA1
import Derived.Test.YtdkgilioejdmeaaGreatBA3
set_option linter.unusedVariables false
set_option linter.unusedSimpArgs false
namespace Go.Proofs.YtdkgilioejdmeaaGreat
open Go.RowKit
def crossFits (op:Int→Int→Int) (a b:Int) (c d:Nat):Prop:=bitsN (a*(d+1:Nat)).natAbs≤4096∧bitsN (b*(c+1:Nat)).natAbs≤4096∧bitsN ((c+1)*(d+1))≤4096∧bitsN (op (a*(d+1:Nat)) (b*(c+1:Nat))).natAbs≤4096
instance (op:Int→Int→Int) (a b:Int) (c d:Nat):Decidable (crossFits op a b c d):=inferInstanceAs (Decidable (_∧_∧_∧_))
def codeC (op:Int→Int→Int) (a b:Int) (c d:Nat):Int:=if crossFits op a b c d then 0 else 3
def numC (op:Int→Int→Int) (a b:Int) (c d:Nat):Int:=if crossFits op a b c d then lowNum (op (a*(d+1:Nat)) (b*(c+1:Nat))) ((c+1)*(d+1)) else 0
def lessC (op:Int→Int→Int) (a b:Int) (c d:Nat):Nat:=if crossFits op a b c d then lowLess (op (a*(d+1:Nat)) (b*(c+1:Nat))) ((c+1)*(d+1)) else 0
def TellsZ (F:Nat) (op:Int→Int→Int):Prop:=∀ (na nb:Bool) (A B:Option Addr) (k m:Nat) (a b:Int) (w:World),IsInt w na A k a→IsInt w nb B m b →
  Calls Tryz.prog F #[.agg #[.bool na,.slice A k k],.agg #[.bool nb,.slice B m m]] w fun e w'=>∃ n A' k',e = .returned (.tuple #[.agg #[.bool n,.slice A' k' k'],.int .i64 (codeZ (op a b))])∧IsInt w' n A' k' (fitZ (op a b))∧Ext w w'
set_option maxRecDepth 4000 in
set_option maxHeartbeats 4000000 in
theorem crossAdd_any (op:Int→Int→Int) (hF:TellsZ 67 op) (na nb:Bool) (A B C D:Option Addr) (k m j l:Nat) (a b:Int) (c d:Nat) (w:World) (h:IsRat w na A k B m a c) (hb:IsRat w nb C j D l b d) :
  Calls Tryz.prog 144 #[.agg #[.bool na,.slice A k k,.slice B m m],.agg #[.bool nb,.slice C j j,.slice D l l],.func (.func 67) #[] #[]] w fun e w'=>∃ n A' k' B' m',e = .returned (.tuple #[.agg #[.bool n,.slice A' k' k',.slice B' m' m'],.int .i64 (codeC op a b c d)])∧IsRat w' n A' k' B' m' (numC op a b c d) (lessC op a b c d)∧Ext w w':=by
 obtain ⟨W0,HWW0,hXW0,hsW0,c0a,f0a,c0b,f0b,c0c,f0c,c1a,f1a,c1b,f1b,c1c,f1c,c2a,f2a,c2b,f2b,c2c,f2c⟩:=bx333 w 144 144 144 (.bool na) (.slice A k k) (.slice B m m) (.bool nb) (.slice C j j) (.slice D l l) (.bool false) (.slice none 0 0) (.slice none 0 0)
 have HX:=zH hXW0
 have HR0:=zH (h.ext hXW0)
 have HR1:=zH (hb.ext hXW0)
 have HDx:=zH (fun W (hx:Ext W0 W)=>zA0 na A B k m a c W (HR0.out.ext hx))
 have HDy:=zH (fun W (hx:Ext W0 W)=>zA0 nb C D j l b d W (HR1.out.ext hx))
 have HBx:=zH (fun W (hx:Ext W0 W) E e (he:IsNat W E e (d+1))=>by_any na A E k e a (d+1) W (HR0.out.num.ext hx) he HR1.out.bits)
 have HBy:=zH (fun W (hx:Ext W0 W) E e (he:IsNat W E e (c+1))=>by_any nb C E j e b (c+1) W (HR1.out.num.ext hx) he HR0.out.bits)
 have HMN:=zH (fun W E e (he:IsNat W E e (c+1)) G g (hg:IsNat W G g (d+1))=>Mul_any E G e g (c+1) (d+1) W he hg HR0.out.bits HR1.out.bits)
 have HFF:=zH hF
 have HC:Hid (codeC op a b c d=codeC op a b c d∧True):=⟨rfl,trivial⟩
 obtain ⟨p,hp⟩:∃ p,a*(d+1:Nat)=p:=⟨_,rfl⟩
 obtain ⟨r,hr⟩:∃ r,b*(c+1:Nat)=r:=⟨_,rfl⟩
 obtain ⟨q,hq⟩:∃ q,(c+1)*(d+1)=q:=⟨_,rfl⟩
 have HQ0:Hid (q≠0):=by rw [← hq];exact Nat.mul_ne_zero (Nat.succ_ne_zero _) (Nat.succ_ne_zero _)
 rw [hp] at HBx
 rw [hr] at HBy
 rw [hq] at HMN
 obtain ⟨cc,hcc⟩:∃ cc,codeC op a b c d=cc:=⟨_,rfl⟩
 obtain ⟨cn,hcn⟩:∃ cn,numC op a b c d=cn:=⟨_,rfl⟩
 obtain ⟨cl,hcl⟩:∃ cl,lessC op a b c d=cl:=⟨_,rfl⟩
 rw [hcc,hcn,hcl]
 have HCC:Hid ((bitsN p.natAbs≤4096∧bitsN r.natAbs≤4096∧bitsN q≤4096∧bitsN (op p r).natAbs≤4096→cc=0∧cn=lowNum (op p r) q∧cl=lowLess (op p r) q)∧(¬ (bitsN p.natAbs≤4096∧bitsN r.natAbs≤4096∧bitsN q≤4096∧bitsN (op p r).natAbs≤4096)→cc=3∧cn=0∧cl=0)):=by
  clear HBx HBy HMN
  subst hp
  subst hr
  subst hq
  constructor
  ·intro hh
   have hc:crossFits op a b c d:=hh
   exact ⟨hcc.symm.trans (if_pos hc),hcn.symm.trans (if_pos hc),hcl.symm.trans (if_pos hc)⟩
  ·intro hh
   have hc:¬ crossFits op a b c d:=hh
   exact ⟨hcc.symm.trans (if_neg hc),hcn.symm.trans (if_neg hc),hcl.symm.trans (if_neg hc)⟩
 clear h hb hXW0 hcc hcn hcl hp hr hq hF HC
 go_enter Tryz.func144,Tryz.ntmps144
 go_wp2
 rw [HWW0.out]
 clear HWW0
 go_upto_region 2 with (fail)
 go_cut [9,10] (fun s9 s10 wx=>∃ b9,s9 = .pointer (some ⟨b9,0,none⟩)∧s10 = .int .i64 (codeZ p)∧W0.heap.size≤b9∧Hid (IntB wx b9 (fitZ p))∧Hid (Ext W0 wx))
 case first =>
  have HKeep:=zH (fun (w':World) (hx:Ext W0 w')=>(show w'.cell? ⟨w.heap.size,0,none⟩=some (.bool na)∧w'.cell? ⟨w.heap.size,1,none⟩=some (.slice A k k)∧w'.cell? ⟨w.heap.size,2,none⟩=some (.slice B m m)∧w'.cell? ⟨w.heap.size+1,0,none⟩=some (.bool nb)∧w'.cell? ⟨w.heap.size+1,1,none⟩=some (.slice C j j)∧w'.cell? ⟨w.heap.size+1,2,none⟩=some (.slice D l l) from ⟨hx.cell c0a,hx.cell c0b,hx.cell c0c,hx.cell c1a,hx.cell c1b,hx.cell c1c⟩))
  go_region_held3 (fun w'=>w'.cell? ⟨w.heap.size,0,none⟩=some (.bool na)∧w'.cell? ⟨w.heap.size,1,none⟩=some (.slice A k k)∧w'.cell? ⟨w.heap.size,2,none⟩=some (.slice B m m)∧w'.cell? ⟨w.heap.size+1,0,none⟩=some (.bool nb)∧w'.cell? ⟨w.heap.size+1,1,none⟩=some (.slice C j j)∧w'.cell? ⟨w.heap.size+1,2,none⟩=some (.slice D l l)) (exact HKeep.out _ Ext.uc)
   (first
    | (go_at_call 146;refine (HDy.out _ Ext.uc).mono ?_;rintro e w1 ⟨A1,e1,rfl,hn1,hx⟩;(first|(have k1:=blk1 hx)|(have k1:=True.intro));have hxA:Ext W0 w1:=Ext.trans Ext.uc hx;have HN1:=zH hn1;clear hn1;have hs1:=hxA.size;have hz1:=hx.size;(try simp only [World.size_alloc,World.size_drew,World.size_setCell] at hz1);  clear hx)
    | (go_at_call 190;refine (HBx.out _ Ext.uc _ _ (HN1.out.ext (by first|exact Ext.refl _|exact (Ext.refl _).alloc _))).mono ?_;rintro e w2 ⟨n2,A2,e2,rfl,hn2,hx⟩;(first|(have k2:=blk1n hx)|(have k2:=True.intro));(first|(have kk:=carry1 k1 (Ext.trans Ext.ud hx);clear k1;have k1:=kk;clear kk)|skip);have hxN:Ext W0 w2:=Ext.trans Ext.uc hx;clear hxA;have hxA:=hxN;clear hxN;have HN2:=zH hn2;clear hn2;have hs2:=hxA.size;have hz2:=hx.size;(try simp only [World.size_alloc,World.size_drew,World.size_setCell] at hz2);(first|(have zl1:=Blk.lt k1)|skip);(first|(have zz:=Blk.two k1;obtain ⟨zc1,zf1,zd1,zg1⟩:=zz)|skip);(first|(have zl2:=Blk.lt k2)|skip);(first|(have zz:=Blk.two k2;obtain ⟨zc2,zf2,zd2,zg2⟩:=zz)|skip);  clear hx))
  all_goals
   go_wp2
   go_meet
   first
   | exact ⟨w2.heap.size,rfl,rfl,hs2,IntB.new HN2.out,hxA.alloc _⟩
   | exact ⟨W0.heap.size,rfl,rfl,Nat.le_refl _,IntB.put k1 HN2.out,(hxA.setCell (p:=⟨_,0,none⟩) (Nat.le_refl _) _).setCell (p:=⟨_,1,none⟩) (Nat.le_refl _) _⟩
   | exact ⟨w1.heap.size,rfl,rfl,hs1,IntB.put k2 HN2.out,(hxA.setCell (p:=⟨_,0,none⟩) (hs1) _).setCell (p:=⟨_,1,none⟩) (hs1) _⟩
 obtain ⟨b9,rfl,rfl,hb9,HB9,HXa⟩:=hcut
 obtain ⟨Wa,hWa⟩:∃ Wa,wc=Wa:=⟨_,rfl⟩
 rw [hWa] at HB9 HXa ⊢
 clear hWa wc
 replace f0a:=HXa.out.free f0a (zAA c0a)
 replace c0a:=HXa.out.cell c0a
 replace f0b:=HXa.out.free f0b (zAA c0b)
 replace c0b:=HXa.out.cell c0b
 replace f0c:=HXa.out.free f0c (zAA c0c)
 replace c0c:=HXa.out.cell c0c
 replace f1a:=HXa.out.free f1a (zAA c1a)
 replace c1a:=HXa.out.cell c1a
 replace f1b:=HXa.out.free f1b (zAA c1b)
 replace c1b:=HXa.out.cell c1b
 replace f1c:=HXa.out.free f1c (zAA c1c)
 replace c1c:=HXa.out.cell c1c
 replace f2a:=HXa.out.free f2a (zAA c2a)
 replace c2a:=HXa.out.cell c2a
 replace f2b:=HXa.out.free f2b (zAA c2b)
 replace c2b:=HXa.out.cell c2b
 replace f2c:=HXa.out.free f2c (zAA c2c)
 replace c2c:=HXa.out.cell c2c
 go_upto_region 3 with (fail)
 go_cut [11,12] (fun s11 s12 wx=>∃ b11,s11 = .pointer (some ⟨b11,0,none⟩)∧s12 = .int .i64 (codeZ r)∧Wa.heap.size≤b11∧Hid (IntB wx b11 (fitZ r))∧Hid (Ext Wa wx))
 case first =>
  have HKeep:=zH (fun (w':World) (hx:Ext Wa w')=>(show w'.cell? ⟨w.heap.size,0,none⟩=some (.bool na)∧w'.cell? ⟨w.heap.size,1,none⟩=some (.slice A k k)∧w'.cell? ⟨w.heap.size,2,none⟩=some (.slice B m m)∧w'.cell? ⟨w.heap.size+1,0,none⟩=some (.bool nb)∧w'.cell? ⟨w.heap.size+1,1,none⟩=some (.slice C j j)∧w'.cell? ⟨w.heap.size+1,2,none⟩=some (.slice D l l) from ⟨hx.cell c0a,hx.cell c0b,hx.cell c0c,hx.cell c1a,hx.cell c1b,hx.cell c1c⟩))
  go_region_held3 (fun w'=>w'.cell? ⟨w.heap.size,0,none⟩=some (.bool na)∧w'.cell? ⟨w.heap.size,1,none⟩=some (.slice A k k)∧w'.cell? ⟨w.heap.size,2,none⟩=some (.slice B m m)∧w'.cell? ⟨w.heap.size+1,0,none⟩=some (.bool nb)∧w'.cell? ⟨w.heap.size+1,1,none⟩=some (.slice C j j)∧w'.cell? ⟨w.heap.size+1,2,none⟩=some (.slice D l l)) (exact HKeep.out _ Ext.uc)
   (first
    | (go_at_call 146;refine (HDx.out _ (HXa.out.trans Ext.uc)).mono ?_;rintro e w1 ⟨A1,e1,rfl,hn1,hx⟩;(first|(have k1:=blk1 hx)|(have k1:=True.intro));have hxA:Ext Wa w1:=Ext.trans Ext.uc hx;have HN1:=zH hn1;clear hn1;have hs1:=hxA.size;have hz1:=hx.size;(try simp only [World.size_alloc,World.size_drew,World.size_setCell] at hz1);  clear hx)
    | (go_at_call 190;refine (HBy.out _ (HXa.out.trans Ext.uc) _ _ (HN1.out.ext (by first|exact Ext.refl _|exact (Ext.refl _).alloc _))).mono ?_;rintro e w2 ⟨n2,A2,e2,rfl,hn2,hx⟩;(first|(have k2:=blk1n hx)|(have k2:=True.intro));(first|(have kk:=carry1 k1 (Ext.trans Ext.ud hx);clear k1;have k1:=kk;clear kk)|skip);have hxN:Ext Wa w2:=Ext.trans Ext.uc hx;clear hxA;have hxA:=hxN;clear hxN;have HN2:=zH hn2;clear hn2;have hs2:=hxA.size;have hz2:=hx.size;(try simp only [World.size_alloc,World.size_drew,World.size_setCell] at hz2);(first|(have zl1:=Blk.lt k1)|skip);(first|(have zz:=Blk.two k1;obtain ⟨zc1,zf1,zd1,zg1⟩:=zz)|skip);(first|(have zl2:=Blk.lt k2)|skip);(first|(have zz:=Blk.two k2;obtain ⟨zc2,zf2,zd2,zg2⟩:=zz)|skip);  clear hx))
  all_goals
   go_wp2
   go_meet
   first
   | exact ⟨w2.heap.size,rfl,rfl,hs2,IntB.new HN2.out,hxA.alloc _⟩
   | exact ⟨Wa.heap.size,rfl,rfl,Nat.le_refl _,IntB.put k1 HN2.out,(hxA.setCell (p:=⟨_,0,none⟩) (Nat.le_refl _) _).setCell (p:=⟨_,1,none⟩) (Nat.le_refl _) _⟩
   | exact ⟨w1.heap.size,rfl,rfl,hs1,IntB.put k2 HN2.out,(hxA.setCell (p:=⟨_,0,none⟩) (hs1) _).setCell (p:=⟨_,1,none⟩) (hs1) _⟩
 obtain ⟨b11,rfl,rfl,hb11,HB11,HXb⟩:=hcut
 obtain ⟨Wb,hWb⟩:∃ Wb,wc=Wb:=⟨_,rfl⟩
 rw [hWb] at HB11 HXb ⊢
 clear hWb wc
 replace f0a:=HXb.out.free f0a (zAA c0a)
 replace c0a:=HXb.out.cell c0a
 replace f0b:=HXb.out.free f0b (zAA c0b)
 replace c0b:=HXb.out.cell c0b
 replace f0c:=HXb.out.free f0c (zAA c0c)
 replace c0c:=HXb.out.cell c0c
 replace f1a:=HXb.out.free f1a (zAA c1a)
 replace c1a:=HXb.out.cell c1a
 replace f1b:=HXb.out.free f1b (zAA c1b)
 replace c1b:=HXb.out.cell c1b
 replace f1c:=HXb.out.free f1c (zAA c1c)
 replace c1c:=HXb.out.cell c1c
 replace f2a:=HXb.out.free f2a (zAA c2a)
 replace c2a:=HXb.out.cell c2a
 replace f2b:=HXb.out.free f2b (zAA c2b)
 replace c2b:=HXb.out.cell c2b
 replace f2c:=HXb.out.free f2c (zAA c2c)
 replace c2c:=HXb.out.cell c2c
 have HX0b:=zH (HXa.out.trans HXb.out)
 have HB9b:=zH (HB9.out.ext HXb.out)
 clear HB9
 go_upto_region 4 with (fail)
 go_cut [13,14] (fun s13 s14 wx=>∃ b13,s13 = .pointer (some ⟨b13,0,none⟩)∧s14 = .int .i64 (codeN q)∧Wb.heap.size≤b13∧Hid (NatB wx b13 (fitN q))∧Hid (Ext Wb wx))
 case first =>
  have HKeep:=zH (fun (w':World) (hx:Ext Wb w')=>(show w'.cell? ⟨w.heap.size,0,none⟩=some (.bool na)∧w'.cell? ⟨w.heap.size,1,none⟩=some (.slice A k k)∧w'.cell? ⟨w.heap.size,2,none⟩=some (.slice B m m)∧w'.cell? ⟨w.heap.size+1,0,none⟩=some (.bool nb)∧w'.cell? ⟨w.heap.size+1,1,none⟩=some (.slice C j j)∧w'.cell? ⟨w.heap.size+1,2,none⟩=some (.slice D l l) from ⟨hx.cell c0a,hx.cell c0b,hx.cell c0c,hx.cell c1a,hx.cell c1b,hx.cell c1c⟩))
  go_region_held3 (fun w'=>w'.cell? ⟨w.heap.size,0,none⟩=some (.bool na)∧w'.cell? ⟨w.heap.size,1,none⟩=some (.slice A k k)∧w'.cell? ⟨w.heap.size,2,none⟩=some (.slice B m m)∧w'.cell? ⟨w.heap.size+1,0,none⟩=some (.bool nb)∧w'.cell? ⟨w.heap.size+1,1,none⟩=some (.slice C j j)∧w'.cell? ⟨w.heap.size+1,2,none⟩=some (.slice D l l)) (exact HKeep.out _ Ext.uc)
   (first
    | (go_at_call 146;with_reducible refine Calls.mono (HDx.out _ ?_) ?_;exact (HX0b.out.trans Ext.uc);rintro e w1 ⟨A1,e1,rfl,hn1,hx⟩;(first|(have k1:=blk1 hx)|(have k1:=True.intro));have hxN:Ext Wb w1:=Ext.trans Ext.uc hx;have hxA:=hxN;clear hxN;have HN1:=zH hn1;clear hn1;have hs1:=hxA.size;have hz1:=hx.size;(try simp only [World.size_alloc,World.size_drew,World.size_setCell] at hz1);  clear hx)
    | (go_at_call 146;with_reducible refine Calls.mono (HDy.out _ ?_) ?_;exact (HX0b.out.trans Ext.uc);rintro e w2 ⟨A2,e2,rfl,hn2,hx⟩;(first|(have k2:=blk1n hx)|(have k2:=True.intro));(first|(have kk:=carry1 k1 (Ext.trans Ext.ud hx);clear k1;have k1:=kk;clear kk)|skip);have hxN:Ext Wb w2:=Ext.trans Ext.uc hx;(try clear hxA);have hxA:=hxN;clear hxN;have HN2:=zH hn2;clear hn2;(first|(have hh2:=zH (HN1.out.ext (Ext.trans (by repeat (first|exact Ext.refl _|refine Ext.alloc ?_ _)) hx));clear HN1;have HN1:=hh2;clear hh2));have hs2:=hxA.size;have hz2:=hx.size;(try simp only [World.size_alloc,World.size_drew,World.size_setCell] at hz2);  clear hx)
    | (go_at_call 113;refine (HMN.out _ _ _ (HN1.out.ext (by first|exact Ext.refl _|exact (Ext.refl _).alloc _)) _ _ (HN2.out.ext (by first|exact Ext.refl _|exact (Ext.refl _).alloc _))).mono ?_;rintro e w3 ⟨A3,e3,rfl,hn3,hx⟩;(first|(have k3:=blk1n hx)|(have k3:=True.intro));(first|(have kk:=carry1 k1 (Ext.trans Ext.ud hx);clear k1;have k1:=kk;clear kk)|skip);(first|(have kk:=carry1 k2 (Ext.trans Ext.ud hx);clear k2;have k2:=kk;clear kk)|skip);have hxN:Ext Wb w3:=Ext.trans Ext.uc hx;(try clear hxA);have hxA:=hxN;clear hxN;have HN3:=zH hn3;clear hn3;have hs3:=hxA.size;have hz3:=hx.size;(try simp only [World.size_alloc,World.size_drew,World.size_setCell] at hz3);(first|(have zl1:=Blk.lt k1)|skip);(first|(have zz:=Blk.one k1;obtain ⟨zc1,zf1⟩:=zz)|skip);(first|(have zl2:=Blk.lt k2)|skip);(first|(have zz:=Blk.one k2;obtain ⟨zc2,zf2⟩:=zz)|skip);(first|(have zl3:=Blk.lt k3)|skip);(first|(have zz:=Blk.one k3;obtain ⟨zc3,zf3⟩:=zz)|skip);  clear hx))
  all_goals
   go_wp2
   go_meet
   first
   | exact ⟨_,rfl,rfl,(by first|omega),NatB.new HN3.out (zAg q),hxA.alloc _⟩
   | exact ⟨_,rfl,rfl,(by first|exact Nat.le_refl _),NatB.put k1 HN3.out (zAg q),hxA.setCell (p:=⟨_,0,none⟩) (by first|exact Nat.le_refl _) _⟩
   | exact ⟨_,rfl,rfl,(by first|omega),NatB.put k2 HN3.out (zAg q),hxA.setCell (p:=⟨_,0,none⟩) (by first|(simp only [];omega)) _⟩
   | exact ⟨_,rfl,rfl,(by first|omega),NatB.put k3 HN3.out (zAg q),hxA.setCell (p:=⟨_,0,none⟩) (by first|(simp only [];omega)) _⟩
 obtain ⟨b13,rfl,rfl,hb13,HB13,HXc⟩:=hcut
 obtain ⟨Wc,hWc⟩:∃ Wc,wc=Wc:=⟨_,rfl⟩
 rw [hWc] at HB13 HXc ⊢
 clear hWc wc
 replace f2a:=HXc.out.free f2a (zAA c2a)
 replace c2a:=HXc.out.cell c2a
 replace f2b:=HXc.out.free f2b (zAA c2b)
 replace c2b:=HXc.out.cell c2b
 replace f2c:=HXc.out.free f2c (zAA c2c)
 replace c2c:=HXc.out.cell c2c
 have HXw:=zH (HX.out.trans (HX0b.out.trans HXc.out))
 have HB9:=zH (HB9b.out.ext HXc.out)
 have HBl:=zH (HB11.out.ext HXc.out)
 clear HB9b HB11 HX HXa HXb HX0b HR0 HR1 HDx HDy HBx HBy HMN
 obtain ⟨n9,A9,k9,q9,hi9⟩:=HB9.out.box
 obtain ⟨c9a,f9a,c9b,f9b⟩:=q9.two
 have hl9:=q9.lt
 obtain ⟨nb1,A11,k11,q11,hi11⟩:=HBl.out.box
 obtain ⟨e11a,g11a,e11b,g11b⟩:=q11.two
 have hl11:=q11.lt
 obtain ⟨A13,k13,q13,hn13⟩:=HB13.out.box
 obtain ⟨c13,f13⟩:=q13.one
 have hl13:=q13.lt
 have HI9:=zH hi9
 have HI11:=zH hi11
 have HN13:=zH hn13
 clear hi9 hi11 hn13 q9 q11 q13 HB9 HBl HB13
 by_cases hp:bitsN p.natAbs≤4096
 ·rw [zBe hp]
  by_cases hr:bitsN r.natAbs≤4096
  ·rw [zBe hr]
   by_cases hq:bitsN q≤4096
   ·rw [zCr hq]
    rw [zCB hp] at HI9
    rw [zCB hr] at HI11
    rw [fitN_of hq] at HN13
    have HO:=zH (fun W (hx:Ext Wc W)=>HFF.out n9 nb1 A9 A11 k9 k11 p r W (HI9.out.ext hx) (HI11.out.ext hx))
    obtain ⟨v,hv⟩:∃ v,op p r=v:=⟨_,rfl⟩
    rw [hv] at HO HCC
    clear hv HFF
    by_cases ho:bitsN v.natAbs≤4096
    ·rw [zBe ho,zCB ho] at HO
     have HV:=zH (HCC.out.1 ⟨hp,hr,hq,ho⟩)
     have HLow:=zH (fun W (hx:Ext Wc W) nv Av kv (h1:IsInt W nv Av kv v)=>low_any nv Av A13 kv k13 v q W h1 (HN13.out.ext hx) hq HQ0.out)
     clear hp hr hq ho HCC
     go_wp2_with (first
      | (go_at_call 67;refine (HO.out _ (by first|exact Ext.refl _)).mono ?_;rintro e w1 ⟨n1,A1,k1,rfl,hn1,hx1⟩;have hs1:=hx1.size;have HN1:=zH hn1;clear hn1;have d2a:=hx1.cell c2a;have y2a:=hx1.free f2a (zAA c2a);have d2b:=hx1.cell c2b;have y2b:=hx1.free f2b (zAA c2b);have d2c:=hx1.cell c2c;have y2c:=hx1.free f2c (zAA c2c);have d13:=hx1.cell c13;have y13:=hx1.free f13 (zAA c13);have e2a:=((Ext.refl w1).alloc (.cells #[.bool n1,.slice A1 k1 k1] 49)).cell d2a;have g2a:=((Ext.refl w1).alloc (.cells #[.bool n1,.slice A1 k1 k1] 49)).free y2a (zAA d2a);have e2b:=((Ext.refl w1).alloc (.cells #[.bool n1,.slice A1 k1 k1] 49)).cell d2b;have g2b:=((Ext.refl w1).alloc (.cells #[.bool n1,.slice A1 k1 k1] 49)).free y2b (zAA d2b);have e2c:=((Ext.refl w1).alloc (.cells #[.bool n1,.slice A1 k1 k1] 49)).cell d2c;have g2c:=((Ext.refl w1).alloc (.cells #[.bool n1,.slice A1 k1 k1] 49)).free y2c (zAA d2c);have e13:=((Ext.refl w1).alloc (.cells #[.bool n1,.slice A1 k1 k1] 49)).cell d13;have g13:=((Ext.refl w1).alloc (.cells #[.bool n1,.slice A1 k1 k1] 49)).free y13 (zAA d13))
      | (go_at_call 191;(refine (HLow.out _ (by repeat (first|exact hx1|refine Ext.alloc ?_ _)) _ _ _ (HN1.out.ext (by repeat (first|exact Ext.refl _|refine Ext.alloc ?_ _)))).mono ?_);rintro e w3 ⟨n3,A3,k3,B3,m3,rfl,hr3,hx3⟩;have hs3:=hx3.size;have HR3:=zH hr3;clear hr3;have t1:=hx3.cell (((Ext.refl w1).alloc _).cell d2a);have u1:=hx3.free (((Ext.refl w1).alloc _).free y2a (zAA d2a)) (zAA (((Ext.refl w1).alloc _).cell d2a));have t2:=hx3.cell (((Ext.refl w1).alloc _).cell d2b);have u2:=hx3.free (((Ext.refl w1).alloc _).free y2b (zAA d2b)) (zAA (((Ext.refl w1).alloc _).cell d2b));have t3:=hx3.cell (((Ext.refl w1).alloc _).cell d2c);have u3:=hx3.free (((Ext.refl w1).alloc _).free y2c (zAA d2c)) (zAA (((Ext.refl w1).alloc _).cell d2c))))
     have HXe:=zH (HXw.out.trans ((hx1.alloc _).trans hx3))
     exact bodyPost_ret (v:=.tuple #[.agg #[.bool n3,.slice A3 k3 k3,.slice B3 m3 m3],.int .i64 0]) (by simp [results,Tryz.results144,go_sem,t1,t2,t3]) rfl ⟨n3,A3,k3,B3,m3,by rw [HV.out.1],by rw [HV.out.2.1,HV.out.2.2];exact HR3.out.setRes t1 t2 t3 _ _ _,(by repeat (first|exact HXe.out|refine Ext.setCell ?_ (by first|(simp only [];omega)) _))⟩
    ·rw [zBd ho] at HO
     have HV:=zH (HCC.out.2 (fun hh=>ho hh.2.2.2))
     clear hp hr hq ho HCC HN13 HQ0 HI9 HI11
     go_wp2_with (go_at_call 67;refine (HO.out _ (by first|exact Ext.refl _)).mono ?_;rintro e w1 ⟨n1,A1,k1,rfl,hn1,hx1⟩;have hs1:=hx1.size;clear hn1;have d2a:=hx1.cell c2a;have y2a:=hx1.free f2a (zAA c2a);have d2b:=hx1.cell c2b;have y2b:=hx1.free f2b (zAA c2b);have d2c:=hx1.cell c2c;have y2c:=hx1.free f2c (zAA c2c);have e2a:=((Ext.refl w1).alloc (.cells #[.bool n1,.slice A1 k1 k1] 49)).cell d2a;have g2a:=((Ext.refl w1).alloc (.cells #[.bool n1,.slice A1 k1 k1] 49)).free y2a (zAA d2a);have e2b:=((Ext.refl w1).alloc (.cells #[.bool n1,.slice A1 k1 k1] 49)).cell d2b;have g2b:=((Ext.refl w1).alloc (.cells #[.bool n1,.slice A1 k1 k1] 49)).free y2b (zAA d2b);have e2c:=((Ext.refl w1).alloc (.cells #[.bool n1,.slice A1 k1 k1] 49)).cell d2c;have g2c:=((Ext.refl w1).alloc (.cells #[.bool n1,.slice A1 k1 k1] 49)).free y2c (zAA d2c))
     have HXe:=zH (HXw.out.trans hx1)
     exact bodyPost_ret (v:=.tuple #[.agg #[.bool false,.slice none 0 0,.slice none 0 0],.int .i64 3]) (by simp [results,Tryz.results144,go_sem,e2a,e2b,e2c]) rfl ⟨false,none,0,none,0,by rw [HV.out.1],by rw [HV.out.2.1,HV.out.2.2];exact zAZ _,(by repeat (first|exact HXe.out|refine Ext.setCell ?_ (by first|(simp only [];omega)) _|refine Ext.alloc ?_ _))⟩
   ·rw [zCq hq]
    have HV:=zH (HCC.out.2 (fun hh=>hq hh.2.2.1))
    clear HCC HN13 HQ0 HI9 HI11 HFF
    go_wp2
    exact bodyPost_ret (v:=.tuple #[.agg #[.bool false,.slice none 0 0,.slice none 0 0],.int .i64 3]) (by simp [results,Tryz.results144,go_sem,c2a,c2b,c2c]) rfl ⟨false,none,0,none,0,by rw [HV.out.1],by rw [HV.out.2.1,HV.out.2.2];exact zAZ _,(by repeat (first|exact HXw.out|refine Ext.setCell ?_ (by first|(simp only [];omega)) _))⟩
  ·rw [zBd hr]
   have HV:=zH (HCC.out.2 (fun hh=>hr hh.2.1))
   clear HCC HN13 HQ0 HI9 HI11 HFF
   go_wp2
   exact bodyPost_ret (v:=.tuple #[.agg #[.bool false,.slice none 0 0,.slice none 0 0],.int .i64 3]) (by simp [results,Tryz.results144,go_sem,c2a,c2b,c2c]) rfl ⟨false,none,0,none,0,by rw [HV.out.1],by rw [HV.out.2.1,HV.out.2.2];exact zAZ _,(by repeat (first|exact HXw.out|refine Ext.setCell ?_ (by first|(simp only [];omega)) _))⟩
 ·rw [zBd hp]
  have HV:=zH (HCC.out.2 (fun hh=>hp hh.1))
  clear HCC HN13 HQ0 HI9 HI11 HFF
  go_wp2
  exact bodyPost_ret (v:=.tuple #[.agg #[.bool false,.slice none 0 0,.slice none 0 0],.int .i64 3]) (by simp [results,Tryz.results144,go_sem,c2a,c2b,c2c]) rfl ⟨false,none,0,none,0,by rw [HV.out.1],by rw [HV.out.2.1,HV.out.2.2];exact zAZ _,(by repeat (first|exact HXw.out|refine Ext.setCell ?_ (by first|(simp only [];omega)) _))⟩
set_option maxRecDepth 4000 in
set_option maxHeartbeats 4000000 in
theorem crossSub_any (op:Int→Int→Int) (hF:TellsZ 129 op) (na nb:Bool) (A B C D:Option Addr) (k m j l:Nat) (a b:Int) (c d:Nat) (w:World) (h:IsRat w na A k B m a c) (hb:IsRat w nb C j D l b d) :
  Calls Tryz.prog 144 #[.agg #[.bool na,.slice A k k,.slice B m m],.agg #[.bool nb,.slice C j j,.slice D l l],.func (.func 129) #[] #[]] w fun e w'=>∃ n A' k' B' m',e = .returned (.tuple #[.agg #[.bool n,.slice A' k' k',.slice B' m' m'],.int .i64 (codeC op a b c d)])∧IsRat w' n A' k' B' m' (numC op a b c d) (lessC op a b c d)∧Ext w w':=by
 obtain ⟨W0,HWW0,hXW0,hsW0,c0a,f0a,c0b,f0b,c0c,f0c,c1a,f1a,c1b,f1b,c1c,f1c,c2a,f2a,c2b,f2b,c2c,f2c⟩:=bx333 w 144 144 144 (.bool na) (.slice A k k) (.slice B m m) (.bool nb) (.slice C j j) (.slice D l l) (.bool false) (.slice none 0 0) (.slice none 0 0)
 have HX:=zH hXW0
 have HR0:=zH (h.ext hXW0)
 have HR1:=zH (hb.ext hXW0)
 have HDx:=zH (fun W (hx:Ext W0 W)=>zA0 na A B k m a c W (HR0.out.ext hx))
 have HDy:=zH (fun W (hx:Ext W0 W)=>zA0 nb C D j l b d W (HR1.out.ext hx))
 have HBx:=zH (fun W (hx:Ext W0 W) E e (he:IsNat W E e (d+1))=>by_any na A E k e a (d+1) W (HR0.out.num.ext hx) he HR1.out.bits)
 have HBy:=zH (fun W (hx:Ext W0 W) E e (he:IsNat W E e (c+1))=>by_any nb C E j e b (c+1) W (HR1.out.num.ext hx) he HR0.out.bits)
 have HMN:=zH (fun W E e (he:IsNat W E e (c+1)) G g (hg:IsNat W G g (d+1))=>Mul_any E G e g (c+1) (d+1) W he hg HR0.out.bits HR1.out.bits)
 have HFF:=zH hF
 have HC:Hid (codeC op a b c d=codeC op a b c d∧True):=⟨rfl,trivial⟩
 obtain ⟨p,hp⟩:∃ p,a*(d+1:Nat)=p:=⟨_,rfl⟩
 obtain ⟨r,hr⟩:∃ r,b*(c+1:Nat)=r:=⟨_,rfl⟩
 obtain ⟨q,hq⟩:∃ q,(c+1)*(d+1)=q:=⟨_,rfl⟩
 have HQ0:Hid (q≠0):=by rw [← hq];exact Nat.mul_ne_zero (Nat.succ_ne_zero _) (Nat.succ_ne_zero _)
 rw [hp] at HBx
 rw [hr] at HBy
 rw [hq] at HMN
 obtain ⟨cc,hcc⟩:∃ cc,codeC op a b c d=cc:=⟨_,rfl⟩
 obtain ⟨cn,hcn⟩:∃ cn,numC op a b c d=cn:=⟨_,rfl⟩
 obtain ⟨cl,hcl⟩:∃ cl,lessC op a b c d=cl:=⟨_,rfl⟩
 rw [hcc,hcn,hcl]
 have HCC:Hid ((bitsN p.natAbs≤4096∧bitsN r.natAbs≤4096∧bitsN q≤4096∧bitsN (op p r).natAbs≤4096→cc=0∧cn=lowNum (op p r) q∧cl=lowLess (op p r) q)∧(¬ (bitsN p.natAbs≤4096∧bitsN r.natAbs≤4096∧bitsN q≤4096∧bitsN (op p r).natAbs≤4096)→cc=3∧cn=0∧cl=0)):=by
  clear HBx HBy HMN
  subst hp
  subst hr
  subst hq
  constructor
  ·intro hh
   have hc:crossFits op a b c d:=hh
   exact ⟨hcc.symm.trans (if_pos hc),hcn.symm.trans (if_pos hc),hcl.symm.trans (if_pos hc)⟩
  ·intro hh
   have hc:¬ crossFits op a b c d:=hh
   exact ⟨hcc.symm.trans (if_neg hc),hcn.symm.trans (if_neg hc),hcl.symm.trans (if_neg hc)⟩
 clear h hb hXW0 hcc hcn hcl hp hr hq hF HC
 go_enter Tryz.func144,Tryz.ntmps144
 go_wp2
 rw [HWW0.out]
 clear HWW0
 go_upto_region 2 with (fail)
 go_cut [9,10] (fun s9 s10 wx=>∃ b9,s9 = .pointer (some ⟨b9,0,none⟩)∧s10 = .int .i64 (codeZ p)∧W0.heap.size≤b9∧Hid (IntB wx b9 (fitZ p))∧Hid (Ext W0 wx))
 case first =>
  have HKeep:=zH (fun (w':World) (hx:Ext W0 w')=>(show w'.cell? ⟨w.heap.size,0,none⟩=some (.bool na)∧w'.cell? ⟨w.heap.size,1,none⟩=some (.slice A k k)∧w'.cell? ⟨w.heap.size,2,none⟩=some (.slice B m m)∧w'.cell? ⟨w.heap.size+1,0,none⟩=some (.bool nb)∧w'.cell? ⟨w.heap.size+1,1,none⟩=some (.slice C j j)∧w'.cell? ⟨w.heap.size+1,2,none⟩=some (.slice D l l) from ⟨hx.cell c0a,hx.cell c0b,hx.cell c0c,hx.cell c1a,hx.cell c1b,hx.cell c1c⟩))
  go_region_held3 (fun w'=>w'.cell? ⟨w.heap.size,0,none⟩=some (.bool na)∧w'.cell? ⟨w.heap.size,1,none⟩=some (.slice A k k)∧w'.cell? ⟨w.heap.size,2,none⟩=some (.slice B m m)∧w'.cell? ⟨w.heap.size+1,0,none⟩=some (.bool nb)∧w'.cell? ⟨w.heap.size+1,1,none⟩=some (.slice C j j)∧w'.cell? ⟨w.heap.size+1,2,none⟩=some (.slice D l l)) (exact HKeep.out _ Ext.uc)
   (first
    | (go_at_call 146;refine (HDy.out _ Ext.uc).mono ?_;rintro e w1 ⟨A1,e1,rfl,hn1,hx⟩;(first|(have k1:=blk1 hx)|(have k1:=True.intro));have hxA:Ext W0 w1:=Ext.trans Ext.uc hx;have HN1:=zH hn1;clear hn1;have hs1:=hxA.size;have hz1:=hx.size;(try simp only [World.size_alloc,World.size_drew,World.size_setCell] at hz1);  clear hx)
    | (go_at_call 190;refine (HBx.out _ Ext.uc _ _ (HN1.out.ext (by first|exact Ext.refl _|exact (Ext.refl _).alloc _))).mono ?_;rintro e w2 ⟨n2,A2,e2,rfl,hn2,hx⟩;(first|(have k2:=blk1n hx)|(have k2:=True.intro));(first|(have kk:=carry1 k1 (Ext.trans Ext.ud hx);clear k1;have k1:=kk;clear kk)|skip);have hxN:Ext W0 w2:=Ext.trans Ext.uc hx;clear hxA;have hxA:=hxN;clear hxN;have HN2:=zH hn2;clear hn2;have hs2:=hxA.size;have hz2:=hx.size;(try simp only [World.size_alloc,World.size_drew,World.size_setCell] at hz2);(first|(have zl1:=Blk.lt k1)|skip);(first|(have zz:=Blk.two k1;obtain ⟨zc1,zf1,zd1,zg1⟩:=zz)|skip);(first|(have zl2:=Blk.lt k2)|skip);(first|(have zz:=Blk.two k2;obtain ⟨zc2,zf2,zd2,zg2⟩:=zz)|skip);  clear hx))
  all_goals
   go_wp2
   go_meet
   first
   | exact ⟨w2.heap.size,rfl,rfl,hs2,IntB.new HN2.out,hxA.alloc _⟩
   | exact ⟨W0.heap.size,rfl,rfl,Nat.le_refl _,IntB.put k1 HN2.out,(hxA.setCell (p:=⟨_,0,none⟩) (Nat.le_refl _) _).setCell (p:=⟨_,1,none⟩) (Nat.le_refl _) _⟩
   | exact ⟨w1.heap.size,rfl,rfl,hs1,IntB.put k2 HN2.out,(hxA.setCell (p:=⟨_,0,none⟩) (hs1) _).setCell (p:=⟨_,1,none⟩) (hs1) _⟩
 obtain ⟨b9,rfl,rfl,hb9,HB9,HXa⟩:=hcut
 obtain ⟨Wa,hWa⟩:∃ Wa,wc=Wa:=⟨_,rfl⟩
 rw [hWa] at HB9 HXa ⊢
 clear hWa wc
 replace f0a:=HXa.out.free f0a (zAA c0a)
 replace c0a:=HXa.out.cell c0a
 replace f0b:=HXa.out.free f0b (zAA c0b)
 replace c0b:=HXa.out.cell c0b
 replace f0c:=HXa.out.free f0c (zAA c0c)
 replace c0c:=HXa.out.cell c0c
 replace f1a:=HXa.out.free f1a (zAA c1a)
 replace c1a:=HXa.out.cell c1a
 replace f1b:=HXa.out.free f1b (zAA c1b)
 replace c1b:=HXa.out.cell c1b
 replace f1c:=HXa.out.free f1c (zAA c1c)
 replace c1c:=HXa.out.cell c1c
 replace f2a:=HXa.out.free f2a (zAA c2a)
 replace c2a:=HXa.out.cell c2a
 replace f2b:=HXa.out.free f2b (zAA c2b)
 replace c2b:=HXa.out.cell c2b
 replace f2c:=HXa.out.free f2c (zAA c2c)
 replace c2c:=HXa.out.cell c2c
 go_upto_region 3 with (fail)
 go_cut [11,12] (fun s11 s12 wx=>∃ b11,s11 = .pointer (some ⟨b11,0,none⟩)∧s12 = .int .i64 (codeZ r)∧Wa.heap.size≤b11∧Hid (IntB wx b11 (fitZ r))∧Hid (Ext Wa wx))
 case first =>
  have HKeep:=zH (fun (w':World) (hx:Ext Wa w')=>(show w'.cell? ⟨w.heap.size,0,none⟩=some (.bool na)∧w'.cell? ⟨w.heap.size,1,none⟩=some (.slice A k k)∧w'.cell? ⟨w.heap.size,2,none⟩=some (.slice B m m)∧w'.cell? ⟨w.heap.size+1,0,none⟩=some (.bool nb)∧w'.cell? ⟨w.heap.size+1,1,none⟩=some (.slice C j j)∧w'.cell? ⟨w.heap.size+1,2,none⟩=some (.slice D l l) from ⟨hx.cell c0a,hx.cell c0b,hx.cell c0c,hx.cell c1a,hx.cell c1b,hx.cell c1c⟩))
  go_region_held3 (fun w'=>w'.cell? ⟨w.heap.size,0,none⟩=some (.bool na)∧w'.cell? ⟨w.heap.size,1,none⟩=some (.slice A k k)∧w'.cell? ⟨w.heap.size,2,none⟩=some (.slice B m m)∧w'.cell? ⟨w.heap.size+1,0,none⟩=some (.bool nb)∧w'.cell? ⟨w.heap.size+1,1,none⟩=some (.slice C j j)∧w'.cell? ⟨w.heap.size+1,2,none⟩=some (.slice D l l)) (exact HKeep.out _ Ext.uc)
   (first
    | (go_at_call 146;refine (HDx.out _ (HXa.out.trans Ext.uc)).mono ?_;rintro e w1 ⟨A1,e1,rfl,hn1,hx⟩;(first|(have k1:=blk1 hx)|(have k1:=True.intro));have hxA:Ext Wa w1:=Ext.trans Ext.uc hx;have HN1:=zH hn1;clear hn1;have hs1:=hxA.size;have hz1:=hx.size;(try simp only [World.size_alloc,World.size_drew,World.size_setCell] at hz1);  clear hx)
    | (go_at_call 190;refine (HBy.out _ (HXa.out.trans Ext.uc) _ _ (HN1.out.ext (by first|exact Ext.refl _|exact (Ext.refl _).alloc _))).mono ?_;rintro e w2 ⟨n2,A2,e2,rfl,hn2,hx⟩;(first|(have k2:=blk1n hx)|(have k2:=True.intro));(first|(have kk:=carry1 k1 (Ext.trans Ext.ud hx);clear k1;have k1:=kk;clear kk)|skip);have hxN:Ext Wa w2:=Ext.trans Ext.uc hx;clear hxA;have hxA:=hxN;clear hxN;have HN2:=zH hn2;clear hn2;have hs2:=hxA.size;have hz2:=hx.size;(try simp only [World.size_alloc,World.size_drew,World.size_setCell] at hz2);(first|(have zl1:=Blk.lt k1)|skip);(first|(have zz:=Blk.two k1;obtain ⟨zc1,zf1,zd1,zg1⟩:=zz)|skip);(first|(have zl2:=Blk.lt k2)|skip);(first|(have zz:=Blk.two k2;obtain ⟨zc2,zf2,zd2,zg2⟩:=zz)|skip);  clear hx))
  all_goals
   go_wp2
   go_meet
   first
   | exact ⟨w2.heap.size,rfl,rfl,hs2,IntB.new HN2.out,hxA.alloc _⟩
   | exact ⟨Wa.heap.size,rfl,rfl,Nat.le_refl _,IntB.put k1 HN2.out,(hxA.setCell (p:=⟨_,0,none⟩) (Nat.le_refl _) _).setCell (p:=⟨_,1,none⟩) (Nat.le_refl _) _⟩
   | exact ⟨w1.heap.size,rfl,rfl,hs1,IntB.put k2 HN2.out,(hxA.setCell (p:=⟨_,0,none⟩) (hs1) _).setCell (p:=⟨_,1,none⟩) (hs1) _⟩
 obtain ⟨b11,rfl,rfl,hb11,HB11,HXb⟩:=hcut
 obtain ⟨Wb,hWb⟩:∃ Wb,wc=Wb:=⟨_,rfl⟩
 rw [hWb] at HB11 HXb ⊢
 clear hWb wc
 replace f0a:=HXb.out.free f0a (zAA c0a)
 replace c0a:=HXb.out.cell c0a
 replace f0b:=HXb.out.free f0b (zAA c0b)
 replace c0b:=HXb.out.cell c0b
 replace f0c:=HXb.out.free f0c (zAA c0c)
 replace c0c:=HXb.out.cell c0c
 replace f1a:=HXb.out.free f1a (zAA c1a)
 replace c1a:=HXb.out.cell c1a
 replace f1b:=HXb.out.free f1b (zAA c1b)
 replace c1b:=HXb.out.cell c1b
 replace f1c:=HXb.out.free f1c (zAA c1c)
 replace c1c:=HXb.out.cell c1c
 replace f2a:=HXb.out.free f2a (zAA c2a)
 replace c2a:=HXb.out.cell c2a
 replace f2b:=HXb.out.free f2b (zAA c2b)
 replace c2b:=HXb.out.cell c2b
 replace f2c:=HXb.out.free f2c (zAA c2c)
 replace c2c:=HXb.out.cell c2c
 have HX0b:=zH (HXa.out.trans HXb.out)
 have HB9b:=zH (HB9.out.ext HXb.out)
 clear HB9
 go_upto_region 4 with (fail)
 go_cut [13,14] (fun s13 s14 wx=>∃ b13,s13 = .pointer (some ⟨b13,0,none⟩)∧s14 = .int .i64 (codeN q)∧Wb.heap.size≤b13∧Hid (NatB wx b13 (fitN q))∧Hid (Ext Wb wx))
 case first =>
  have HKeep:=zH (fun (w':World) (hx:Ext Wb w')=>(show w'.cell? ⟨w.heap.size,0,none⟩=some (.bool na)∧w'.cell? ⟨w.heap.size,1,none⟩=some (.slice A k k)∧w'.cell? ⟨w.heap.size,2,none⟩=some (.slice B m m)∧w'.cell? ⟨w.heap.size+1,0,none⟩=some (.bool nb)∧w'.cell? ⟨w.heap.size+1,1,none⟩=some (.slice C j j)∧w'.cell? ⟨w.heap.size+1,2,none⟩=some (.slice D l l) from ⟨hx.cell c0a,hx.cell c0b,hx.cell c0c,hx.cell c1a,hx.cell c1b,hx.cell c1c⟩))
  go_region_held3 (fun w'=>w'.cell? ⟨w.heap.size,0,none⟩=some (.bool na)∧w'.cell? ⟨w.heap.size,1,none⟩=some (.slice A k k)∧w'.cell? ⟨w.heap.size,2,none⟩=some (.slice B m m)∧w'.cell? ⟨w.heap.size+1,0,none⟩=some (.bool nb)∧w'.cell? ⟨w.heap.size+1,1,none⟩=some (.slice C j j)∧w'.cell? ⟨w.heap.size+1,2,none⟩=some (.slice D l l)) (exact HKeep.out _ Ext.uc)
   (first
    | (go_at_call 146;with_reducible refine Calls.mono (HDx.out _ ?_) ?_;exact (HX0b.out.trans Ext.uc);rintro e w1 ⟨A1,e1,rfl,hn1,hx⟩;(first|(have k1:=blk1 hx)|(have k1:=True.intro));have hxN:Ext Wb w1:=Ext.trans Ext.uc hx;have hxA:=hxN;clear hxN;have HN1:=zH hn1;clear hn1;have hs1:=hxA.size;have hz1:=hx.size;(try simp only [World.size_alloc,World.size_drew,World.size_setCell] at hz1);  clear hx)
    | (go_at_call 146;with_reducible refine Calls.mono (HDy.out _ ?_) ?_;exact (HX0b.out.trans Ext.uc);rintro e w2 ⟨A2,e2,rfl,hn2,hx⟩;(first|(have k2:=blk1n hx)|(have k2:=True.intro));(first|(have kk:=carry1 k1 (Ext.trans Ext.ud hx);clear k1;have k1:=kk;clear kk)|skip);have hxN:Ext Wb w2:=Ext.trans Ext.uc hx;(try clear hxA);have hxA:=hxN;clear hxN;have HN2:=zH hn2;clear hn2;(first|(have hh2:=zH (HN1.out.ext (Ext.trans (by repeat (first|exact Ext.refl _|refine Ext.alloc ?_ _)) hx));clear HN1;have HN1:=hh2;clear hh2));have hs2:=hxA.size;have hz2:=hx.size;(try simp only [World.size_alloc,World.size_drew,World.size_setCell] at hz2);  clear hx)
    | (go_at_call 113;refine (HMN.out _ _ _ (HN1.out.ext (by first|exact Ext.refl _|exact (Ext.refl _).alloc _)) _ _ (HN2.out.ext (by first|exact Ext.refl _|exact (Ext.refl _).alloc _))).mono ?_;rintro e w3 ⟨A3,e3,rfl,hn3,hx⟩;(first|(have k3:=blk1n hx)|(have k3:=True.intro));(first|(have kk:=carry1 k1 (Ext.trans Ext.ud hx);clear k1;have k1:=kk;clear kk)|skip);(first|(have kk:=carry1 k2 (Ext.trans Ext.ud hx);clear k2;have k2:=kk;clear kk)|skip);have hxN:Ext Wb w3:=Ext.trans Ext.uc hx;(try clear hxA);have hxA:=hxN;clear hxN;have HN3:=zH hn3;clear hn3;have hs3:=hxA.size;have hz3:=hx.size;(try simp only [World.size_alloc,World.size_drew,World.size_setCell] at hz3);(first|(have zl1:=Blk.lt k1)|skip);(first|(have zz:=Blk.one k1;obtain ⟨zc1,zf1⟩:=zz)|skip);(first|(have zl2:=Blk.lt k2)|skip);(first|(have zz:=Blk.one k2;obtain ⟨zc2,zf2⟩:=zz)|skip);(first|(have zl3:=Blk.lt k3)|skip);(first|(have zz:=Blk.one k3;obtain ⟨zc3,zf3⟩:=zz)|skip);  clear hx))
  all_goals
   go_wp2
   go_meet
   first
   | exact ⟨_,rfl,rfl,(by first|omega),NatB.new HN3.out (zAg q),hxA.alloc _⟩
   | exact ⟨_,rfl,rfl,(by first|exact Nat.le_refl _),NatB.put k1 HN3.out (zAg q),hxA.setCell (p:=⟨_,0,none⟩) (by first|exact Nat.le_refl _) _⟩
   | exact ⟨_,rfl,rfl,(by first|omega),NatB.put k2 HN3.out (zAg q),hxA.setCell (p:=⟨_,0,none⟩) (by first|(simp only [];omega)) _⟩
   | exact ⟨_,rfl,rfl,(by first|omega),NatB.put k3 HN3.out (zAg q),hxA.setCell (p:=⟨_,0,none⟩) (by first|(simp only [];omega)) _⟩
 obtain ⟨b13,rfl,rfl,hb13,HB13,HXc⟩:=hcut
 obtain ⟨Wc,hWc⟩:∃ Wc,wc=Wc:=⟨_,rfl⟩
 rw [hWc] at HB13 HXc ⊢
 clear hWc wc
 replace f2a:=HXc.out.free f2a (zAA c2a)
 replace c2a:=HXc.out.cell c2a
 replace f2b:=HXc.out.free f2b (zAA c2b)
 replace c2b:=HXc.out.cell c2b
 replace f2c:=HXc.out.free f2c (zAA c2c)
 replace c2c:=HXc.out.cell c2c
 have HXw:=zH (HX.out.trans (HX0b.out.trans HXc.out))
 have HB9:=zH (HB9b.out.ext HXc.out)
 have HBl:=zH (HB11.out.ext HXc.out)
 clear HB9b HB11 HX HXa HXb HX0b HR0 HR1 HDx HDy HBx HBy HMN
 obtain ⟨n9,A9,k9,q9,hi9⟩:=HB9.out.box
 obtain ⟨c9a,f9a,c9b,f9b⟩:=q9.two
 have hl9:=q9.lt
 obtain ⟨nb1,A11,k11,q11,hi11⟩:=HBl.out.box
 obtain ⟨e11a,g11a,e11b,g11b⟩:=q11.two
 have hl11:=q11.lt
 obtain ⟨A13,k13,q13,hn13⟩:=HB13.out.box
 obtain ⟨c13,f13⟩:=q13.one
 have hl13:=q13.lt
 have HI9:=zH hi9
 have HI11:=zH hi11
 have HN13:=zH hn13
 clear hi9 hi11 hn13 q9 q11 q13 HB9 HBl HB13
 by_cases hp:bitsN p.natAbs≤4096
 ·rw [zBe hp]
  by_cases hr:bitsN r.natAbs≤4096
  ·rw [zBe hr]
   by_cases hq:bitsN q≤4096
   ·rw [zCr hq]
    rw [zCB hp] at HI9
    rw [zCB hr] at HI11
    rw [fitN_of hq] at HN13
    have HO:=zH (fun W (hx:Ext Wc W)=>HFF.out n9 nb1 A9 A11 k9 k11 p r W (HI9.out.ext hx) (HI11.out.ext hx))
    obtain ⟨v,hv⟩:∃ v,op p r=v:=⟨_,rfl⟩
    rw [hv] at HO HCC
    clear hv HFF
    by_cases ho:bitsN v.natAbs≤4096
    ·rw [zBe ho,zCB ho] at HO
     have HV:=zH (HCC.out.1 ⟨hp,hr,hq,ho⟩)
     have HLow:=zH (fun W (hx:Ext Wc W) nv Av kv (h1:IsInt W nv Av kv v)=>low_any nv Av A13 kv k13 v q W h1 (HN13.out.ext hx) hq HQ0.out)
     clear hp hr hq ho HCC
     go_wp2_with (first
      | (go_at_call 129;refine (HO.out _ (by first|exact Ext.refl _)).mono ?_;rintro e w1 ⟨n1,A1,k1,rfl,hn1,hx1⟩;have hs1:=hx1.size;have HN1:=zH hn1;clear hn1;have d2a:=hx1.cell c2a;have y2a:=hx1.free f2a (zAA c2a);have d2b:=hx1.cell c2b;have y2b:=hx1.free f2b (zAA c2b);have d2c:=hx1.cell c2c;have y2c:=hx1.free f2c (zAA c2c);have d13:=hx1.cell c13;have y13:=hx1.free f13 (zAA c13);have e2a:=((Ext.refl w1).alloc (.cells #[.bool n1,.slice A1 k1 k1] 49)).cell d2a;have g2a:=((Ext.refl w1).alloc (.cells #[.bool n1,.slice A1 k1 k1] 49)).free y2a (zAA d2a);have e2b:=((Ext.refl w1).alloc (.cells #[.bool n1,.slice A1 k1 k1] 49)).cell d2b;have g2b:=((Ext.refl w1).alloc (.cells #[.bool n1,.slice A1 k1 k1] 49)).free y2b (zAA d2b);have e2c:=((Ext.refl w1).alloc (.cells #[.bool n1,.slice A1 k1 k1] 49)).cell d2c;have g2c:=((Ext.refl w1).alloc (.cells #[.bool n1,.slice A1 k1 k1] 49)).free y2c (zAA d2c);have e13:=((Ext.refl w1).alloc (.cells #[.bool n1,.slice A1 k1 k1] 49)).cell d13;have g13:=((Ext.refl w1).alloc (.cells #[.bool n1,.slice A1 k1 k1] 49)).free y13 (zAA d13))
      | (go_at_call 191;(refine (HLow.out _ (by repeat (first|exact hx1|refine Ext.alloc ?_ _)) _ _ _ (HN1.out.ext (by repeat (first|exact Ext.refl _|refine Ext.alloc ?_ _)))).mono ?_);rintro e w3 ⟨n3,A3,k3,B3,m3,rfl,hr3,hx3⟩;have hs3:=hx3.size;have HR3:=zH hr3;clear hr3;have t1:=hx3.cell (((Ext.refl w1).alloc _).cell d2a);have u1:=hx3.free (((Ext.refl w1).alloc _).free y2a (zAA d2a)) (zAA (((Ext.refl w1).alloc _).cell d2a));have t2:=hx3.cell (((Ext.refl w1).alloc _).cell d2b);have u2:=hx3.free (((Ext.refl w1).alloc _).free y2b (zAA d2b)) (zAA (((Ext.refl w1).alloc _).cell d2b));have t3:=hx3.cell (((Ext.refl w1).alloc _).cell d2c);have u3:=hx3.free (((Ext.refl w1).alloc _).free y2c (zAA d2c)) (zAA (((Ext.refl w1).alloc _).cell d2c))))
     have HXe:=zH (HXw.out.trans ((hx1.alloc _).trans hx3))
     exact bodyPost_ret (v:=.tuple #[.agg #[.bool n3,.slice A3 k3 k3,.slice B3 m3 m3],.int .i64 0]) (by simp [results,Tryz.results144,go_sem,t1,t2,t3]) rfl ⟨n3,A3,k3,B3,m3,by rw [HV.out.1],by rw [HV.out.2.1,HV.out.2.2];exact HR3.out.setRes t1 t2 t3 _ _ _,(by repeat (first|exact HXe.out|refine Ext.setCell ?_ (by first|(simp only [];omega)) _))⟩
    ·rw [zBd ho] at HO
     have HV:=zH (HCC.out.2 (fun hh=>ho hh.2.2.2))
     clear hp hr hq ho HCC HN13 HQ0 HI9 HI11
     go_wp2_with (go_at_call 129;refine (HO.out _ (by first|exact Ext.refl _)).mono ?_;rintro e w1 ⟨n1,A1,k1,rfl,hn1,hx1⟩;have hs1:=hx1.size;clear hn1;have d2a:=hx1.cell c2a;have y2a:=hx1.free f2a (zAA c2a);have d2b:=hx1.cell c2b;have y2b:=hx1.free f2b (zAA c2b);have d2c:=hx1.cell c2c;have y2c:=hx1.free f2c (zAA c2c);have e2a:=((Ext.refl w1).alloc (.cells #[.bool n1,.slice A1 k1 k1] 49)).cell d2a;have g2a:=((Ext.refl w1).alloc (.cells #[.bool n1,.slice A1 k1 k1] 49)).free y2a (zAA d2a);have e2b:=((Ext.refl w1).alloc (.cells #[.bool n1,.slice A1 k1 k1] 49)).cell d2b;have g2b:=((Ext.refl w1).alloc (.cells #[.bool n1,.slice A1 k1 k1] 49)).free y2b (zAA d2b);have e2c:=((Ext.refl w1).alloc (.cells #[.bool n1,.slice A1 k1 k1] 49)).cell d2c;have g2c:=((Ext.refl w1).alloc (.cells #[.bool n1,.slice A1 k1 k1] 49)).free y2c (zAA d2c))
     have HXe:=zH (HXw.out.trans hx1)
     exact bodyPost_ret (v:=.tuple #[.agg #[.bool false,.slice none 0 0,.slice none 0 0],.int .i64 3]) (by simp [results,Tryz.results144,go_sem,e2a,e2b,e2c]) rfl ⟨false,none,0,none,0,by rw [HV.out.1],by rw [HV.out.2.1,HV.out.2.2];exact zAZ _,(by repeat (first|exact HXe.out|refine Ext.setCell ?_ (by first|(simp only [];omega)) _|refine Ext.alloc ?_ _))⟩
   ·rw [zCq hq]
    have HV:=zH (HCC.out.2 (fun hh=>hq hh.2.2.1))
    clear HCC HN13 HQ0 HI9 HI11 HFF
    go_wp2
    exact bodyPost_ret (v:=.tuple #[.agg #[.bool false,.slice none 0 0,.slice none 0 0],.int .i64 3]) (by simp [results,Tryz.results144,go_sem,c2a,c2b,c2c]) rfl ⟨false,none,0,none,0,by rw [HV.out.1],by rw [HV.out.2.1,HV.out.2.2];exact zAZ _,(by repeat (first|exact HXw.out|refine Ext.setCell ?_ (by first|(simp only [];omega)) _))⟩
  ·rw [zBd hr]
   have HV:=zH (HCC.out.2 (fun hh=>hr hh.2.1))
   clear HCC HN13 HQ0 HI9 HI11 HFF
   go_wp2
   exact bodyPost_ret (v:=.tuple #[.agg #[.bool false,.slice none 0 0,.slice none 0 0],.int .i64 3]) (by simp [results,Tryz.results144,go_sem,c2a,c2b,c2c]) rfl ⟨false,none,0,none,0,by rw [HV.out.1],by rw [HV.out.2.1,HV.out.2.2];exact zAZ _,(by repeat (first|exact HXw.out|refine Ext.setCell ?_ (by first|(simp only [];omega)) _))⟩
 ·rw [zBd hp]
  have HV:=zH (HCC.out.2 (fun hh=>hp hh.1))
  clear HCC HN13 HQ0 HI9 HI11 HFF
  go_wp2
  exact bodyPost_ret (v:=.tuple #[.agg #[.bool false,.slice none 0 0,.slice none 0 0],.int .i64 3]) (by simp [results,Tryz.results144,go_sem,c2a,c2b,c2c]) rfl ⟨false,none,0,none,0,by rw [HV.out.1],by rw [HV.out.2.1,HV.out.2.2];exact zAZ _,(by repeat (first|exact HXw.out|refine Ext.setCell ?_ (by first|(simp only [];omega)) _))⟩
set_option maxHeartbeats 2000000 in
theorem over_any (A B:Option Addr) (k m n d:Nat) (w:World) (ha:IsNat w A k n) (hb:IsNat w B m d) (hA:bitsN n≤4096) (hB:bitsN d≤4096) (hd:d≠0) :
  Calls Tryz.prog 148 #[.agg #[.slice A k k],.agg #[.slice B m m]] w fun e w'=>∃ n' A' k' B' m',e = .returned (.agg #[.bool n',.slice A' k' k',.slice B' m' m'])∧IsRat w' n' A' k' B' m' (n:Int) (d - 1)∧Ext w w':=by
 obtain ⟨W0,hWW0⟩:∃ W0:World,((w.alloc (.cells #[.slice A k k] 47)).alloc (.cells #[.slice B m m] 47)).alloc (.cells #[.bool false,.slice none 0 0,.slice none 0 0] 144)=W0:=⟨_,rfl⟩
 have hXW0:Ext w W0:=by rw [← hWW0];exact ((((Ext.refl w).alloc _).alloc _).alloc _)
 have hsW0:w.heap.size+3≤W0.heap.size:=by rw [← hWW0];simp only [World.size_alloc];omega
 have c0:W0.cell? ⟨w.heap.size,0,none⟩=some (.slice A k k):=wz
 have f0:W0.frozen? ⟨w.heap.size,0,none⟩=false:=wz
 have c1:W0.cell? ⟨w.heap.size+1,0,none⟩=some (.slice B m m):=wz
 have f1:W0.frozen? ⟨w.heap.size+1,0,none⟩=false:=wz
 have c2a:W0.cell? ⟨w.heap.size+1+1,0,none⟩=some (.bool false):=wz
 have f2a:W0.frozen? ⟨w.heap.size+1+1,0,none⟩=false:=wz
 have c2b:W0.cell? ⟨w.heap.size+1+1,1,none⟩=some (.slice none 0 0):=wz
 have f2b:W0.frozen? ⟨w.heap.size+1+1,1,none⟩=false:=wz
 have c2c:W0.cell? ⟨w.heap.size+1+1,2,none⟩=some (.slice none 0 0):=wz
 have f2c:W0.frozen? ⟨w.heap.size+1+1,2,none⟩=false:=wz
 have HWW0:=zH hWW0
 clear hWW0
 have HX:=zH hXW0
 have HN0:=zH (show IsInt W0 false A k (n:Int) from ⟨by rw [Int.natAbs_natCast];exact ha.ext hXW0,by simp,by rw [Int.natAbs_natCast];exact hA⟩)
 have HSub:=zH (fun W (hx:Ext W0 W) A1 k1 (h1:IsNat W A1 k1 1)=>zCi B A1 m k1 d 1 W ((hb.ext hXW0).ext hx) h1 (by have:=zAK hb hB;omega) (by have:=zAK h1 (by decide);omega) om)
 have HMk:=zH (fun W (hx:Ext W0 W)=>zAd false A k n W ((ha.ext hXW0).ext hx) hA)
 have HBt:=zH (Nat.le_trans (zAG (Nat.sub_le d 1)) hB)
 have HBu:=zH (Nat.le_trans (zAG (show d - 1+1≤d from Nat.le_of_eq (Nat.sub_add_cancel (Nat.one_le_iff_ne_zero.2 hd)))) hB)
 clear ha hb hA hB hd hXW0
 go_enter Tryz.func148,Tryz.ntmps148
 go_wp2
 rw [HWW0.out]
 clear HWW0
 go_upto_region 1 with (fail)
 go_cut [5] (fun s5 wx=>∃ b5,s5 = .pointer (some ⟨b5,0,none⟩)∧W0.heap.size≤b5∧Hid (NatB wx b5 (d - 1))∧Hid (Ext W0 wx))
 case first =>
  have HKeep:=zH (fun (w':World) (hx:Ext W0 w')=>(show w'.cell? ⟨w.heap.size+1,0,none⟩=some (.slice B m m) from hx.cell c1))
  go_region_held3 (fun w'=>w'.cell? ⟨w.heap.size+1,0,none⟩=some (.slice B m m)) (exact HKeep.out _ Ext.uc)
   (first
    | (go_at_call 150;refine (zCb _).mono ?_;rintro e w1 ⟨A1,e1,rfl,hn1,hx⟩;(first|(have k1:=blk1 hx)|(have k1:=True.intro));have hxA:Ext W0 w1:=Ext.trans Ext.uc hx;have HN1:=zH hn1;clear hn1;have hs1:=hxA.size;have hz1:=hx.size;(try simp only [World.size_alloc,World.size_drew,World.size_setCell] at hz1);  clear hx)
    | (go_at_call 116;refine (HSub.out _ Ext.uc _ _ (HN1.out.ext (by first|exact Ext.refl _|exact (Ext.refl _).alloc _))).mono ?_;rintro e w2 ⟨A2,e2,rfl,hn2,he2,hx⟩;(first|(have k2:=blk1n hx)|(have k2:=True.intro));(first|(have kk:=carry1 k1 (Ext.trans Ext.ud hx);clear k1;have k1:=kk;clear kk)|skip);have hxN:Ext W0 w2:=Ext.trans Ext.uc hx;clear hxA;have hxA:=hxN;clear hxN;have HN2:=zH hn2;clear hn2 he2;have hs2:=hxA.size;have hz2:=hx.size;(try simp only [World.size_alloc,World.size_drew,World.size_setCell] at hz2);(first|(have zl1:=Blk.lt k1)|skip);(first|(have zz:=Blk.one k1;obtain ⟨zc1,zf1⟩:=zz)|skip);(first|(have zl2:=Blk.lt k2)|skip);(first|(have zz:=Blk.one k2;obtain ⟨zc2,zf2⟩:=zz)|skip);  clear hx))
  all_goals
   go_wp2
   go_meet
   first
   | exact ⟨w2.heap.size,rfl,hs2,NatB.new HN2.out HBt.out,hxA.alloc _⟩
   | exact ⟨W0.heap.size,rfl,Nat.le_refl _,NatB.put k1 HN2.out HBt.out,hxA.setCell (p:=⟨_,0,none⟩) (Nat.le_refl _) _⟩
   | exact ⟨w1.heap.size,rfl,hs1,NatB.put k2 HN2.out HBt.out,hxA.setCell (p:=⟨_,0,none⟩) hs1 _⟩
 obtain ⟨b5,rfl,hb5,HB5,HXa⟩:=hcut
 obtain ⟨Wa,hWa⟩:∃ Wa,wc=Wa:=⟨_,rfl⟩
 rw [hWa] at HB5 HXa ⊢
 clear hWa wc
 replace f0:=HXa.out.free f0 (zAA c0)
 replace c0:=HXa.out.cell c0
 replace f2a:=HXa.out.free f2a (zAA c2a)
 replace c2a:=HXa.out.cell c2a
 replace f2b:=HXa.out.free f2b (zAA c2b)
 replace c2b:=HXa.out.cell c2b
 replace f2c:=HXa.out.free f2c (zAA c2c)
 replace c2c:=HXa.out.cell c2c
 obtain ⟨A5,k5,q5,hn5⟩:=HB5.out.box
 obtain ⟨c5,f5⟩:=q5.one
 have hl5:=q5.lt
 have HN5:=zH hn5
 have hw5:w.heap.size+3≤b5:=by omega
 clear hn5 q5 HB5
 go_upto_region 2 with (fail)
 have HKeep:=zH (fun (w':World) (hx:Ext Wa w')=>(show w'.cell? ⟨w.heap.size,0,none⟩=some (.slice A k k)∧w'.cell? ⟨b5,0,none⟩=some (.slice A5 k5 k5) from ⟨hx.cell c0,hx.cell c5⟩))
 have HKeepR:=zH (fun (w':World) (hx:Ext Wa w') (u v x:Value)=>(show (((w'.setCell ⟨w.heap.size+1+1,0,none⟩ u).setCell ⟨w.heap.size+1+1,1,none⟩ v).setCell ⟨w.heap.size+1+1,2,none⟩ x).cell? ⟨w.heap.size,0,none⟩=some (.slice A k k)∧(((w'.setCell ⟨w.heap.size+1+1,0,none⟩ u).setCell ⟨w.heap.size+1+1,1,none⟩ v).setCell ⟨w.heap.size+1+1,2,none⟩ x).cell? ⟨b5,0,none⟩=some (.slice A5 k5 k5) from ⟨by rw [World.cell?_setCell_other _ _ _ _ (by intro e;injection e with e1 e2;omega),World.cell?_setCell_other _ _ _ _ (by intro e;injection e with e1 e2;omega),World.cell?_setCell_other _ _ _ _ (by intro e;injection e with e1 e2;omega)];exact hx.cell c0,by rw [World.cell?_setCell_other _ _ _ _ (by intro e;injection e with e1 e2;omega),World.cell?_setCell_other _ _ _ _ (by intro e;injection e with e1 e2;omega),World.cell?_setCell_other _ _ _ _ (by intro e;injection e with e1 e2;omega)];exact hx.cell c5⟩))
 go_region_held3 (fun w'=>w'.cell? ⟨w.heap.size,0,none⟩=some (.slice A k k)∧w'.cell? ⟨b5,0,none⟩=some (.slice A5 k5 k5)) (first|exact HKeepR.out _ hxA _ _ _|exact HKeep.out _ Ext.uc)
  (first
   | (go_at_call 114;refine (HMk.out _ (HXa.out.trans Ext.uc)).mono ?_;rintro e w1 ⟨rfl,hx⟩;(first|(have k1:=True.intro));have hxA:Ext Wa w1:=Ext.trans Ext.uc hx;have t1:=hxA.cell c2a;have u1:=hxA.free f2a (zAA c2a);have t2:=hxA.cell c2b;have u2:=hxA.free f2b (zAA c2b);have t3:=hxA.cell c2c;have u3:=hxA.free f2c (zAA c2c);have hs1:=hxA.size;have hz1:=hx.size;(try simp only [World.size_alloc,World.size_drew,World.size_setCell] at hz1);  clear hx))
 all_goals
  go_wp2
  first
  | exact bodyPost_ret (v:=.agg #[.bool false,.slice A k k,.slice A5 k5 k5]) (by simp [results,Tryz.results148,go_sem,t1,t2,t3]) rfl ⟨false,A,k,A5,k5,rfl,IsRat.setRes ⟨HN0.out.ext (HXa.out.trans hxA),HN5.out.ext hxA,HBu.out⟩ t1 t2 t3 _ _ _,by have hh:=HX.out.trans (HXa.out.trans hxA);exact (by repeat (first|exact hh|refine Ext.setCell ?_ (by first|(simp only [];omega)) _))⟩
theorem Blk.at {w:World} {b:Nat} {t:TypeId} {cs:Array Value} (hs:b=w.heap.size):Blk (w.alloc (.cells cs t)) b t cs:=by rw [hs];exact Blk.new _ _ _
def BlkN (w:World) (b:Nat) (t:TypeId) (n:Nat):Prop:=∃ cs:Array Value,cs.size=n∧Blk w b t cs
theorem BlkN.of {w:World} {b:Nat} {t:TypeId} {n:Nat} {cs:Array Value} (h:Blk w b t cs) (hn:cs.size=n):BlkN w b t n:=⟨cs,hn,h⟩
theorem BlkN.far {w:World} {b:Nat} {t:TypeId} {n c i:Nat} {v:Value} (h:BlkN w b t n) (hne:b≠c):BlkN (w.setCell ⟨c,i,none⟩ v) b t n:=by obtain ⟨cs,h1,h2⟩:=h;exact ⟨cs,h1,h2.far hne i v⟩
theorem Blk.put1 {w:World} {b:Nat} {t:TypeId} {v:Value} (h:BlkN w b t 1):Blk (w.setCell ⟨b,0,none⟩ v) b t #[v]:=by
 obtain ⟨⟨cs⟩,h1,h2⟩:=h
 obtain ⟨u,rfl⟩:∃ u,cs=[u]:=List.length_eq_one_iff.1 h1
 exact h2.set 0 v
theorem Blk.put2 {w:World} {b:Nat} {t:TypeId} {v1 v2:Value} (h:BlkN w b t 2):Blk ((w.setCell ⟨b,0,none⟩ v1).setCell ⟨b,1,none⟩ v2) b t #[v1,v2]:=by
 obtain ⟨⟨cs⟩,h1,h2⟩:=h
 match cs,h1 with
 | [u1,u2],_=>exact (h2.set 0 v1).set 1 v2
theorem Blk.put3 {w:World} {b:Nat} {t:TypeId} {v1 v2 v3:Value} (h:BlkN w b t 3):Blk (((w.setCell ⟨b,0,none⟩ v1).setCell ⟨b,1,none⟩ v2).setCell ⟨b,2,none⟩ v3) b t #[v1,v2,v3]:=by
 obtain ⟨⟨cs⟩,h1,h2⟩:=h
 match cs,h1 with
 | [u1,u2,u3],_=>exact ((h2.set 0 v1).set 1 v2).set 2 v3
def NB (w:World) (b:Nat):Prop:=∃ (t:TypeId) (cs:Array Value),Blk w b t cs∧t≠133
theorem NB.of {w:World} {b:Nat} {t:TypeId} {cs:Array Value} (h:Blk w b t cs) (ht:t≠133):NB w b:=⟨t,cs,h,ht⟩
theorem NB.set {w:World} {b c i:Nat} {v:Value} (h:NB w b):NB (w.setCell ⟨c,i,none⟩ v) b:=by
 obtain ⟨t,cs,h1,ht⟩:=h
 by_cases e:b=c
 ·subst e;exact ⟨t,_,h1.set i v,ht⟩
 ·exact ⟨t,_,h1.far e i v,ht⟩
theorem NB.typ {w:World} {b:Nat} (h:NB w b):∃ t,TB w t b∧t≠133:=by obtain ⟨t,cs,h1,ht⟩:=h;exact ⟨t,h1.typ,ht⟩
theorem Blk.far' {w:World} {b:Nat} {t:TypeId} {cs:Array Value} {c i:Nat} {v:Value} (h:Blk w b t cs) (hne:b≠c):Blk (w.setCell ⟨c,i,none⟩ v) b t cs:=h.far hne i v
theorem Blk.al {w:World} {b:Nat} {t:TypeId} {cs:Array Value} {o:Obj} (h:Blk w b t cs):Blk (w.alloc o) b t cs:=h.ext ((Ext.refl _).alloc _)
theorem IsRat.dr {w:World} {neg:Bool} {A B:Option Addr} {k m:Nat} {num:Int} {less:Nat} (h:IsRat w neg A k B m num less):IsRat w.drew neg A k B m num less:=h.ext (Ext.refl _).drew
theorem Blk.far2 {w:World} {b:Nat} {t:TypeId} {cs:Array Value} {c i:Nat} {v:Value} (hne:b≠c) (h:Blk w b t cs):Blk (w.setCell ⟨c,i,none⟩ v) b t cs:=h.far hne i v
theorem BlkN.far2 {w:World} {b:Nat} {t:TypeId} {n c i:Nat} {v:Value} (hne:b≠c) (h:BlkN w b t n):BlkN (w.setCell ⟨c,i,none⟩ v) b t n:=h.far hne
theorem IsNat.setN {w:World} {A:Option Addr} {k n:Nat} {c i:Nat} {v:Value} (hc:NB w c) (h:IsNat w A k n):IsNat (w.setCell ⟨c,i,none⟩ v) A k n:=by obtain ⟨t,h1,ht⟩:=hc.typ;exact h.setB h1 ht i v
theorem IsInt.setN {w:World} {neg:Bool} {A:Option Addr} {k:Nat} {z:Int} {c i:Nat} {v:Value} (hc:NB w c) (h:IsInt w neg A k z):IsInt (w.setCell ⟨c,i,none⟩ v) neg A k z:=by obtain ⟨t,h1,ht⟩:=hc.typ;exact h.setB h1 ht i v
theorem IsRat.setN {w:World} {neg:Bool} {A B:Option Addr} {k m:Nat} {num:Int} {less:Nat} {c i:Nat} {v:Value} (hc:NB w c) (h:IsRat w neg A k B m num less):IsRat (w.setCell ⟨c,i,none⟩ v) neg A k B m num less:=by obtain ⟨t,h1,ht⟩:=hc.typ;exact h.setB h1 ht i v
theorem IsNat.al {w:World} {A:Option Addr} {k n:Nat} {o:Obj} (h:IsNat w A k n):IsNat (w.alloc o) A k n:=h.alloc _
theorem IsInt.al {w:World} {neg:Bool} {A:Option Addr} {k:Nat} {z:Int} {o:Obj} (h:IsInt w neg A k z):IsInt (w.alloc o) neg A k z:=h.ext ((Ext.refl _).alloc _)
theorem IsRat.al {w:World} {neg:Bool} {A B:Option Addr} {k m:Nat} {num:Int} {less:Nat} {o:Obj} (h:IsRat w neg A k B m num less):IsRat (w.alloc o) neg A k B m num less:=h.ext ((Ext.refl _).alloc _)
theorem zCN {w:World} {b c i j:Nat} {v x:Value} (h:w.cell? ⟨b,i,none⟩=some x) (hne:b≠c):(w.setCell ⟨c,j,none⟩ v).cell? ⟨b,i,none⟩=some x:=by rw [World.cell?_setCell_other _ _ _ _ (by intro e;injection e with e1 e2;exact hne e1.symm)];exact h
theorem zBJ {w:World} {b c i j:Nat} {v x:Value} (h:w.cell? ⟨b,i,none⟩=some x) (hne:i≠j):(w.setCell ⟨c,j,none⟩ v).cell? ⟨b,i,none⟩=some x:=by rw [World.cell?_setCell_other _ _ _ _ (by intro e;injection e with e1 e2;exact hne e2.symm)];exact h
theorem free_far {w:World} {a c:Addr} {v:Value} (h:w.frozen? a=false):(w.setCell c v).frozen? a=false:=(World.frozen?_setCell _ _ _ _).trans h
theorem zAt {w:World} {b c:Nat} {u v y:Value} {A:Option Addr} {k n:Nat} (h6:Blk w b 47 #[u]) (h7:Blk w c 47 #[v]) (hne:b≠c) (hn:IsNat w A k n) (hb:bitsN n≤4096):NatB ((w.setCell ⟨c,0,none⟩ y).setCell ⟨b,0,none⟩ (.slice A k k)) b n :=
 NatB.put (h6.far hne _ _) (hn.setB h7.typ (by decide) _ _) hb
theorem NatB.mk2 {w:World} {b n:Nat} {A:Option Addr} {k:Nat} (hb:bitsN n≤4096) (h1:Blk w b 47 #[.slice A k k]) (h2:IsNat w A k n):NatB w b n:=⟨hb,A,k,h1,h2⟩
theorem IntB.mk2 {w:World} {b:Nat} {z:Int} {neg:Bool} {A:Option Addr} {k:Nat} (h1:Blk w b 49 #[.bool neg,.slice A k k]) (h2:IsInt w neg A k z):IntB w b z:=⟨neg,A,k,h1,h2⟩
theorem RatB.mk2 {w:World} {b:Nat} {num:Int} {less:Nat} {neg:Bool} {A B:Option Addr} {k m:Nat} (h1:Blk w b 144 #[.bool neg,.slice A k k,.slice B m m]) (h2:IsRat w neg A k B m num less):RatB w b num less:=⟨neg,A,k,B,m,h1,h2⟩
theorem zCy (A:Option Addr) (k n:Nat) (w:World) (h:IsNat w A k n) (hb:bitsN n≤4096) :
  Calls Tryz.prog 114 #[.bool true,.agg #[.slice A k k]] w fun e w'=>∃ b,e = .returned (.agg #[.bool b,.slice A k k])∧IsInt w' b A k (-(n:Int))∧Ext w w' :=
 (zAd true A k n w h hb).mono fun e w' ⟨he,hx⟩=>⟨_,he,⟨by rw [Int.natAbs_neg,Int.natAbs_natCast];exact h.ext hx,by cases n <;> simp <;> omega,by rw [Int.natAbs_neg,Int.natAbs_natCast];exact hb⟩,hx⟩
theorem zCx (A:Option Addr) (k n:Nat) (w:World) (h:IsNat w A k n) (hb:bitsN n≤4096) :
  Calls Tryz.prog 114 #[.bool false,.agg #[.slice A k k]] w fun e w'=>∃ b,e = .returned (.agg #[.bool b,.slice A k k])∧IsInt w' b A k (n:Int)∧Ext w w' :=
 (zAd false A k n w h hb).mono fun e w' ⟨he,hx⟩=>⟨_,he,⟨by rw [Int.natAbs_natCast];exact h.ext hx,by simp,by rw [Int.natAbs_natCast];exact hb⟩,hx⟩
theorem tells_add:TellsZ 67 (fun x y=>x+y):=fun na nb A B k m a b w ha hb=>zBR na nb A B k m a b w ha hb
theorem tells_sub:TellsZ 129 (fun x y=>x - y):=fun na nb A B k m a b w ha hb=>zSub_any na nb A B k m a b w ha hb
set_option maxHeartbeats 8000000 in
theorem ratAdd_any (na nb:Bool) (A B C D:Option Addr) (k m j l:Nat) (a b:Int) (c d:Nat) (w:World) (h:IsRat w na A k B m a c) (hb:IsRat w nb C j D l b d) :
  Calls Tryz.prog 100 #[.agg #[.bool na,.slice A k k,.slice B m m],.agg #[.bool nb,.slice C j j,.slice D l l]] w fun e w'=>∃ n A' k' B' m',e = .returned (.tuple #[.agg #[.bool n,.slice A' k' k',.slice B' m' m'],.int .i64 (codeC (fun x y=>x+y) a b c d)])∧IsRat w' n A' k' B' m' (numC (fun x y=>x+y) a b c d) (lessC (fun x y=>x+y) a b c d)∧Ext w w':=by
 obtain ⟨W0,HWW0,hXW0,hsW0,c0a,f0a,c0b,f0b,c0c,f0c,c1a,f1a,c1b,f1b,c1c,f1c,c2a,f2a,c2b,f2b,c2c,f2c⟩:=bx333 w 144 144 144 (.bool na) (.slice A k k) (.slice B m m) (.bool nb) (.slice C j j) (.slice D l l) (.bool false) (.slice none 0 0) (.slice none 0 0)
 have HX:=zH hXW0
 have HR0:=zH (h.ext hXW0)
 have HR1:=zH (hb.ext hXW0)
 have HCr:=zH (fun W (hx:Ext W0 W)=>crossAdd_any (fun x y=>x+y) tells_add na nb A B C D k m j l a b c d W (HR0.out.ext hx) (HR1.out.ext hx))
 obtain ⟨cc,hcc⟩:∃ cc,codeC (fun x y=>x+y) a b c d=cc:=⟨_,rfl⟩
 obtain ⟨cn,hcn⟩:∃ cn,numC (fun x y=>x+y) a b c d=cn:=⟨_,rfl⟩
 obtain ⟨cl,hcl⟩:∃ cl,lessC (fun x y=>x+y) a b c d=cl:=⟨_,rfl⟩
 rw [hcc,hcn,hcl] at HCr
 rw [hcc,hcn,hcl]
 clear hcc hcn hcl
 clear h hb hXW0
 go_enter Tryz.func100,Tryz.ntmps100
 go_wp2_with fail
 rw [HWW0.out]
 clear HWW0
 go_wp2_with (first
  | (go_at_call 144;refine (HCr.out _ Ext.ua).mono ?_;rintro e w1 ⟨n1,A1,e1,B1,m1,rfl,hn1,hx⟩;have hxN:Ext W0 w1:=Ext.trans Ext.ua hx;have hxA:=hxN;clear hxN;have HN1:=zH hn1;clear hn1;  have tc2a:=hxA.cell c2a;have uc2a:=hxA.free f2a (zAA c2a);have tc2b:=hxA.cell c2b;have uc2b:=hxA.free f2b (zAA c2b);have tc2c:=hxA.cell c2c;have uc2c:=hxA.free f2c (zAA c2c);clear hx))
 exact bodyPost_ret (v:=.tuple #[.agg #[.bool n1,.slice A1 e1 e1,.slice B1 m1 m1],.int .i64 cc]) (by simp [results,Tryz.results100,go_sem,tc2a,tc2b,tc2c]) rfl ⟨n1,A1,e1,B1,m1,rfl,HN1.out.setRes tc2a tc2b tc2c _ _ _,by have hh:=HX.out.trans hxA;exact (by repeat (first|exact hh|refine Ext.setCell ?_ (by first|(simp only [];omega)) _))⟩
set_option maxHeartbeats 8000000 in
theorem ratSub_any (na nb:Bool) (A B C D:Option Addr) (k m j l:Nat) (a b:Int) (c d:Nat) (w:World) (h:IsRat w na A k B m a c) (hb:IsRat w nb C j D l b d) :
  Calls Tryz.prog 104 #[.agg #[.bool na,.slice A k k,.slice B m m],.agg #[.bool nb,.slice C j j,.slice D l l]] w fun e w'=>∃ n A' k' B' m',e = .returned (.tuple #[.agg #[.bool n,.slice A' k' k',.slice B' m' m'],.int .i64 (codeC (fun x y=>x - y) a b c d)])∧IsRat w' n A' k' B' m' (numC (fun x y=>x - y) a b c d) (lessC (fun x y=>x - y) a b c d)∧Ext w w':=by
 obtain ⟨W0,HWW0,hXW0,hsW0,c0a,f0a,c0b,f0b,c0c,f0c,c1a,f1a,c1b,f1b,c1c,f1c,c2a,f2a,c2b,f2b,c2c,f2c⟩:=bx333 w 144 144 144 (.bool na) (.slice A k k) (.slice B m m) (.bool nb) (.slice C j j) (.slice D l l) (.bool false) (.slice none 0 0) (.slice none 0 0)
 have HX:=zH hXW0
 have HR0:=zH (h.ext hXW0)
 have HR1:=zH (hb.ext hXW0)
 have HCr:=zH (fun W (hx:Ext W0 W)=>crossSub_any (fun x y=>x - y) tells_sub na nb A B C D k m j l a b c d W (HR0.out.ext hx) (HR1.out.ext hx))
 obtain ⟨cc,hcc⟩:∃ cc,codeC (fun x y=>x - y) a b c d=cc:=⟨_,rfl⟩
 obtain ⟨cn,hcn⟩:∃ cn,numC (fun x y=>x - y) a b c d=cn:=⟨_,rfl⟩
 obtain ⟨cl,hcl⟩:∃ cl,lessC (fun x y=>x - y) a b c d=cl:=⟨_,rfl⟩
 rw [hcc,hcn,hcl] at HCr
 rw [hcc,hcn,hcl]
 clear hcc hcn hcl
 clear h hb hXW0
 go_enter Tryz.func104,Tryz.ntmps104
 go_wp2_with fail
 rw [HWW0.out]
 clear HWW0
 go_wp2_with (first
  | (go_at_call 144;refine (HCr.out _ Ext.ua).mono ?_;rintro e w1 ⟨n1,A1,e1,B1,m1,rfl,hn1,hx⟩;have hxN:Ext W0 w1:=Ext.trans Ext.ua hx;have hxA:=hxN;clear hxN;have HN1:=zH hn1;clear hn1;  have tc2a:=hxA.cell c2a;have uc2a:=hxA.free f2a (zAA c2a);have tc2b:=hxA.cell c2b;have uc2b:=hxA.free f2b (zAA c2b);have tc2c:=hxA.cell c2c;have uc2c:=hxA.free f2c (zAA c2c);clear hx))
 exact bodyPost_ret (v:=.tuple #[.agg #[.bool n1,.slice A1 e1 e1,.slice B1 m1 m1],.int .i64 cc]) (by simp [results,Tryz.results104,go_sem,tc2a,tc2b,tc2c]) rfl ⟨n1,A1,e1,B1,m1,rfl,HN1.out.setRes tc2a tc2b tc2c _ _ _,by have hh:=HX.out.trans hxA;exact (by repeat (first|exact hh|refine Ext.setCell ?_ (by first|(simp only [];omega)) _))⟩
def sgnD (b:Int) (d:Nat):Int:=if b < 0 then -((d+1:Nat):Int) else ((d+1:Nat):Int)
def codeD (a b:Int) (c d:Nat):Int:=if b=0 then 11 else codeR (a*sgnD b d) ((c+1)*b.natAbs)
def numD (a b:Int) (c d:Nat):Int:=if b=0 then 0 else numR (a*sgnD b d) ((c+1)*b.natAbs)
def lessD (a b:Int) (c d:Nat):Nat:=if b=0 then 0 else lessR (a*sgnD b d) ((c+1)*b.natAbs)
theorem sign_neg {z:Int} (h:z < 0):signZ z = -1:=by unfold signZ;rw [if_neg om,if_pos h]
theorem sign_pos {z:Int} (h:0 < z):signZ z=1:=by unfold signZ;rw [if_neg om,if_neg om]
set_option maxHeartbeats 8000000 in
theorem ratDiv_any (na nb:Bool) (A B C D:Option Addr) (k m j l:Nat) (a b:Int) (c d:Nat) (w:World) (h:IsRat w na A k B m a c) (hb:IsRat w nb C j D l b d) :
  Calls Tryz.prog 143 #[.agg #[.bool na,.slice A k k,.slice B m m],.agg #[.bool nb,.slice C j j,.slice D l l]] w fun e w'=>∃ n A' k' B' m',e = .returned (.tuple #[.agg #[.bool n,.slice A' k' k',.slice B' m' m'],.int .i64 (codeD a b c d)])∧IsRat w' n A' k' B' m' (numD a b c d) (lessD a b c d)∧Ext w w':=by
 obtain ⟨W0,HWW0,hXW0,hsW0,c0a,f0a,c0b,f0b,c0c,f0c,c1a,f1a,c1b,f1b,c1c,f1c,c2a,f2a,c2b,f2b,c2c,f2c⟩:=bx333 w 144 144 144 (.bool na) (.slice A k k) (.slice B m m) (.bool nb) (.slice C j j) (.slice D l l) (.bool false) (.slice none 0 0) (.slice none 0 0)
 have HX:=zH hXW0
 have HR0:=zH (h.ext hXW0)
 have HR1:=zH (hb.ext hXW0)
 have HSg:=zH (fun W (hx:Ext W0 W)=>ratSign_any nb C D j l b d W (HR1.out.ext hx))
 have HDe:=zH (fun W (hx:Ext W0 W)=>zA0 nb C D j l b d W (HR1.out.ext hx))
 have HAb:=zH (fun W=>zCV nb C j W)
 obtain ⟨sg,hsg⟩:∃ sg,signZ b=sg:=⟨_,rfl⟩
 rw [hsg] at HSg
 clear h hb hXW0
 go_enter Tryz.func143,Tryz.ntmps143
 go_wp2_with fail
 rw [HWW0.out]
 clear HWW0
 rcases Int.lt_trichotomy b 0 with hb0|hb0|hb0
 rotate_left
 ·obtain rfl:sg=0:=by rw [← hsg,hb0];rfl
  have HV:=zH (show codeD a b c d=11∧numD a b c d=0∧lessD a b c d=0 from ⟨if_pos hb0,if_pos hb0,if_pos hb0⟩)
  clear hsg hb0
  go_wp2_with (first
   | (go_at_call 189;refine (HSg.out _ Ext.ua).mono ?_;rintro e w1 ⟨rfl,hx⟩;have hxN:Ext W0 w1:=Ext.trans Ext.ua hx;have hxA:=hxN;clear hxN;  have tc2a:=hxA.cell c2a;have uc2a:=hxA.free f2a (zAA c2a);have tc2b:=hxA.cell c2b;have uc2b:=hxA.free f2b (zAA c2b);have tc2c:=hxA.cell c2c;have uc2c:=hxA.free f2c (zAA c2c);clear hx))
  exact bodyPost_ret (v:=.tuple #[.agg #[.bool false,.slice none 0 0,.slice none 0 0],.int .i64 11]) (by simp [results,Tryz.results143,go_sem,tc2a,tc2b,tc2c]) rfl ⟨false,none,0,none,0,by rw [HV.out.1],by rw [HV.out.2.1,HV.out.2.2];exact zAZ _,by have hh:=HX.out.trans hxA;exact (by repeat (first|exact hh|refine Ext.setCell ?_ (by first|(simp only [];omega)) _))⟩
 ·obtain rfl:sg=1:=by rw [← hsg];exact sign_pos hb0
  have hS:sgnD b d=((d+1:Nat):Int):=if_neg om
  have HTi:=zH (fun W (hx:Ext W0 W) nn E e (he:IsInt W nn E e ((d+1:Nat):Int))=>zDM na nn A B E C k m e j a ((d+1:Nat):Int) c b.natAbs W (HR0.out.ext hx) he (HR1.out.num.nat.ext hx) HR1.out.num.bits om)
  have HV:=zH (show codeD a b c d=codeR (a*sgnD b d) ((c+1)*b.natAbs)∧numD a b c d=numR (a*sgnD b d) ((c+1)*b.natAbs)∧lessD a b c d=lessR (a*sgnD b d) ((c+1)*b.natAbs) from ⟨if_neg om,if_neg om,if_neg om⟩)
  rw [hS] at HV
  obtain ⟨cc,hcc⟩:∃ cc,codeR (a*((d+1:Nat):Int)) ((c+1)*b.natAbs)=cc:=⟨_,rfl⟩
  obtain ⟨cn,hcn⟩:∃ cn,numR (a*((d+1:Nat):Int)) ((c+1)*b.natAbs)=cn:=⟨_,rfl⟩
  obtain ⟨cl,hcl⟩:∃ cl,lessR (a*((d+1:Nat):Int)) ((c+1)*b.natAbs)=cl:=⟨_,rfl⟩
  rw [hcc,hcn,hcl] at HTi HV
  clear hsg hb0 hS hcc hcn hcl
  go_upto_region 3 with (first
    | (go_at_call 189;refine (HSg.out _ Ext.ua).mono ?_;rintro e u1 ⟨rfl,hx⟩;have hxN:Ext W0 u1:=Ext.trans Ext.ua hx;have hxA:=hxN;clear hxN;  have tc1a:=hxA.cell c1a;have uc1a:=hxA.free f1a (zAA c1a);have tc1b:=hxA.cell c1b;have uc1b:=hxA.free f1b (zAA c1b);have tc1c:=hxA.cell c1c;have uc1c:=hxA.free f1c (zAA c1c);clear hx))
  have HXq:=zH hxA
  clear hxA tc1a tc1b tc1c uc1a uc1b uc1c
  replace f0a:=HXq.out.free f0a (zAA c0a)
  replace c0a:=HXq.out.cell c0a
  replace f0b:=HXq.out.free f0b (zAA c0b)
  replace c0b:=HXq.out.cell c0b
  replace f0c:=HXq.out.free f0c (zAA c0c)
  replace c0c:=HXq.out.cell c0c
  replace f1a:=HXq.out.free f1a (zAA c1a)
  replace c1a:=HXq.out.cell c1a
  replace f1b:=HXq.out.free f1b (zAA c1b)
  replace c1b:=HXq.out.cell c1b
  replace f1c:=HXq.out.free f1c (zAA c1c)
  replace c1c:=HXq.out.cell c1c
  replace f2a:=HXq.out.free f2a (zAA c2a)
  replace c2a:=HXq.out.cell c2a
  replace f2b:=HXq.out.free f2b (zAA c2b)
  replace c2b:=HXq.out.cell c2b
  replace f2c:=HXq.out.free f2c (zAA c2c)
  replace c2c:=HXq.out.cell c2c
  replace HR0:=zH (HR0.out.ext HXq.out)
  replace HR1:=zH (HR1.out.ext HXq.out)
  replace HX:=zH (HX.out.trans HXq.out)
  have hszu1:=HXq.out.size
  replace HSg:=zH (fun W (hx:Ext u1 W)=>HSg.out W (HXq.out.trans hx))
  replace HDe:=zH (fun W (hx:Ext u1 W)=>HDe.out W (HXq.out.trans hx))
  replace HTi:=zH (fun W (hx:Ext u1 W) nn E e he=>HTi.out W (HXq.out.trans hx) nn E e he)
  have HKeep:=zH (fun (w':World) (hx:Ext u1 w')=>(show w'.cell? ⟨w.heap.size,0,none⟩=some (.bool na)∧w'.cell? ⟨w.heap.size,1,none⟩=some (.slice A k k)∧w'.cell? ⟨w.heap.size,2,none⟩=some (.slice B m m)∧w'.cell? ⟨w.heap.size+1,0,none⟩=some (.bool nb)∧w'.cell? ⟨w.heap.size+1,1,none⟩=some (.slice C j j)∧w'.cell? ⟨w.heap.size+1,2,none⟩=some (.slice D l l) from ⟨hx.cell c0a,hx.cell c0b,hx.cell c0c,hx.cell c1a,hx.cell c1b,hx.cell c1c⟩))
  have HKeepR:=zH (fun (w':World) (hx:Ext u1 w') (u v x:Value)=>(show (((w'.setCell ⟨w.heap.size+1+1,0,none⟩ u).setCell ⟨w.heap.size+1+1,1,none⟩ v).setCell ⟨w.heap.size+1+1,2,none⟩ x).cell? ⟨w.heap.size,0,none⟩=some (.bool na)∧(((w'.setCell ⟨w.heap.size+1+1,0,none⟩ u).setCell ⟨w.heap.size+1+1,1,none⟩ v).setCell ⟨w.heap.size+1+1,2,none⟩ x).cell? ⟨w.heap.size,1,none⟩=some (.slice A k k)∧(((w'.setCell ⟨w.heap.size+1+1,0,none⟩ u).setCell ⟨w.heap.size+1+1,1,none⟩ v).setCell ⟨w.heap.size+1+1,2,none⟩ x).cell? ⟨w.heap.size,2,none⟩=some (.slice B m m)∧(((w'.setCell ⟨w.heap.size+1+1,0,none⟩ u).setCell ⟨w.heap.size+1+1,1,none⟩ v).setCell ⟨w.heap.size+1+1,2,none⟩ x).cell? ⟨w.heap.size+1,0,none⟩=some (.bool nb)∧(((w'.setCell ⟨w.heap.size+1+1,0,none⟩ u).setCell ⟨w.heap.size+1+1,1,none⟩ v).setCell ⟨w.heap.size+1+1,2,none⟩ x).cell? ⟨w.heap.size+1,1,none⟩=some (.slice C j j)∧(((w'.setCell ⟨w.heap.size+1+1,0,none⟩ u).setCell ⟨w.heap.size+1+1,1,none⟩ v).setCell ⟨w.heap.size+1+1,2,none⟩ x).cell? ⟨w.heap.size+1,2,none⟩=some (.slice D l l) from ⟨by rw [World.cell?_setCell_other _ _ _ _ (by intro e;injection e with e1 e2;omega),World.cell?_setCell_other _ _ _ _ (by intro e;injection e with e1 e2;omega),World.cell?_setCell_other _ _ _ _ (by intro e;injection e with e1 e2;omega)];exact hx.cell c0a,by rw [World.cell?_setCell_other _ _ _ _ (by intro e;injection e with e1 e2;omega),World.cell?_setCell_other _ _ _ _ (by intro e;injection e with e1 e2;omega),World.cell?_setCell_other _ _ _ _ (by intro e;injection e with e1 e2;omega)];exact hx.cell c0b,by rw [World.cell?_setCell_other _ _ _ _ (by intro e;injection e with e1 e2;omega),World.cell?_setCell_other _ _ _ _ (by intro e;injection e with e1 e2;omega),World.cell?_setCell_other _ _ _ _ (by intro e;injection e with e1 e2;omega)];exact hx.cell c0c,by rw [World.cell?_setCell_other _ _ _ _ (by intro e;injection e with e1 e2;omega),World.cell?_setCell_other _ _ _ _ (by intro e;injection e with e1 e2;omega),World.cell?_setCell_other _ _ _ _ (by intro e;injection e with e1 e2;omega)];exact hx.cell c1a,by rw [World.cell?_setCell_other _ _ _ _ (by intro e;injection e with e1 e2;omega),World.cell?_setCell_other _ _ _ _ (by intro e;injection e with e1 e2;omega),World.cell?_setCell_other _ _ _ _ (by intro e;injection e with e1 e2;omega)];exact hx.cell c1b,by rw [World.cell?_setCell_other _ _ _ _ (by intro e;injection e with e1 e2;omega),World.cell?_setCell_other _ _ _ _ (by intro e;injection e with e1 e2;omega),World.cell?_setCell_other _ _ _ _ (by intro e;injection e with e1 e2;omega)];exact hx.cell c1c⟩))
  go_region_held3 (fun w'=>w'.cell? ⟨w.heap.size,0,none⟩=some (.bool na)∧w'.cell? ⟨w.heap.size,1,none⟩=some (.slice A k k)∧w'.cell? ⟨w.heap.size,2,none⟩=some (.slice B m m)∧w'.cell? ⟨w.heap.size+1,0,none⟩=some (.bool nb)∧w'.cell? ⟨w.heap.size+1,1,none⟩=some (.slice C j j)∧w'.cell? ⟨w.heap.size+1,2,none⟩=some (.slice D l l)) (first|exact HKeepR.out _ hxA _ _ _|exact HKeep.out _ Ext.ua)
   (first
    | (go_at_call 189;refine (HSg.out _ Ext.ua).mono ?_;rintro e w1 ⟨rfl,hx⟩;(first|(have k1:=True.intro));have hxN:Ext u1 w1:=Ext.trans Ext.ua hx;have hxA:=hxN;clear hxN;have hs1:=hxA.size;have hz1:=hx.size;(try simp only [World.size_alloc,World.size_drew,World.size_setCell] at hz1);  clear hx)
    | (go_at_call 146;refine (HDe.out _ Ext.ua).mono ?_;rintro e w2 ⟨e2,a2,rfl,hn2,hx⟩;(first|(have k2:=True.intro));have hxN:Ext u1 w2:=Ext.trans Ext.ua hx;(try clear hxA);have hxA:=hxN;clear hxN;have HN2:=zH hn2;clear hn2;have hs2:=hxA.size;have hz2:=hx.size;  clear hx)
    | (go_at_call 114;refine (zCx e2 a2 (d+1) _ (HN2.out.ext Ext.ub) HR1.out.bits).mono ?_;rintro e w3 ⟨n3,rfl,hn3,hx⟩;(first|(have k3:=True.intro));have hxN:Ext u1 w3:=Ext.trans Ext.ua hx;(try clear hxA);have hxA:=hxN;clear hxN;have HN3:=zH hn3;clear hn3;(first|(have hh:=zH (HN2.out.ext (Ext.trans Ext.ub hx));clear HN2;have HN2:=hh;clear hh));have hs3:=hxA.size;have hz3:=hx.size;  clear hx)
    | (go_at_call 47;refine (HAb.out _).mono ?_;rintro e w4 ⟨rfl,hx⟩;(first|(have k4:=True.intro));have hxN:Ext u1 w4:=Ext.trans Ext.ua hx;(try clear hxA);have hxA:=hxN;clear hxN;(first|(have hh:=zH (HN2.out.ext (Ext.trans Ext.ub hx));clear HN2;have HN2:=hh;clear hh));(first|(have hh:=zH (HN3.out.ext (Ext.trans Ext.ub hx));clear HN3;have HN3:=hh;clear hh));have hs4:=hxA.size;have hz4:=hx.size;  clear hx)
    | (go_at_call 145;refine (HTi.out _ Ext.ua _ _ _ (HN3.out.ext Ext.ub)).mono ?_;rintro e w5 ⟨n5,A5,e5,B5,m5,rfl,hn5,hx⟩;(first|(have k5:=True.intro));have hxN:Ext u1 w5:=Ext.trans Ext.ua hx;(try clear hxA);have hxA:=hxN;clear hxN;have HN5:=zH hn5;clear hn5;(first|(have hh:=zH (HN2.out.ext (Ext.trans Ext.ub hx));clear HN2;have HN2:=hh;clear hh));(first|(have hh:=zH (HN3.out.ext (Ext.trans Ext.ub hx));clear HN3;have HN3:=hh;clear hh));have tc2a:=hxA.cell c2a;have uc2a:=hxA.free f2a (zAA c2a);have tc2b:=hxA.cell c2b;have uc2b:=hxA.free f2b (zAA c2b);have tc2c:=hxA.cell c2c;have uc2c:=hxA.free f2c (zAA c2c);have hs5:=hxA.size;have hz5:=hx.size;  clear hx))
  all_goals
   go_wp2
   first
   | exact bodyPost_ret (v:=.tuple #[.agg #[.bool n5,.slice A5 e5 e5,.slice B5 m5 m5],.int .i64 cc]) (by simp [results,Tryz.results143,go_sem,tc2a,tc2b,tc2c]) rfl ⟨n5,A5,e5,B5,m5,by rw [HV.out.1],by rw [HV.out.2.1,HV.out.2.2];exact HN5.out.setRes tc2a tc2b tc2c _ _ _,by have hh:=HX.out.trans hxA;exact (by repeat (first|exact hh|refine Ext.setCell ?_ (by first|(simp only [];omega)) _))⟩
 ·obtain rfl:sg = -1:=by rw [← hsg];exact sign_neg hb0
  have hS:sgnD b d=(-((d+1:Nat):Int)):=if_pos hb0
  have HTi:=zH (fun W (hx:Ext W0 W) nn E e (he:IsInt W nn E e (-((d+1:Nat):Int)))=>zDM na nn A B E C k m e j a (-((d+1:Nat):Int)) c b.natAbs W (HR0.out.ext hx) he (HR1.out.num.nat.ext hx) HR1.out.num.bits om)
  have HV:=zH (show codeD a b c d=codeR (a*sgnD b d) ((c+1)*b.natAbs)∧numD a b c d=numR (a*sgnD b d) ((c+1)*b.natAbs)∧lessD a b c d=lessR (a*sgnD b d) ((c+1)*b.natAbs) from ⟨if_neg om,if_neg om,if_neg om⟩)
  rw [hS] at HV
  obtain ⟨cc,hcc⟩:∃ cc,codeR (a*(-((d+1:Nat):Int))) ((c+1)*b.natAbs)=cc:=⟨_,rfl⟩
  obtain ⟨cn,hcn⟩:∃ cn,numR (a*(-((d+1:Nat):Int))) ((c+1)*b.natAbs)=cn:=⟨_,rfl⟩
  obtain ⟨cl,hcl⟩:∃ cl,lessR (a*(-((d+1:Nat):Int))) ((c+1)*b.natAbs)=cl:=⟨_,rfl⟩
  rw [hcc,hcn,hcl] at HTi HV
  clear hsg hb0 hS hcc hcn hcl
  go_upto_region 3 with (first
    | (go_at_call 189;refine (HSg.out _ Ext.ua).mono ?_;rintro e u1 ⟨rfl,hx⟩;have hxN:Ext W0 u1:=Ext.trans Ext.ua hx;have hxA:=hxN;clear hxN;  have tc1a:=hxA.cell c1a;have uc1a:=hxA.free f1a (zAA c1a);have tc1b:=hxA.cell c1b;have uc1b:=hxA.free f1b (zAA c1b);have tc1c:=hxA.cell c1c;have uc1c:=hxA.free f1c (zAA c1c);clear hx))
  have HXq:=zH hxA
  clear hxA tc1a tc1b tc1c uc1a uc1b uc1c
  replace f0a:=HXq.out.free f0a (zAA c0a)
  replace c0a:=HXq.out.cell c0a
  replace f0b:=HXq.out.free f0b (zAA c0b)
  replace c0b:=HXq.out.cell c0b
  replace f0c:=HXq.out.free f0c (zAA c0c)
  replace c0c:=HXq.out.cell c0c
  replace f1a:=HXq.out.free f1a (zAA c1a)
  replace c1a:=HXq.out.cell c1a
  replace f1b:=HXq.out.free f1b (zAA c1b)
  replace c1b:=HXq.out.cell c1b
  replace f1c:=HXq.out.free f1c (zAA c1c)
  replace c1c:=HXq.out.cell c1c
  replace f2a:=HXq.out.free f2a (zAA c2a)
  replace c2a:=HXq.out.cell c2a
  replace f2b:=HXq.out.free f2b (zAA c2b)
  replace c2b:=HXq.out.cell c2b
  replace f2c:=HXq.out.free f2c (zAA c2c)
  replace c2c:=HXq.out.cell c2c
  replace HR0:=zH (HR0.out.ext HXq.out)
  replace HR1:=zH (HR1.out.ext HXq.out)
  replace HX:=zH (HX.out.trans HXq.out)
  have hszu1:=HXq.out.size
  replace HSg:=zH (fun W (hx:Ext u1 W)=>HSg.out W (HXq.out.trans hx))
  replace HDe:=zH (fun W (hx:Ext u1 W)=>HDe.out W (HXq.out.trans hx))
  replace HTi:=zH (fun W (hx:Ext u1 W) nn E e he=>HTi.out W (HXq.out.trans hx) nn E e he)
  have HKeep:=zH (fun (w':World) (hx:Ext u1 w')=>(show w'.cell? ⟨w.heap.size,0,none⟩=some (.bool na)∧w'.cell? ⟨w.heap.size,1,none⟩=some (.slice A k k)∧w'.cell? ⟨w.heap.size,2,none⟩=some (.slice B m m)∧w'.cell? ⟨w.heap.size+1,0,none⟩=some (.bool nb)∧w'.cell? ⟨w.heap.size+1,1,none⟩=some (.slice C j j)∧w'.cell? ⟨w.heap.size+1,2,none⟩=some (.slice D l l) from ⟨hx.cell c0a,hx.cell c0b,hx.cell c0c,hx.cell c1a,hx.cell c1b,hx.cell c1c⟩))
  have HKeepR:=zH (fun (w':World) (hx:Ext u1 w') (u v x:Value)=>(show (((w'.setCell ⟨w.heap.size+1+1,0,none⟩ u).setCell ⟨w.heap.size+1+1,1,none⟩ v).setCell ⟨w.heap.size+1+1,2,none⟩ x).cell? ⟨w.heap.size,0,none⟩=some (.bool na)∧(((w'.setCell ⟨w.heap.size+1+1,0,none⟩ u).setCell ⟨w.heap.size+1+1,1,none⟩ v).setCell ⟨w.heap.size+1+1,2,none⟩ x).cell? ⟨w.heap.size,1,none⟩=some (.slice A k k)∧(((w'.setCell ⟨w.heap.size+1+1,0,none⟩ u).setCell ⟨w.heap.size+1+1,1,none⟩ v).setCell ⟨w.heap.size+1+1,2,none⟩ x).cell? ⟨w.heap.size,2,none⟩=some (.slice B m m)∧(((w'.setCell ⟨w.heap.size+1+1,0,none⟩ u).setCell ⟨w.heap.size+1+1,1,none⟩ v).setCell ⟨w.heap.size+1+1,2,none⟩ x).cell? ⟨w.heap.size+1,0,none⟩=some (.bool nb)∧(((w'.setCell ⟨w.heap.size+1+1,0,none⟩ u).setCell ⟨w.heap.size+1+1,1,none⟩ v).setCell ⟨w.heap.size+1+1,2,none⟩ x).cell? ⟨w.heap.size+1,1,none⟩=some (.slice C j j)∧(((w'.setCell ⟨w.heap.size+1+1,0,none⟩ u).setCell ⟨w.heap.size+1+1,1,none⟩ v).setCell ⟨w.heap.size+1+1,2,none⟩ x).cell? ⟨w.heap.size+1,2,none⟩=some (.slice D l l) from ⟨by rw [World.cell?_setCell_other _ _ _ _ (by intro e;injection e with e1 e2;omega),World.cell?_setCell_other _ _ _ _ (by intro e;injection e with e1 e2;omega),World.cell?_setCell_other _ _ _ _ (by intro e;injection e with e1 e2;omega)];exact hx.cell c0a,by rw [World.cell?_setCell_other _ _ _ _ (by intro e;injection e with e1 e2;omega),World.cell?_setCell_other _ _ _ _ (by intro e;injection e with e1 e2;omega),World.cell?_setCell_other _ _ _ _ (by intro e;injection e with e1 e2;omega)];exact hx.cell c0b,by rw [World.cell?_setCell_other _ _ _ _ (by intro e;injection e with e1 e2;omega),World.cell?_setCell_other _ _ _ _ (by intro e;injection e with e1 e2;omega),World.cell?_setCell_other _ _ _ _ (by intro e;injection e with e1 e2;omega)];exact hx.cell c0c,by rw [World.cell?_setCell_other _ _ _ _ (by intro e;injection e with e1 e2;omega),World.cell?_setCell_other _ _ _ _ (by intro e;injection e with e1 e2;omega),World.cell?_setCell_other _ _ _ _ (by intro e;injection e with e1 e2;omega)];exact hx.cell c1a,by rw [World.cell?_setCell_other _ _ _ _ (by intro e;injection e with e1 e2;omega),World.cell?_setCell_other _ _ _ _ (by intro e;injection e with e1 e2;omega),World.cell?_setCell_other _ _ _ _ (by intro e;injection e with e1 e2;omega)];exact hx.cell c1b,by rw [World.cell?_setCell_other _ _ _ _ (by intro e;injection e with e1 e2;omega),World.cell?_setCell_other _ _ _ _ (by intro e;injection e with e1 e2;omega),World.cell?_setCell_other _ _ _ _ (by intro e;injection e with e1 e2;omega)];exact hx.cell c1c⟩))
  go_region_held3 (fun w'=>w'.cell? ⟨w.heap.size,0,none⟩=some (.bool na)∧w'.cell? ⟨w.heap.size,1,none⟩=some (.slice A k k)∧w'.cell? ⟨w.heap.size,2,none⟩=some (.slice B m m)∧w'.cell? ⟨w.heap.size+1,0,none⟩=some (.bool nb)∧w'.cell? ⟨w.heap.size+1,1,none⟩=some (.slice C j j)∧w'.cell? ⟨w.heap.size+1,2,none⟩=some (.slice D l l)) (first|exact HKeepR.out _ hxA _ _ _|exact HKeep.out _ Ext.ua)
   (first
    | (go_at_call 189;refine (HSg.out _ Ext.ua).mono ?_;rintro e w1 ⟨rfl,hx⟩;(first|(have k1:=True.intro));have hxN:Ext u1 w1:=Ext.trans Ext.ua hx;have hxA:=hxN;clear hxN;have hs1:=hxA.size;have hz1:=hx.size;(try simp only [World.size_alloc,World.size_drew,World.size_setCell] at hz1);  clear hx)
    | (go_at_call 146;refine (HDe.out _ Ext.ua).mono ?_;rintro e w2 ⟨e2,a2,rfl,hn2,hx⟩;(first|(have k2:=True.intro));have hxN:Ext u1 w2:=Ext.trans Ext.ua hx;(try clear hxA);have hxA:=hxN;clear hxN;have HN2:=zH hn2;clear hn2;have hs2:=hxA.size;have hz2:=hx.size;  clear hx)
    | (go_at_call 114;refine (zCy e2 a2 (d+1) _ (HN2.out.ext Ext.ub) HR1.out.bits).mono ?_;rintro e w3 ⟨n3,rfl,hn3,hx⟩;(first|(have k3:=True.intro));have hxN:Ext u1 w3:=Ext.trans Ext.ua hx;(try clear hxA);have hxA:=hxN;clear hxN;have HN3:=zH hn3;clear hn3;(first|(have hh:=zH (HN2.out.ext (Ext.trans Ext.ub hx));clear HN2;have HN2:=hh;clear hh));have hs3:=hxA.size;have hz3:=hx.size;  clear hx)
    | (go_at_call 47;refine (HAb.out _).mono ?_;rintro e w4 ⟨rfl,hx⟩;(first|(have k4:=True.intro));have hxN:Ext u1 w4:=Ext.trans Ext.ua hx;(try clear hxA);have hxA:=hxN;clear hxN;(first|(have hh:=zH (HN2.out.ext (Ext.trans Ext.ub hx));clear HN2;have HN2:=hh;clear hh));(first|(have hh:=zH (HN3.out.ext (Ext.trans Ext.ub hx));clear HN3;have HN3:=hh;clear hh));have hs4:=hxA.size;have hz4:=hx.size;  clear hx)
    | (go_at_call 145;refine (HTi.out _ Ext.ua _ _ _ (HN3.out.ext Ext.ub)).mono ?_;rintro e w5 ⟨n5,A5,e5,B5,m5,rfl,hn5,hx⟩;(first|(have k5:=True.intro));have hxN:Ext u1 w5:=Ext.trans Ext.ua hx;(try clear hxA);have hxA:=hxN;clear hxN;have HN5:=zH hn5;clear hn5;(first|(have hh:=zH (HN2.out.ext (Ext.trans Ext.ub hx));clear HN2;have HN2:=hh;clear hh));(first|(have hh:=zH (HN3.out.ext (Ext.trans Ext.ub hx));clear HN3;have HN3:=hh;clear hh));have tc2a:=hxA.cell c2a;have uc2a:=hxA.free f2a (zAA c2a);have tc2b:=hxA.cell c2b;have uc2b:=hxA.free f2b (zAA c2b);have tc2c:=hxA.cell c2c;have uc2c:=hxA.free f2c (zAA c2c);have hs5:=hxA.size;have hz5:=hx.size;  clear hx))
  all_goals
   go_wp2
   first
   | exact bodyPost_ret (v:=.tuple #[.agg #[.bool n5,.slice A5 e5 e5,.slice B5 m5 m5],.int .i64 cc]) (by simp [results,Tryz.results143,go_sem,tc2a,tc2b,tc2c]) rfl ⟨n5,A5,e5,B5,m5,by rw [HV.out.1],by rw [HV.out.2.1,HV.out.2.2];exact HN5.out.setRes tc2a tc2b tc2c _ _ _,by have hh:=HX.out.trans hxA;exact (by repeat (first|exact hh|refine Ext.setCell ?_ (by first|(simp only [];omega)) _))⟩
def restQ (num:Int) (less:Nat):Nat:=(num % ((less:Int)+1)).toNat
theorem zBP (num:Int) (less:Nat):restQ num less < less+1:=by
 unfold restQ
 have h1:=Int.emod_nonneg num (b:=(less:Int)+1) om
 have h2:=Int.emod_lt_of_pos num (b:=(less:Int)+1) om
 omega
theorem restQ_pos {num:Int} {less:Nat} (h:0≤num):restQ num less=num.natAbs % (less+1):=by
 obtain ⟨n,rfl⟩:=Int.eq_ofNat_of_zero_le h
 unfold restQ
 rw [show ((less:Int)+1)=((less+1:Nat):Int) by omega,← Int.natCast_emod,Int.toNat_natCast,Int.natAbs_natCast]
theorem restQ_neg {num:Int} {less:Nat} (h:num < 0):restQ num less=if num.natAbs % (less+1)=0 then 0 else less+1 - num.natAbs % (less+1):=by
 obtain ⟨n,hn⟩:∃ n:Nat,num = -(n:Int):=⟨num.natAbs,by omega⟩
 subst hn
 unfold restQ
 rw [Int.natAbs_neg,Int.natAbs_natCast]
 have hd:=Nat.div_add_mod n (less+1)
 have hl:=Nat.mod_lt n (Nat.succ_pos less)
 generalize n % (less+1)=r at *
 generalize n / (less+1)=q at *
 have e:-(n:Int) = -(r:Int)+((less:Int)+1)*(-(q:Int)):=by
  have:(n:Int)=((less:Int)+1)*q+r:=by exact_mod_cast hd.symm
  rw [this,Int.mul_neg];omega
 rw [e,Int.add_mul_emod_self_left]
 split
 ·rename_i h0;subst h0;simp
 ·have:-(r:Int) % ((less:Int)+1)=(less:Int)+1 - r:=by
   rw [← Int.add_emod_right,Int.emod_eq_of_lt om om];omega
  rw [this];omega
theorem signZ_neg {z:Int} (h:z < 0):signZ z = -1:=by unfold signZ;rw [if_neg om,if_pos h]
theorem zCm {z:Int} (h:0≤z):0≤signZ z:=by unfold signZ;split <;> (try split) <;> omega
set_option maxHeartbeats 8000000 in
theorem zCw (na:Bool) (A B:Option Addr) (k m:Nat) (num:Int) (less:Nat) (w:World) (h:IsRat w na A k B m num less) :
  Calls Tryz.prog 147 #[.agg #[.bool na,.slice A k k,.slice B m m]] w fun e w'=>∃ A' k',e = .returned (.agg #[.slice A' k' k'])∧IsNat w' A' k' (restQ num less)∧Ext w w':=by
 obtain ⟨W0,HWW0,hXW0,hsW0,c0a,f0a,c0b,f0b,c0c,f0c,c1,f1⟩:=bx31 w 144 47 (.bool na) (.slice A k k) (.slice B m m) (.slice none 0 0)
 have HX:=zH hXW0
 have HR0:=zH (h.ext hXW0)
 have HBr:=zH (show bitsN (num.natAbs % (less+1))≤4096 from Nat.le_trans (zAG (Nat.le_of_lt (Nat.mod_lt num.natAbs (Nat.succ_pos less)))) h.bits)
 have HB1:Hid (Blk W0 (w.heap.size+1) 47 #[.slice none 0 0]):=by
  unfold Hid;rw [← HWW0.out]
  have:=Blk.new (w.alloc (.cells #[.bool na,.slice A k k,.slice B m m] 144)) 47 #[.slice none 0 0]
  simpa using this
 clear h hXW0
 go_enter Tryz.func147,Tryz.ntmps147
 go_wp2
 rw [HWW0.out]
 clear HWW0
 go_upto_region 1 with (fail)
 go_cut [4] (fun s4 wx=>∃ b4,s4 = .pointer (some ⟨b4,0,none⟩)∧W0.heap.size≤b4∧Hid (NatB wx b4 (num.natAbs % (less+1)))∧Hid (Ext W0 wx))
 case first =>
  have HKeep:=zH (fun (w':World) (hx:Ext W0 w')=>(show w'.cell? ⟨w.heap.size,0,none⟩=some (.bool na)∧w'.cell? ⟨w.heap.size,1,none⟩=some (.slice A k k)∧w'.cell? ⟨w.heap.size,2,none⟩=some (.slice B m m) from ⟨hx.cell c0a,hx.cell c0b,hx.cell c0c⟩))
  go_region_held3 (fun w'=>w'.cell? ⟨w.heap.size,0,none⟩=some (.bool na)∧w'.cell? ⟨w.heap.size,1,none⟩=some (.slice A k k)∧w'.cell? ⟨w.heap.size,2,none⟩=some (.slice B m m)) (exact HKeep.out _ Ext.ua)
   (first
    | (go_at_call 47;refine (zCV na A k _).mono ?_;rintro e w1 ⟨rfl,hx⟩;(first|(have k1:=blk2 hx)|(have k1:=blk1 hx)|(have k1:=True.intro));have hxN:Ext W0 w1:=Ext.trans Ext.ua hx;have hxA:=hxN;clear hxN;have hs1:=hxA.size;have hz1:=hx.size;(try simp only [World.size_alloc,World.size_drew,World.size_setCell] at hz1);  clear hx)
    | (go_at_call 146;refine (zA0 na A B k m num less _ (HR0.out.ext Ext.ua)).mono ?_;rintro e w2 ⟨e2,a2,rfl,hn2,hx⟩;(first|(have k2:=blk2n hx)|(have k2:=blk1n hx)|(have k2:=True.intro));(first|(have kk:=carry2 k1 (Ext.trans Ext.ud hx);clear k1;have k1:=kk;clear kk)|(have kk:=carry1 k1 (Ext.trans Ext.ud hx);clear k1;have k1:=kk;clear kk)|skip);have hxN:Ext W0 w2:=Ext.trans Ext.ua hx;(try clear hxA);have hxA:=hxN;clear hxN;have HN2:=zH hn2;clear hn2;have hs2:=hxA.size;have hz2:=hx.size;(try simp only [World.size_alloc,World.size_drew,World.size_setCell] at hz2);  clear hx)
    | (go_at_call 149;refine (zCh A e2 k a2 num.natAbs (less+1) _ (HR0.out.num.nat.ext Ext.ua) (HN2.out.ext Ext.ub) (by have:=HR0.out.num.k;omega) (by have:=zAK HN2.out HR0.out.bits;omega) (Nat.succ_ne_zero _)).mono ?_;rintro e w3 ⟨A3,k3q,A4,k4q,rfl,hq3,hr3,hx⟩;(first|(have k3:=blk2n hx)|(have k3:=blk1n hx)|(have k3:=True.intro));(first|(have kk:=carry2 k1 (Ext.trans Ext.ud hx);clear k1;have k1:=kk;clear kk)|(have kk:=carry1 k1 (Ext.trans Ext.ud hx);clear k1;have k1:=kk;clear kk)|skip);(first|(have kk:=carry2 k2 (Ext.trans Ext.ud hx);clear k2;have k2:=kk;clear kk)|(have kk:=carry1 k2 (Ext.trans Ext.ud hx);clear k2;have k2:=kk;clear kk)|skip);have hxN:Ext W0 w3:=Ext.trans Ext.ua hx;(try clear hxA);have hxA:=hxN;clear hxN;have HR3:=zH hr3;clear hr3;(first|(have hh:=zH (HN2.out.ext (Ext.trans Ext.ub hx));clear HN2;have HN2:=hh;clear hh));clear hq3;have hs3:=hxA.size;have hz3:=hx.size;(try simp only [World.size_alloc,World.size_drew,World.size_setCell] at hz3);(first|(have zl1:=Blk.lt k1)|skip);(first|(have zz:=Blk.one k1;obtain ⟨zc1,zf1⟩:=zz)|skip);(first|(have zl1a:=Blk.lt k1.1)|skip);(first|(have zz:=Blk.one k1.1;obtain ⟨zc1a,zf1a⟩:=zz)|skip);(first|(have zl1b:=Blk.lt k1.2)|skip);(first|(have zz:=Blk.one k1.2;obtain ⟨zc1b,zf1b⟩:=zz)|skip);(first|(have zl2:=Blk.lt k2)|skip);(first|(have zz:=Blk.one k2;obtain ⟨zc2,zf2⟩:=zz)|skip);(first|(have zl2a:=Blk.lt k2.1)|skip);(first|(have zz:=Blk.one k2.1;obtain ⟨zc2a,zf2a⟩:=zz)|skip);(first|(have zl2b:=Blk.lt k2.2)|skip);(first|(have zz:=Blk.one k2.2;obtain ⟨zc2b,zf2b⟩:=zz)|skip);(first|(have zl3:=Blk.lt k3)|skip);(first|(have zz:=Blk.one k3;obtain ⟨zc3,zf3⟩:=zz)|skip);(first|(have zl3a:=Blk.lt k3.1)|skip);(first|(have zz:=Blk.one k3.1;obtain ⟨zc3a,zf3a⟩:=zz)|skip);(first|(have zl3b:=Blk.lt k3.2)|skip);(first|(have zz:=Blk.one k3.2;obtain ⟨zc3b,zf3b⟩:=zz)|skip);  clear hx))
  all_goals
   go_wp2
   refine Met.intro ?_
   go_step
   (repeat apply Exists.intro)
   refine And.symm ⟨?_,?_⟩
   ·first|with_reducible rfl
   first
   | exact ⟨_,rfl,(by first|exact Nat.le_refl _|assumption|omega),(by first|exact NatB.ext (NatB.put k1 HR3.out HBr.out) ((Ext.refl _).alloc _)|exact NatB.ext (NatB.put k2 HR3.out HBr.out) ((Ext.refl _).alloc _)|exact NatB.ext (NatB.put k3 HR3.out HBr.out) ((Ext.refl _).alloc _)|exact NatB.ext (NatB.new HR3.out HBr.out) ((Ext.refl _).alloc _)|exact NatB.at (by simp only [World.size_setCell,World.size_alloc]) (by first|exact HR3.out.ext ((Ext.refl _).alloc _)|exact HR3.out.setB (Blk.typ k1) (by decide) _ _|exact HR3.out.setB (Blk.typ k2) (by decide) _ _|exact HR3.out.setB (Blk.typ k3) (by decide) _ _) HBr.out|exact zAt k1 k2 om HR3.out HBr.out|exact zAt k1 k3 om HR3.out HBr.out|exact zAt k1.1 k1.2 om HR3.out HBr.out|exact zAt k1.2 k1.1 om HR3.out HBr.out|exact zAt k2 k1 om HR3.out HBr.out|exact zAt k2 k3 om HR3.out HBr.out|exact zAt k2.1 k2.2 om HR3.out HBr.out|exact zAt k2.2 k2.1 om HR3.out HBr.out|exact zAt k3 k1 om HR3.out HBr.out|exact zAt k3 k2 om HR3.out HBr.out|exact zAt k3.1 k3.2 om HR3.out HBr.out|exact zAt k3.2 k3.1 om HR3.out HBr.out),Ext.ua⟩
 obtain ⟨b4,rfl,hb4,HB4,HX1⟩:=hcut
 obtain ⟨W1,hWn⟩:∃ W1,wc=W1:=⟨_,rfl⟩
 rw [hWn] at HB4 HX1 ⊢
 clear hWn wc
 replace f0a:=HX1.out.free f0a (zAA c0a)
 replace c0a:=HX1.out.cell c0a
 replace f0b:=HX1.out.free f0b (zAA c0b)
 replace c0b:=HX1.out.cell c0b
 replace f0c:=HX1.out.free f0c (zAA c0c)
 replace c0c:=HX1.out.cell c0c
 replace f1:=HX1.out.free f1 (zAA c1)
 replace c1:=HX1.out.cell c1
 replace HR0:=zH (HR0.out.ext HX1.out)
 replace HB1:=zH (HB1.out.ext HX1.out)
 replace HX:=zH (HX.out.trans HX1.out)
 have hszW1:=HX1.out.size
 obtain ⟨A4,k4,q4,hn4⟩:=HB4.out.box
 obtain ⟨c4,f4⟩:=q4.one
 have hl4:=q4.lt
 have HN4:=zH hn4
 clear hn4 q4 HB4
 obtain ⟨r,hr⟩:∃ r,num.natAbs % (less+1)=r:=⟨_,rfl⟩
 have hrl:r < less+1:=by rw [← hr];exact Nat.mod_lt _ (Nat.succ_pos _)
 rw [hr] at HN4 HBr
 have HSg:=zH (fun W (hx:Ext W1 W)=>zBa na A k num W (HR0.out.num.ext hx))
 have HBi:=zH (fun W (hx:Ext W1 W)=>zAc A4 k4 r W (HN4.out.ext hx) (by have:=zAK HN4.out HBr.out;omega))
 obtain ⟨br,hbr⟩:∃ br,bitsN r=br:=⟨_,rfl⟩
 rw [hbr] at HBi
 obtain ⟨sg,hsg⟩:∃ sg,signZ num=sg:=⟨_,rfl⟩
 rw [hsg] at HSg
 by_cases hn:num < 0
 ·obtain rfl:sg = -1:=by rw [← hsg];exact signZ_neg hn
  have hq:=restQ_neg (less:=less) hn
  rw [hr] at hq
  by_cases h0:r=0
  ·obtain rfl:br=0:=by rw [← hbr,h0];rfl
   rw [if_pos h0] at hq
   have HQ:=zH (show restQ num less=r by rw [hq,h0])
   clear hq hn hsg hbr hr h0 hrl HB1 HBr
   go_wp2_with (first
    | (go_at_call 86;refine (HSg.out _ Ext.ua).mono ?_;rintro e w1 ⟨rfl,hx⟩;have hxN:Ext W1 w1:=Ext.trans Ext.ua hx;have hxA:=hxN;clear hxN;  have tc1:=hxA.cell c1;have uc1:=hxA.free f1 (zAA c1);have tc4:=hxA.cell c4;have uc4:=hxA.free f4 (zAA c4);clear hx)
    | (go_at_call 132;refine (HBi.out _ Ext.ua).mono ?_;rintro e w2 ⟨rfl,hx⟩;have hxN:Ext W1 w2:=Ext.trans Ext.ua hx;(try clear hxA);have hxA:=hxN;clear hxN;  (try clear tc1 uc1);have tc1:=hxA.cell c1;have uc1:=hxA.free f1 (zAA c1);(try clear tc4 uc4);have tc4:=hxA.cell c4;have uc4:=hxA.free f4 (zAA c4);clear hx))
   exact bodyPost_ret (v:=.agg #[.slice A4 k4 k4]) (by simp [results,Tryz.results147,go_sem,tc1]) rfl ⟨A4,k4,rfl,by rw [HQ.out];exact (HN4.out.ext hxA).setBox tc1 _,by have hh:=HX.out.trans hxA;exact (by repeat (first|exact hh|refine Ext.setCell ?_ (by first|(simp only [];omega)) _))⟩
  ·have hb0:0 < br:=by rw [← hbr];exact zAf h0
   rw [if_neg h0] at hq
   have HQ:=zH hq
   have HBs:=zH (show bitsN (less+1 - r)≤4096 from Nat.le_trans (zAG (Nat.sub_le _ _)) HR0.out.bits)
   clear hq hn hsg hbr hr h0
   go_upto_region 3 with (first
     | (go_at_call 86;refine (HSg.out _ Ext.ua).mono ?_;rintro e u1 ⟨rfl,hx⟩;have hxN:Ext W1 u1:=Ext.trans Ext.ua hx;have hxA:=hxN;clear hxN;  have tc4:=hxA.cell c4;have uc4:=hxA.free f4 (zAA c4);clear hx)
     | (go_at_call 132;refine (HBi.out _ Ext.ua).mono ?_;rintro e u2 ⟨rfl,hx⟩;have hxN:Ext W1 u2:=Ext.trans Ext.ua hx;(try clear hxA);have hxA:=hxN;clear hxN;  (try clear tc4 uc4);have tc4:=hxA.cell c4;have uc4:=hxA.free f4 (zAA c4);clear hx))
   have HXq:=zH hxA
   clear hxA HSg HBi tc4 uc4
   replace f0a:=HXq.out.free f0a (zAA c0a)
   replace c0a:=HXq.out.cell c0a
   replace f0b:=HXq.out.free f0b (zAA c0b)
   replace c0b:=HXq.out.cell c0b
   replace f0c:=HXq.out.free f0c (zAA c0c)
   replace c0c:=HXq.out.cell c0c
   replace f1:=HXq.out.free f1 (zAA c1)
   replace c1:=HXq.out.cell c1
   replace f4:=HXq.out.free f4 (zAA c4)
   replace c4:=HXq.out.cell c4
   replace HR0:=zH (HR0.out.ext HXq.out)
   replace HB1:=zH (HB1.out.ext HXq.out)
   replace HN4:=zH (HN4.out.ext HXq.out)
   replace HX:=zH (HX.out.trans HXq.out)
   have hszu2:=HXq.out.size
   have HDe:=zH (fun W (hx:Ext u2 W)=>zA0 na A B k m num less W (HR0.out.ext hx))
   have HSu:=zH (fun W (hx:Ext u2 W) E e (he:IsNat W E e (less+1))=>zCi E A4 e k4 (less+1) r W he (HN4.out.ext hx) (by have:=zAK he HR0.out.bits;omega) (by have:=zAK HN4.out HBr.out;omega) om)
   have HKeep:=zH (fun (w':World) (hx:Ext u2 w')=>(show w'.cell? ⟨w.heap.size,0,none⟩=some (.bool na)∧w'.cell? ⟨w.heap.size,1,none⟩=some (.slice A k k)∧w'.cell? ⟨w.heap.size,2,none⟩=some (.slice B m m)∧w'.cell? ⟨b4,0,none⟩=some (.slice A4 k4 k4) from ⟨hx.cell c0a,hx.cell c0b,hx.cell c0c,hx.cell c4⟩))
   go_region_with (first
     | (go_at_call 146;refine (HDe.out _ Ext.ua).mono ?_;rintro e w1 ⟨e1,a1,rfl,hn1,hx⟩;(first|(have k1:=True.intro));have hxA:Ext u2 w1:=Ext.trans Ext.ua hx;have HN1:=zH hn1;clear hn1;have tc4:=hxA.cell c4;have uc4:=hxA.free f4 (zAA c4);have hs1:=hxA.size;have hz1:=hx.size;(try simp only [World.size_alloc,World.size_drew,World.size_setCell] at hz1);  clear hx)
     | (go_at_call 116;refine (HSu.out _ Ext.ua _ _ (HN1.out.ext Ext.ub)).mono ?_;rintro e w2 ⟨A2,e2,rfl,hn2,he2,hx⟩;(first|(have k2:=True.intro));have hxN:Ext u2 w2:=Ext.trans Ext.ua hx;clear hxA;have hxA:=hxN;clear hxN;have HN2:=zH hn2;clear hn2;(first|(have hh:=zH (HN1.out.ext (Ext.trans Ext.ub hx));clear HN1;have HN1:=hh;clear hh));clear he2;have tc1:=hxA.cell c1;have uc1:=hxA.free f1 (zAA c1);have tc4:=hxA.cell c4;have uc4:=hxA.free f4 (zAA c4);have hs2:=hxA.size;have hz2:=hx.size;  clear hx))
   all_goals
    go_wp2
    first
    | exact bodyPost_ret (v:=.agg #[.slice A2 e2 e2]) (by simp [results,Tryz.results147,go_sem,tc1,tc4]) rfl ⟨A2,e2,rfl,by rw [HQ.out];exact (HN2.out.setBox tc4 _).setBox (zCN tc1 om) _,by have hh:=HX.out.trans hxA;exact (by repeat (first|exact hh|refine Ext.setCell ?_ (by first|(simp only [];omega)) _))⟩
 ·have h0:0≤sg:=by rw [← hsg];exact zCm om
  have hq:=restQ_pos (less:=less) (show 0≤num by omega)
  rw [hr] at hq
  have HQ:=zH hq
  clear hq hn hsg hbr hr hrl HB1 HBr HBi
  go_wp2_with (first
   | (go_at_call 86;refine (HSg.out _ Ext.ua).mono ?_;rintro e w1 ⟨rfl,hx⟩;have hxN:Ext W1 w1:=Ext.trans Ext.ua hx;have hxA:=hxN;clear hxN;  have tc1:=hxA.cell c1;have uc1:=hxA.free f1 (zAA c1);have tc4:=hxA.cell c4;have uc4:=hxA.free f4 (zAA c4);clear hx))
  exact bodyPost_ret (v:=.agg #[.slice A4 k4 k4]) (by simp [results,Tryz.results147,go_sem,tc1]) rfl ⟨A4,k4,rfl,by rw [HQ.out];exact (HN4.out.ext hxA).setBox tc1 _,by have hh:=HX.out.trans hxA;exact (by repeat (first|exact hh|refine Ext.setCell ?_ (by first|(simp only [];omega)) _))⟩
def floorQ (num:Int) (less:Nat):Int:=num / ((less:Int)+1)
theorem floorQ_pos {num:Int} {less:Nat} (h:0≤num):floorQ num less=((num.natAbs / (less+1):Nat):Int):=by
 obtain ⟨n,rfl⟩:=Int.eq_ofNat_of_zero_le h
 unfold floorQ
 rw [show ((less:Int)+1)=((less+1:Nat):Int) by omega,← Int.natCast_ediv,Int.natAbs_natCast]
theorem floorQ_neg {num:Int} {less:Nat} (h:num < 0):floorQ num less=if restQ num less=0 then -((num.natAbs / (less+1):Nat):Int) else -((num.natAbs / (less+1)+1:Nat):Int):=by
 have hr:=restQ_neg (less:=less) h
 obtain ⟨n,hn⟩:∃ n:Nat,num = -(n:Int):=⟨num.natAbs,by omega⟩
 have hna:num.natAbs=n:=by rw [hn,Int.natAbs_neg,Int.natAbs_natCast]
 rw [hna] at hr ⊢
 have hd:=Nat.div_add_mod n (less+1)
 have hl:=Nat.mod_lt n (Nat.succ_pos less)
 generalize n % (less+1)=r at *
 generalize n / (less+1)=q at *
 have hn2:(n:Int)=((less:Int)+1)*q+r:=by exact_mod_cast hd.symm
 unfold floorQ
 by_cases h0:r=0
 ·rw [if_pos h0] at hr
  rw [hr,if_pos rfl]
  refine ((Int.ediv_emod_unique (a:=num) (b:=(less:Int)+1) (r:=0) (q:=-(q:Int)) om).2 ⟨?_,by omega,by omega⟩).1
  rw [hn,hn2,h0,Int.mul_neg];omega
 ·rw [if_neg h0] at hr
  have hr0:restQ num less≠0:=by omega
  rw [if_neg hr0]
  refine ((Int.ediv_emod_unique (a:=num) (b:=(less:Int)+1) (r:=(less:Int)+1 - r) (q:=-((q+1:Nat):Int)) om).2 ⟨?_,by omega,by omega⟩).1
  rw [hn,hn2,Int.mul_neg,Int.natCast_add,Int.mul_add];omega
theorem floor_bits {num:Int} {less:Nat} (h:num < 0) (h0:restQ num less≠0):num.natAbs / (less+1)+1≤num.natAbs:=by
 have hl:less≠0:=by
  intro e
  have:=zBP num less
  omega
 have:num.natAbs / (less+1)≤num.natAbs / 2:=Nat.div_le_div_left om om
 omega
set_option maxHeartbeats 8000000 in
theorem zCP (na:Bool) (A B:Option Addr) (k m:Nat) (num:Int) (less:Nat) (w:World) (h:IsRat w na A k B m num less) :
  Calls Tryz.prog 106 #[.agg #[.bool na,.slice A k k,.slice B m m]] w fun e w'=>∃ n A' k',e = .returned (.agg #[.bool n,.slice A' k' k'])∧IsInt w' n A' k' (floorQ num less)∧Ext w w':=by
 obtain ⟨W0,HWW0,hXW0,hsW0,c0a,f0a,c0b,f0b,c0c,f0c,c1a,f1a,c1b,f1b⟩:=bx32 w 144 49 (.bool na) (.slice A k k) (.slice B m m) (.bool false) (.slice none 0 0)
 have HX:=zH hXW0
 have HR0:=zH (h.ext hXW0)
 have HBq:=zH (show bitsN (num.natAbs / (less+1))≤4096 from Nat.le_trans (zAG (Nat.div_le_self num.natAbs (less+1))) h.num.bits)
 have hmf:∀ (fn:Fn) (first cap:Array Value) (w:World),(Instr.makeFunc fn first cap).run Tryz.prog w = .ok (.func fn first cap) w:=fun _ _ _ _=>rfl
 clear h hXW0
 go_enter Tryz.func106,Tryz.ntmps106
 go_wp2
 rw [HWW0.out]
 clear HWW0
 go_upto_region 1 with (fail)
 go_cut [3] (fun s3 wx=>∃ b3,s3 = .pointer (some ⟨b3,0,none⟩)∧W0.heap.size≤b3∧Hid (NatB wx b3 (num.natAbs / (less+1)))∧Hid (Ext W0 wx))
 case first =>
  have HKeep:=zH (fun (w':World) (hx:Ext W0 w')=>(show w'.cell? ⟨w.heap.size,0,none⟩=some (.bool na)∧w'.cell? ⟨w.heap.size,1,none⟩=some (.slice A k k)∧w'.cell? ⟨w.heap.size,2,none⟩=some (.slice B m m) from ⟨hx.cell c0a,hx.cell c0b,hx.cell c0c⟩))
  go_region_held3 (fun w'=>w'.cell? ⟨w.heap.size,0,none⟩=some (.bool na)∧w'.cell? ⟨w.heap.size,1,none⟩=some (.slice A k k)∧w'.cell? ⟨w.heap.size,2,none⟩=some (.slice B m m)) (exact HKeep.out _ Ext.ua)
   (first
    | (go_at_call 47;refine (zCV na A k _).mono ?_;rintro e w1 ⟨rfl,hx⟩;(first|(have k1:=blk2 hx)|(have k1:=blk1 hx)|(have k1:=True.intro));have hxN:Ext W0 w1:=Ext.trans Ext.ua hx;have hxA:=hxN;clear hxN;have hs1:=hxA.size;have hz1:=hx.size;(try simp only [World.size_alloc,World.size_drew,World.size_setCell] at hz1);  clear hx)
    | (go_at_call 146;refine (zA0 na A B k m num less _ (HR0.out.ext Ext.ua)).mono ?_;rintro e w2 ⟨e2,a2,rfl,hn2,hx⟩;(first|(have k2:=blk2n hx)|(have k2:=blk1n hx)|(have k2:=True.intro));(first|(have kk:=carry2 k1 (Ext.trans Ext.ud hx);clear k1;have k1:=kk;clear kk)|(have kk:=carry1 k1 (Ext.trans Ext.ud hx);clear k1;have k1:=kk;clear kk)|skip);have hxN:Ext W0 w2:=Ext.trans Ext.ua hx;(try clear hxA);have hxA:=hxN;clear hxN;have HN2:=zH hn2;clear hn2;have hs2:=hxA.size;have hz2:=hx.size;(try simp only [World.size_alloc,World.size_drew,World.size_setCell] at hz2);  clear hx)
    | (go_at_call 149;refine (zCh A e2 k a2 num.natAbs (less+1) _ (HR0.out.num.nat.ext Ext.ua) (HN2.out.ext Ext.ub) (by have:=HR0.out.num.k;omega) (by have:=zAK HN2.out HR0.out.bits;omega) (Nat.succ_ne_zero _)).mono ?_;rintro e w3 ⟨A3,k3q,A4,k4q,rfl,hq3,hr3,hx⟩;(first|(have k3:=blk2n hx)|(have k3:=blk1n hx)|(have k3:=True.intro));(first|(have kk:=carry2 k1 (Ext.trans Ext.ud hx);clear k1;have k1:=kk;clear kk)|(have kk:=carry1 k1 (Ext.trans Ext.ud hx);clear k1;have k1:=kk;clear kk)|skip);(first|(have kk:=carry2 k2 (Ext.trans Ext.ud hx);clear k2;have k2:=kk;clear kk)|(have kk:=carry1 k2 (Ext.trans Ext.ud hx);clear k2;have k2:=kk;clear kk)|skip);have hxN:Ext W0 w3:=Ext.trans Ext.ua hx;(try clear hxA);have hxA:=hxN;clear hxN;have HQ3:=zH hq3;clear hq3;(first|(have hh:=zH (HN2.out.ext (Ext.trans Ext.ub hx));clear HN2;have HN2:=hh;clear hh));clear hr3;have hs3:=hxA.size;have hz3:=hx.size;(try simp only [World.size_alloc,World.size_drew,World.size_setCell] at hz3);(first|(have zl1:=Blk.lt k1)|skip);(first|(have zz:=Blk.one k1;obtain ⟨zc1,zf1⟩:=zz)|skip);(first|(have zl1a:=Blk.lt k1.1)|skip);(first|(have zz:=Blk.one k1.1;obtain ⟨zc1a,zf1a⟩:=zz)|skip);(first|(have zl1b:=Blk.lt k1.2)|skip);(first|(have zz:=Blk.one k1.2;obtain ⟨zc1b,zf1b⟩:=zz)|skip);(first|(have zl2:=Blk.lt k2)|skip);(first|(have zz:=Blk.one k2;obtain ⟨zc2,zf2⟩:=zz)|skip);(first|(have zl2a:=Blk.lt k2.1)|skip);(first|(have zz:=Blk.one k2.1;obtain ⟨zc2a,zf2a⟩:=zz)|skip);(first|(have zl2b:=Blk.lt k2.2)|skip);(first|(have zz:=Blk.one k2.2;obtain ⟨zc2b,zf2b⟩:=zz)|skip);(first|(have zl3:=Blk.lt k3)|skip);(first|(have zz:=Blk.one k3;obtain ⟨zc3,zf3⟩:=zz)|skip);(first|(have zl3a:=Blk.lt k3.1)|skip);(first|(have zz:=Blk.one k3.1;obtain ⟨zc3a,zf3a⟩:=zz)|skip);(first|(have zl3b:=Blk.lt k3.2)|skip);(first|(have zz:=Blk.one k3.2;obtain ⟨zc3b,zf3b⟩:=zz)|skip);  clear hx))
  all_goals
   go_wp2
   refine Met.intro ?_
   go_step
   (repeat apply Exists.intro)
   refine And.symm ⟨?_,?_⟩
   ·first|with_reducible rfl
   first
   | exact ⟨_,rfl,(by first|exact Nat.le_refl _|assumption|omega),(by first|exact NatB.ext (NatB.put k1 HQ3.out HBq.out) ((Ext.refl _).alloc _)|exact NatB.ext (NatB.put k2 HQ3.out HBq.out) ((Ext.refl _).alloc _)|exact NatB.ext (NatB.put k3 HQ3.out HBq.out) ((Ext.refl _).alloc _)|exact NatB.ext (NatB.new HQ3.out HBq.out) ((Ext.refl _).alloc _)|exact NatB.at (by simp only [World.size_setCell,World.size_alloc]) (by first|exact HQ3.out.ext ((Ext.refl _).alloc _)|exact HQ3.out.setB (Blk.typ k1) (by decide) _ _|exact HQ3.out.setB (Blk.typ k2) (by decide) _ _|exact HQ3.out.setB (Blk.typ k3) (by decide) _ _) HBq.out|exact zAo k1 k2 om HQ3.out HBq.out|exact zAo k1 k3 om HQ3.out HBq.out|exact zAo k1.1 k1.2 om HQ3.out HBq.out|exact zAo k1.2 k1.1 om HQ3.out HBq.out|exact zAo k2 k1 om HQ3.out HBq.out|exact zAo k2 k3 om HQ3.out HBq.out|exact zAo k2.1 k2.2 om HQ3.out HBq.out|exact zAo k2.2 k2.1 om HQ3.out HBq.out|exact zAo k3 k1 om HQ3.out HBq.out|exact zAo k3 k2 om HQ3.out HBq.out|exact zAo k3.1 k3.2 om HQ3.out HBq.out|exact zAo k3.2 k3.1 om HQ3.out HBq.out),Ext.ua⟩
 obtain ⟨b3,rfl,hb3,HB3,HX1⟩:=hcut
 obtain ⟨W1,hWn⟩:∃ W1,wc=W1:=⟨_,rfl⟩
 rw [hWn] at HB3 HX1 ⊢
 clear hWn wc
 replace f0a:=HX1.out.free f0a (zAA c0a)
 replace c0a:=HX1.out.cell c0a
 replace f0b:=HX1.out.free f0b (zAA c0b)
 replace c0b:=HX1.out.cell c0b
 replace f0c:=HX1.out.free f0c (zAA c0c)
 replace c0c:=HX1.out.cell c0c
 replace f1a:=HX1.out.free f1a (zAA c1a)
 replace c1a:=HX1.out.cell c1a
 replace f1b:=HX1.out.free f1b (zAA c1b)
 replace c1b:=HX1.out.cell c1b
 replace HR0:=zH (HR0.out.ext HX1.out)
 replace HX:=zH (HX.out.trans HX1.out)
 have hszW1:=HX1.out.size
 obtain ⟨A3,k3,q3,hn3⟩:=HB3.out.box
 obtain ⟨c3,f3⟩:=q3.one
 have hl3:=q3.lt
 have HN3:=zH hn3
 clear hn3 q3 HB3
 obtain ⟨q,hq⟩:∃ q,num.natAbs / (less+1)=q:=⟨_,rfl⟩
 have hfn:=fun h=>floorQ_neg (num:=num) (less:=less) h
 have hfb:=fun h1 h2=>floor_bits (num:=num) (less:=less) h1 h2
 have hfp:=fun h=>floorQ_pos (num:=num) (less:=less) h
 rw [hq] at HN3 HBq hfn hfb hfp
 have HSg:=zH (fun W (hx:Ext W1 W)=>zBa na A k num W (HR0.out.num.ext hx))
 obtain ⟨sg,hsg⟩:∃ sg,signZ num=sg:=⟨_,rfl⟩
 rw [hsg] at HSg
 by_cases hn:num < 0
 ·obtain rfl:sg = -1:=by rw [← hsg];exact signZ_neg hn
  have HRs:=zH (fun W (hx:Ext W1 W)=>zCw na A B k m num less W (HR0.out.ext hx))
  obtain ⟨r,hr⟩:∃ r,restQ num less=r:=⟨_,rfl⟩
  have hrb:bitsN r≤4096:=by rw [← hr];exact Nat.le_trans (zAG (Nat.le_of_lt (zBP num less))) HR0.out.bits
  rw [hr] at HRs hfn hfb
  have hfn:=hfn hn
  have HRb:=zH hrb
  obtain ⟨br,hbr⟩:∃ br,bitsN r=br:=⟨_,rfl⟩
  have HBi:=zH (fun W E e (he:IsNat W E e r)=>zAc E e r W he (by have:=zAK he HRb.out;omega))
  rw [hbr] at HBi
  by_cases h0:r=0
  ·obtain rfl:br=0:=by rw [← hbr,h0];rfl
   rw [if_pos h0] at hfn
   have HQ:=zH hfn
   clear hfn hfb hfp hn hsg hbr hr h0 hrb hq
   go_wp2_with (first
    | (go_at_call 86;refine (HSg.out _ Ext.ua).mono ?_;rintro e w1 ⟨rfl,hx⟩;have hxN:Ext W1 w1:=Ext.trans Ext.ua hx;have hxA:=hxN;clear hxN;  have tc0a:=hxA.cell c0a;have uc0a:=hxA.free f0a (zAA c0a);have tc0b:=hxA.cell c0b;have uc0b:=hxA.free f0b (zAA c0b);have tc0c:=hxA.cell c0c;have uc0c:=hxA.free f0c (zAA c0c);have tc1a:=hxA.cell c1a;have uc1a:=hxA.free f1a (zAA c1a);have tc1b:=hxA.cell c1b;have uc1b:=hxA.free f1b (zAA c1b);have tc3:=hxA.cell c3;have uc3:=hxA.free f3 (zAA c3);clear hx)
    | (go_at_call 147;refine (HRs.out _ Ext.ua).mono ?_;rintro e w2 ⟨A5,e5,rfl,hn5,hx⟩;have hxN:Ext W1 w2:=Ext.trans Ext.ua hx;(try clear hxA);have hxA:=hxN;clear hxN;have HN5:=zH hn5;clear hn5;  (try clear tc0a uc0a);have tc0a:=hxA.cell c0a;have uc0a:=hxA.free f0a (zAA c0a);(try clear tc0b uc0b);have tc0b:=hxA.cell c0b;have uc0b:=hxA.free f0b (zAA c0b);(try clear tc0c uc0c);have tc0c:=hxA.cell c0c;have uc0c:=hxA.free f0c (zAA c0c);(try clear tc1a uc1a);have tc1a:=hxA.cell c1a;have uc1a:=hxA.free f1a (zAA c1a);(try clear tc1b uc1b);have tc1b:=hxA.cell c1b;have uc1b:=hxA.free f1b (zAA c1b);(try clear tc3 uc3);have tc3:=hxA.cell c3;have uc3:=hxA.free f3 (zAA c3);clear hx)
    | (go_at_call 132;refine (HBi.out _ _ _ (HN5.out.ext Ext.ub)).mono ?_;rintro e w3 ⟨rfl,hx⟩;have hxN:Ext W1 w3:=Ext.trans Ext.ua hx;(try clear hxA);have hxA:=hxN;clear hxN;(first|(have hh:=zH (HN5.out.ext (Ext.trans Ext.ub hx));clear HN5;have HN5:=hh;clear hh));  (try clear tc0a uc0a);have tc0a:=hxA.cell c0a;have uc0a:=hxA.free f0a (zAA c0a);(try clear tc0b uc0b);have tc0b:=hxA.cell c0b;have uc0b:=hxA.free f0b (zAA c0b);(try clear tc0c uc0c);have tc0c:=hxA.cell c0c;have uc0c:=hxA.free f0c (zAA c0c);(try clear tc1a uc1a);have tc1a:=hxA.cell c1a;have uc1a:=hxA.free f1a (zAA c1a);(try clear tc1b uc1b);have tc1b:=hxA.cell c1b;have uc1b:=hxA.free f1b (zAA c1b);(try clear tc3 uc3);have tc3:=hxA.cell c3;have uc3:=hxA.free f3 (zAA c3);clear hx)
    | (go_at_call 114;refine (zCy A3 k3 q _ (HN3.out.ext Ext.ua) HBq.out).mono ?_;rintro e w4 ⟨b7,rfl,hi7,hx⟩;have hxN:Ext W1 w4:=Ext.trans Ext.ua hx;(try clear hxA);have hxA:=hxN;clear hxN;have HI7:=zH hi7;clear hi7;(first|(have hh:=zH (HN5.out.ext (Ext.trans Ext.ub hx));clear HN5;have HN5:=hh;clear hh));  (try clear tc0a uc0a);have tc0a:=hxA.cell c0a;have uc0a:=hxA.free f0a (zAA c0a);(try clear tc0b uc0b);have tc0b:=hxA.cell c0b;have uc0b:=hxA.free f0b (zAA c0b);(try clear tc0c uc0c);have tc0c:=hxA.cell c0c;have uc0c:=hxA.free f0c (zAA c0c);(try clear tc1a uc1a);have tc1a:=hxA.cell c1a;have uc1a:=hxA.free f1a (zAA c1a);(try clear tc1b uc1b);have tc1b:=hxA.cell c1b;have uc1b:=hxA.free f1b (zAA c1b);(try clear tc3 uc3);have tc3:=hxA.cell c3;have uc3:=hxA.free f3 (zAA c3);clear hx))
   exact bodyPost_ret (v:=.agg #[.bool b7,.slice A3 k3 k3]) (by simp [results,Tryz.results106,go_sem,tc1a,tc1b]) rfl ⟨b7,A3,k3,rfl,by rw [HQ.out];exact (HI7.out.setBool tc1a _).setBox (zBJ tc1b (by decide)) _,by have hh:=HX.out.trans hxA;exact (by repeat (first|exact hh|refine Ext.setCell ?_ (by first|(simp only [];omega)) _))⟩
  ·have hb0:0 < br:=by rw [← hbr];exact zAf h0
   rw [if_neg h0] at hfn
   have HQ:=zH hfn
   have HBs:=zH (show bitsN (q+1)≤4096 from Nat.le_trans (zAG (hfb hn h0)) HR0.out.num.bits)
   have HAd:=zH (fun W (hx:Ext W1 W) E e (he:IsNat W E e 1)=>Add_any A3 E k3 e q 1 W (HN3.out.ext hx) he HBq.out (by decide))
   rw [fitN_of HBs.out] at HAd
   clear hfn hfb hfp hn hsg hbr hr h0 hrb hq
   go_upto_region 6 with (first
     | (go_at_call 86;refine (HSg.out _ Ext.ua).mono ?_;rintro e u1 ⟨rfl,hx⟩;have hxN:Ext W1 u1:=Ext.trans Ext.ua hx;have hxA:=hxN;clear hxN;  have tc0a:=hxA.cell c0a;have uc0a:=hxA.free f0a (zAA c0a);have tc0b:=hxA.cell c0b;have uc0b:=hxA.free f0b (zAA c0b);have tc0c:=hxA.cell c0c;have uc0c:=hxA.free f0c (zAA c0c);clear hx)
     | (go_at_call 147;refine (HRs.out _ Ext.ua).mono ?_;rintro e u2 ⟨A5,e5,rfl,hn5,hx⟩;have hxN:Ext W1 u2:=Ext.trans Ext.ua hx;(try clear hxA);have hxA:=hxN;clear hxN;have HN5:=zH hn5;clear hn5;  (try clear tc0a uc0a);have tc0a:=hxA.cell c0a;have uc0a:=hxA.free f0a (zAA c0a);(try clear tc0b uc0b);have tc0b:=hxA.cell c0b;have uc0b:=hxA.free f0b (zAA c0b);(try clear tc0c uc0c);have tc0c:=hxA.cell c0c;have uc0c:=hxA.free f0c (zAA c0c);clear hx)
     | (go_at_call 132;refine (HBi.out _ _ _ (HN5.out.ext Ext.ub)).mono ?_;rintro e u3 ⟨rfl,hx⟩;have hxN:Ext W1 u3:=Ext.trans Ext.ua hx;(try clear hxA);have hxA:=hxN;clear hxN;(first|(have hh:=zH (HN5.out.ext (Ext.trans Ext.ub hx));clear HN5;have HN5:=hh;clear hh));  (try clear tc0a uc0a);have tc0a:=hxA.cell c0a;have uc0a:=hxA.free f0a (zAA c0a);(try clear tc0b uc0b);have tc0b:=hxA.cell c0b;have uc0b:=hxA.free f0b (zAA c0b);(try clear tc0c uc0c);have tc0c:=hxA.cell c0c;have uc0c:=hxA.free f0c (zAA c0c);clear hx))
   have HXq:=zH hxA
   clear hxA HSg HRs HBi HN5 tc0a tc0b tc0c uc0a uc0b uc0c
   replace f0a:=HXq.out.free f0a (zAA c0a)
   replace c0a:=HXq.out.cell c0a
   replace f0b:=HXq.out.free f0b (zAA c0b)
   replace c0b:=HXq.out.cell c0b
   replace f0c:=HXq.out.free f0c (zAA c0c)
   replace c0c:=HXq.out.cell c0c
   replace f1a:=HXq.out.free f1a (zAA c1a)
   replace c1a:=HXq.out.cell c1a
   replace f1b:=HXq.out.free f1b (zAA c1b)
   replace c1b:=HXq.out.cell c1b
   replace f3:=HXq.out.free f3 (zAA c3)
   replace c3:=HXq.out.cell c3
   replace HR0:=zH (HR0.out.ext HXq.out)
   replace HN3:=zH (HN3.out.ext HXq.out)
   replace HX:=zH (HX.out.trans HXq.out)
   have hszu3:=HXq.out.size
   replace HAd:=zH (fun W (hx:Ext u3 W) E e (he:IsNat W E e 1)=>HAd.out W (HXq.out.trans hx) E e he)
   have HKeep:=zH (fun (w':World) (hx:Ext u3 w')=>(show w'.cell? ⟨b3,0,none⟩=some (.slice A3 k3 k3) from hx.cell c3))
   go_region_with (first
     | (go_at_call 150;refine (zCb _).mono ?_;rintro e w1 ⟨A1,e1,rfl,hn1,hx⟩;(first|(have k1:=True.intro));have hxA:Ext u3 w1:=Ext.trans Ext.ua hx;have HN1:=zH hn1;clear hn1;have tc3:=hxA.cell c3;have uc3:=hxA.free f3 (zAA c3);have hs1:=hxA.size;have hz1:=hx.size;(try simp only [World.size_alloc,World.size_drew,World.size_setCell] at hz1);  clear hx)
     | (go_at_call 115;refine (HAd.out _ Ext.ua _ _ (HN1.out.ext Ext.ub)).mono ?_;rintro e w2 ⟨A2,e2,rfl,hn2,hx⟩;(first|(have k2:=True.intro));have hxN:Ext u3 w2:=Ext.trans Ext.ua hx;clear hxA;have hxA:=hxN;clear hxN;have HN2:=zH hn2;clear hn2;(first|(have hh:=zH (HN1.out.ext (Ext.trans Ext.ub hx));clear HN1;have HN1:=hh;clear hh));have tc1a:=hxA.cell c1a;have uc1a:=hxA.free f1a (zAA c1a);have tc1b:=hxA.cell c1b;have uc1b:=hxA.free f1b (zAA c1b);have tc3:=hxA.cell c3;have uc3:=hxA.free f3 (zAA c3);have hs2:=hxA.size;have hz2:=hx.size;  clear hx))
   all_goals
    go_wp2_with (go_at_call 114;refine (zCy A2 e2 (q+1) _ (HN2.out.setBox tc3 _) HBs.out).mono ?_;rintro e w5 ⟨b7,rfl,hi7,hx5⟩;have HI7:=zH hi7;clear hi7;have hsz5:=hx5.size;have s1:=hx5.cell (zCN tc1a om);have s2:=hx5.cell (zCN tc1b om);have v1:=hx5.free (free_far uc1a) (zAA (zCN tc1a om));have v2:=hx5.free (free_far uc1b) (zAA (zCN tc1b om)))
    first
    | exact bodyPost_ret (v:=.agg #[.bool b7,.slice A2 e2 e2]) (by simp [results,Tryz.results106,go_sem,s1,s2]) rfl ⟨b7,A2,e2,rfl,by rw [HQ.out];exact (HI7.out.setBool s1 _).setBox (zBJ s2 (by decide)) _,by have hh:=(Ext.setCell (HX.out.trans hxA) (p:=⟨_,0,none⟩) (by simp only [];omega) _).trans hx5;exact (by repeat (first|exact hh|refine Ext.setCell ?_ (by first|(simp only [];omega)) _))⟩
 ·have h0:0≤sg:=by rw [← hsg];exact zCm om
  have HQ:=zH (hfp om)
  clear hfn hfb hfp hn hsg hq
  go_wp2_with (first
   | (go_at_call 86;refine (HSg.out _ Ext.ua).mono ?_;rintro e w1 ⟨rfl,hx⟩;have hxN:Ext W1 w1:=Ext.trans Ext.ua hx;have hxA:=hxN;clear hxN;  have tc1a:=hxA.cell c1a;have uc1a:=hxA.free f1a (zAA c1a);have tc1b:=hxA.cell c1b;have uc1b:=hxA.free f1b (zAA c1b);have tc3:=hxA.cell c3;have uc3:=hxA.free f3 (zAA c3);clear hx)
   | (go_at_call 114;refine (zCx A3 k3 q _ (HN3.out.ext Ext.ua) HBq.out).mono ?_;rintro e w2 ⟨b7,rfl,hi7,hx⟩;have hxN:Ext W1 w2:=Ext.trans Ext.ua hx;(try clear hxA);have hxA:=hxN;clear hxN;have HI7:=zH hi7;clear hi7;  (try clear tc1a uc1a);have tc1a:=hxA.cell c1a;have uc1a:=hxA.free f1a (zAA c1a);(try clear tc1b uc1b);have tc1b:=hxA.cell c1b;have uc1b:=hxA.free f1b (zAA c1b);(try clear tc3 uc3);have tc3:=hxA.cell c3;have uc3:=hxA.free f3 (zAA c3);clear hx))
  exact bodyPost_ret (v:=.agg #[.bool b7,.slice A3 k3 k3]) (by simp [results,Tryz.results106,go_sem,tc1a,tc1b]) rfl ⟨b7,A3,k3,rfl,by rw [HQ.out];exact (HI7.out.setBool tc1a _).setBox (zBJ tc1b (by decide)) _,by have hh:=HX.out.trans hxA;exact (by repeat (first|exact hh|refine Ext.setCell ?_ (by first|(simp only [];omega)) _))⟩
end Go.Proofs.YtdkgilioejdmeaaGreat
