/- YtdkgilioejdmeaaGreatBA10: what is proved here stands in the theorems' own rows. -/
import Derived.Deep.DeepCutAuto
import Derived.Test.YtdkgilioejdmeaaGreatBA1
import Derived.Test.YtdkgilioejdmeaaGreatBA6
import Derived.Test.YtdkgilioejdmeaaGreatBA8
set_option linter.unusedVariables false
set_option linter.unusedSimpArgs false
namespace Go.Proofs.YtdkgilioejdmeaaGreat
open Go.RowKit
theorem zQuo_all (na nb:Bool) (A B:Option Addr) (k m:Nat) (a b:Int) (w:World) (ha:IsInt w na A k a) (hb:IsInt w nb B m b) :
  Calls Tryz.prog 183 #[.agg #[.bool na,.slice A k k],.agg #[.bool nb,.slice B m m]] w fun e w'=>∃ n A' k' n2 A2 k2 c,e = .returned (.tuple #[.agg #[.bool n,.slice A' k' k'],.agg #[.bool n2,.slice A2 k2 k2],.int .i64 c])∧IsInt w' n A' k' (a / b)∧Ext w w':=by
 by_cases h0:b=0
 ·subst h0
  refine (zQuo_zero na nb A B k m a w ha hb).mono ?_
  rintro e w' ⟨rfl,hx⟩
  exact ⟨_,_,_,_,_,_,_,rfl,by rw [Int.ediv_zero];exact zBX _,hx⟩
 ·refine (zQuo_ok na nb A B k m a b w ha hb h0).mono ?_
  rintro e w' ⟨n,A',k',A2,k2,rfl,h1,h2,hx⟩
  exact ⟨_,_,_,_,_,_,_,rfl,h1,hx⟩
set_option maxHeartbeats 8000000 in
set_option maxRecDepth 100000 in
theorem zDK (lo p n gA gU gL cA cU:Nat) (bl:Nat→Nat) (ct:Nat→Nat→Int) (i j:Nat) (w0 w:World) (h:IsLat w lo p n n gA gU gL cA cU bl ct) (hx0:Ext w0 w) (hlo:w0.heap.size≤lo) (hn:n≤100) (hi:i < n) (hj:j < i) :
  Calls Tryz.prog 243 #[.pointer (some ⟨p,0,none⟩),.int .i64 i,.int .i64 j] w fun e w'=>e = .returned (.tuple #[])∧IsLat w' lo p n n gA gU gL cA cU bl (shortP n i j ct)∧Ext w0 w':=by
 have HWd:=zH (wide_any lo p n n gA gU gL cA cU bl ct i j w h hn (Nat.le_refl _) hi hj)
 have HH:=zH h
 have HX0:=zH hx0
 have hjn:j < n:=by omega
 have hlp:=h.lowp
 have HShort:Hid (shortP n i j ct=if wideB (ct (2*n+1+i) j) (ct (2*n) (j+1))=true then shQ n i j (quoS (ct (2*n+1+i) j) (ct (2*n) (j+1))) (ct (2*n) (j+1)) ct else ct):=rfl
 have hmf:∀ (fn:Fn) (first cap:Array Value) (w:World),(Instr.makeFunc fn first cap).run Tryz.prog w = .ok (.func fn first cap) w:=fun _ _ _ _=>rfl
 obtain ⟨bb,hbb⟩:∃ bb,wideB (ct (2*n+1+i) j) (ct (2*n) (j+1))=bb:=⟨_,rfl⟩
 rw [hbb] at HWd HShort
 clear h hx0 hbb
 go_enter Tryz.func243,Tryz.ntmps243
 cases bb with
 | false =>
  rw [if_neg (by decide)] at HShort
  go_wp2_with (go_at_call 251;refine HWd.out.mono ?_;rintro e w1 ⟨rfl,hx⟩;have HX1:=zH (HX0.out.trans hx);have HL1:=zH (HH.out.ext hx);clear hx)
  refine bodyPost_ret (results_none rfl _ _ _) rfl ⟨rfl,?_,HX1.out⟩
  rw [HShort.out];exact HL1.out
 | true =>
  rw [if_pos rfl] at HShort
  obtain ⟨d,hd⟩:∃ d,ct (2*n) (j+1)=d:=⟨_,rfl⟩
  obtain ⟨l,hl⟩:∃ l,ct (2*n+1+i) j=l:=⟨_,rfl⟩
  rw [hd,hl] at HShort
  obtain ⟨q,hq⟩:∃ q,quoS l d=q:=⟨_,rfl⟩
  rw [hq] at HShort
  have HQ:=zH hq
  have HDe:=zH hd
  have HLe:=zH hl
  clear hd hl hq
  have hi0:(0:Int)≤(j:Int)+1:=by omega
  have hi1:(j:Int)+1 < ((n+1:Nat):Int):=by omega
  have hi2:((j:Int)+1).toNat=j+1:=by omega
  have hi3:(j:Int) < (i:Int):=by omega
  have hw1:IntKind.i64.wrap ((j:Int)+1)=(j:Int)+1:=IntWalk.i64_in _ om
  obtain ⟨W1,hW1⟩:∃ W1:World,True:=⟨w,trivial⟩
  clear hW1 W1
  go_upto_region 1 with (go_at_call 251;refine HWd.out.mono ?_;rintro e w1 ⟨rfl,hx⟩;have HX1:=zH (HX0.out.trans hx);have HL1:=zH (HH.out.ext hx);clear hx)
  clear HWd HH HX0
  have c2:w1.cell? ⟨p,2,none⟩=some (.slice (some ⟨bl (2*n),0,none⟩) (n+1) (n+1)):=HL1.out.box.cell 2 rfl
  obtain ⟨nd,Ad,kd,cd1,cd2,id⟩:=(HL1.out.rows.row (2*n) (Or.inl om)).cells (j+1) (by rw [zAu];omega)
  rw [HDe.out] at id
  have HId:=zH id
  have l2:=zAA c2
  have l3:=zAA cd1
  simp only at l2 l3
  clear id
  go_upto_region 2 with (fail)
  obtain ⟨b6,hb6e⟩:∃ b6,w1.heap.size=b6:=⟨_,rfl⟩
  obtain ⟨W6,hW6⟩:∃ W6,w1.alloc (.cells #[.bool nd,.slice Ad kd kd] 49)=W6:=⟨_,rfl⟩
  have HX6:Hid (Ext w0 W6):=by rw [← hW6];exact HX1.out.alloc _
  have HL6:Hid (IsLat W6 lo p n n gA gU gL cA cU bl ct):=by rw [← hW6];exact HL1.out.ext ((Ext.refl _).alloc _)
  have HB6:Hid (IntB W6 b6 d):=by rw [← hW6,← hb6e];exact IntB.new HId.out
  have HNe6:Hid (∀ s,latT n n s→bl s≠b6):=fun s hs e=>by have:=(HL1.out.rows.row s hs).lt;omega
  have hs6:b6 < W6.heap.size:=by obtain ⟨_,_,_,q6,_⟩:=HB6.out.box;exact q6.lt
  have hlo6:w0.heap.size≤b6:=by have:=HX1.out.size;omega
  rw [hW6,hb6e]
  clear hW6 HL1 HX1 HId hb6e c2 cd1 cd2 l2 l3 hw1 hi1
  have c3:W6.cell? ⟨p,3,none⟩=some (.slice (some ⟨gL,0,none⟩) n n):=HL6.out.box.cell 3 rfl
  have cLi:=HL6.out.cellL i hi
  obtain ⟨nl,Al,kl,cl1,cl2,il⟩:=(HL6.out.rows.row (2*n+1+i) (Or.inr ⟨by omega,by omega⟩)).cells j (by rw [zA4];exact hj)
  rw [HLe.out] at il
  have HIl:=zH il
  obtain ⟨bLi,hbLi⟩:∃ b,bl (2*n+1+i)=b:=⟨_,rfl⟩
  rw [hbLi] at cLi cl1 cl2
  have l2:=zAA c3
  have l3:=zAA cLi
  have l4:=zAA cl1
  simp only at l2 l3 l4
  clear il hbLi
  have HAd:=zH (fun W (hx:Ext W6 W)=>zBR nl nl Al Al kl kl l l W (HIl.out.ext hx) (HIl.out.ext hx))
  have HNs6:Hid (∀ s,latT n n s→bl s < W6.heap.size):=fun s hs=>(HL6.out.rows.row s hs).lt
  have hxs6:=zH HX6.out.size
  have HX:=HX6
  go_upto_region 2 with (fail)
  go_cut [7] (fun s7 wx=>∃ b7,s7 = .pointer (some ⟨b7,0,none⟩)∧W6.heap.size≤b7∧Hid (IntB wx b7 (fitZ (l+l)))∧Hid (Ext W6 wx))
  case first =>
   as_aux_lemma =>
    have HKeepT:=zH (fun (w':World) (hx:Ext W6 w')=>(show w'.cell? ⟨p,3,none⟩=some (.slice (some ⟨gL,0,none⟩) n n)∧w'.cell? ⟨gL,i,none⟩=some (.slice (some ⟨bLi,0,none⟩) i i)∧w'.cell? ⟨bLi,j*2,none⟩=some (.bool nl)∧w'.cell? ⟨bLi,j*2+1,none⟩=some (.slice Al kl kl) from ⟨hx.cell c3,hx.cell cLi,hx.cell cl1,hx.cell cl2⟩))
    have hxA:Ext W6 W6:=Ext.refl _
    refine rU HKeepT [25] [] 26 (fun hH hC=>?_)
    revert hC
    refine tk 0 26 hH ?_
    refine tk 1 26 hH ?_
    refine tk 2 26 hH ?_
    refine tk 3 26 hH ?_
    refine tk 4 26 hH ?_
    refine tk 5 26 hH ?_
    refine tk 6 26 hH ?_
    refine tk 7 26 hH ?_
    refine tk 8 26 hH ?_
    refine tk 9 26 hH ?_
    refine tk 10 26 hH ?_
    refine tk 11 26 hH ?_
    refine tk 12 26 hH ?_
    refine tk 13 26 hH ?_
    refine tk 14 26 hH ?_
    refine tk 15 26 hH ?_
    refine tk 16 26 hH ?_
    refine tk 17 26 hH ?_
    refine tk 18 26 hH ?_
    refine tk 19 26 hH ?_
    intro hC
    refine zAj (al:=24) (d:=7) (c:=20) (T:=49) (zs:=#[.bool false,.slice none 0 0]) (fuel:=4) (L:=fun l7=>#[true,true,true,true,true,true,true,true,true,true,true,true,true,true,true,true,true,true,true,true,false,false,false,false,l7,false]) W6 W6.heap.size hxA.size Sg Sg (by intro l7;cases l7 <;> kernel_rfl) (by intro l7;cases l7 <;> kernel_rfl) (by rfl) (by intro l7;cases l7 <;> kernel_rfl) ?_ (fun w' hx=>HKeepT.out _ (hxA.trans hx)) ?_ false W6.drew (Ext.refl _).drew AlOK.no
    ·intro v1 w' K' hK'
     try simp only [Act.put,sA,sB,sC]
     try simp only [Act.put,sA,sB,sC] at hK'
     go_simp
     exact hK'
    intro l7 v7 y hxy hal7 hct K hK
    (try clear hH)
    (try clear hC)
    try simp only [Act.put,sA,sB,sC]
    replace hxA:=hxA.trans hxy
    go_simp
    (go_at_call 67;with_reducible refine Calls.mono (HAd.out _ ?_) ?_;exact (by repeat (first|with_reducible exact hxA));rintro e w1 ⟨n1,A1,e1,rfl,hn1,hx⟩;have hxN:Ext W6 w1:=Ext.trans (by repeat (first|with_reducible exact hxA)) hx;clear hxA;have hxA:=hxN;clear hxN;have HN1:=zH hn1;clear hn1;replace hal7:=AlOK.ext hal7 (Ext.trans (by repeat (first|with_reducible exact Ext.refl _)) hx);clear hx)
    try go_wp2_with fail
    have hHeldN:=HKeepT.out w1 hxA
    refine hK.out _ _ (fun _ _=>hHeldN) (fun hCn=>?_)
    clear hK K
    (try clear hct)
    have hH:=hHeldN
    have hC:=hCn
    clear hHeldN hCn
    try simp only [Act.put,sA,sB,sC]
    refine zAN hC hH (i:=21) (f:=26) (v:=?_) Sg kr (by cases l7 <;> kernel_rfl) (by cases l7 <;> kernel_rfl) kr Iq (by rfl) ?_ (fun hCn=>?_)
    rotate_left
    ·intro w' hSw;go_simp;(try with_reducible rfl)
    clear hC
    have hC:=hCn
    clear hCn
    try simp only [Act.put,sA,sB,sC]
    refine zAN hC hH (i:=22) (f:=26) (v:=?_) Sg kr (by cases l7 <;> kernel_rfl) (by cases l7 <;> kernel_rfl) kr Iq (by rfl) ?_ (fun hCn=>?_)
    rotate_left
    ·intro w' hSw;go_simp;(try with_reducible rfl)
    clear hC
    have hC:=hCn
    clear hCn
    try simp only [Act.put,sA,sB,sC]
    refine zAj (al:=24) (d:=7) (c:=23) (T:=49) (zs:=#[.bool false,.slice none 0 0]) (fuel:=1) (L:=fun l7=>#[true,true,true,true,true,true,true,true,true,true,true,true,true,true,true,true,true,true,true,true,true,true,true,false,l7,false]) w1 W6.heap.size hxA.size Sg Sg (by intro l7;cases l7 <;> kernel_rfl) (by intro l7;cases l7 <;> kernel_rfl) (by rfl) (by intro l7;cases l7 <;> kernel_rfl) ?_ (fun w' hx=>HKeepT.out _ (hxA.trans hx)) ?_ l7 w1 (Ext.refl _) hal7
    ·intro v1 w' K' hK'
     try simp only [Act.put,sA,sB,sC]
     try simp only [Act.put,sA,sB,sC] at hK'
     go_simp
     exact hK'
    intro l7 v7 y hxy hal7 hct K hK
    (try clear hH)
    (try clear hC)
    try simp only [Act.put,sA,sB,sC]
    replace hxA:=hxA.trans hxy
    (try replace HN1:=zH (HN1.out.ext hxy))
    go_simp
    (go_at_call 249;refine (zBD n1 A1 e1 _ _ _ (HN1.out.ext Ext.ub)).mono ?_;rintro e w2 ⟨rfl,hn2,hx⟩;have hxN:Ext W6 w2:=Ext.trans (by repeat (first|with_reducible exact hxA)) hx;clear hxA;have hxA:=hxN;clear hxN;have HN2:=zH hn2;clear hn2;(first|(have hh:=zH (HN1.out.ext (Ext.trans Ext.ub hx));clear HN1;have HN1:=hh;clear hh));replace hal7:=AlOK.ext hal7 (Ext.trans (by repeat (first|with_reducible exact Ext.refl _)) hx);clear hx)
    try go_wp2_with fail
    have hHeldN:=HKeepT.out w2 hxA
    refine hK.out _ _ (fun _ _=>hHeldN) (fun hCn=>?_)
    clear hK K
    (try clear hct)
    have hH:=hHeldN
    have hC:=hCn
    clear hHeldN hCn
    try simp only [Act.put,sA,sB,sC]
    refine zAj (al:=24) (d:=7) (c:=25) (T:=49) (zs:=#[.bool false,.slice none 0 0]) (fuel:=0) (L:=fun l7=>#[true,true,true,true,true,true,true,true,true,true,true,true,true,true,true,true,true,true,true,true,true,true,true,true,l7,false]) w2 W6.heap.size hxA.size Sg Sg (by intro l7;cases l7 <;> kernel_rfl) (by intro l7;cases l7 <;> kernel_rfl) (by rfl) (by intro l7;cases l7 <;> kernel_rfl) ?_ (fun w' hx=>HKeepT.out _ (hxA.trans hx)) ?_ l7 w2 (Ext.refl _) hal7
    ·intro v1 w' K' hK'
     try simp only [Act.put,sA,sB,sC]
     try simp only [Act.put,sA,sB,sC] at hK'
     go_simp
     exact hK'
    intro l7 v7 y hxy hal7 hct K hK
    (try clear hH)
    (try clear hC)
    try simp only [Act.put,sA,sB,sC]
    replace hxA:=hxA.trans hxy
    (try replace HN1:=zH (HN1.out.ext hxy))
    (try replace HN2:=zH (HN2.out.ext hxy))
    obtain rfl:l7=true:=by
     cases l7 with
     | false=>exact absurd (Eq.trans (Eq.symm hct) kr) (show ¬ (true=false) by decide)
     | true=>rfl
    obtain ⟨b7,rfl,hb7,k7⟩:=hal7 rfl
    clear hal7
    have zl7:=k7.lt
    obtain ⟨zc7a,zf7a,zc7b,zf7b⟩:=k7.two
    clear hct
    go_simp
    refine hK.out _ _ (fun h=>by cases h) (fun hCn=>?_)
    clear hK K
    have hC:=hCn
    clear hCn
    try simp only [Act.put,sA,sB,sC]
    refine zAD kr ?_ _
    clear hC HKeepT
    skip
    go_wp2
    refine Met.intro ?_
    go_step
    (repeat apply Exists.intro)
    refine And.symm ⟨?_,?_⟩
    ·first|with_reducible rfl
    first
    | exact ⟨_,rfl,(by first|assumption),zH (IntB.mk2 (by (with_reducible repeat (first|(refine Blk.put2 ?_;· (repeat (first|exact BlkN.of k7 rfl)))))) (by (with_reducible repeat (first|exact HN2.out|(refine IsInt.setN ?_ ?_;· (repeat (first|exact NB.of k7 (by decide)|refine NB.set ?_))))))),zH Ext.ua⟩
  obtain ⟨b7,rfl,hb7,HB7,HX7⟩:=hcut
  obtain ⟨W7,hWn⟩:∃ W7,wc=W7:=⟨_,rfl⟩
  rw [hWn] at HB7 HX7 ⊢
  clear hWn wc
  replace c3:=HX7.out.cell c3
  replace cLi:=HX7.out.cell cLi
  replace cl1:=HX7.out.cell cl1
  replace cl2:=HX7.out.cell cl2
  replace HL6:=zH (HL6.out.ext HX7.out)
  replace HB6:=zH (HB6.out.ext HX7.out)
  replace HX:=zH (HX.out.trans HX7.out)
  have hszW7:=HX7.out.size
  obtain ⟨n7,A7,k7,q7,hn7⟩:=HB7.out.box
  obtain ⟨c7a,f7a,c7b,f7b⟩:=q7.two
  have HQ7:=HB7
  have hl7:=q7.lt
  have HN7:=zH hn7
  clear hn7 q7 HB7
  have HNs8:Hid (∀ s,latT n n s→bl s < W7.heap.size):=fun s hs=>by have:=HNs6.out s hs;omega
  have hxs8:Hid (w0.heap.size≤W7.heap.size):=by have:=hxs6.out;show _≤_;omega
  clear HAd HIl HX6 HNs6 hxs6
  obtain ⟨n6,A6,k6,q6,i6⟩:=HB6.out.box
  obtain ⟨c6a,f6a,c6b,f6b⟩:=q6.two
  have HI6:=zH i6
  clear q6 i6
  have HA1:=zH (fun W (hx:Ext W7 W)=>zBR n7 n6 A7 A6 k7 k6 (fitZ (l+l)) d W (HN7.out.ext hx) (HI6.out.ext hx))
  have HA2:=zH (fun W (hx:Ext W7 W)=>zBR n6 n6 A6 A6 k6 k6 d d W (HI6.out.ext hx) (HI6.out.ext hx))
  clear c3 cLi cl1 cl2
  go_upto_region 3 with (fail)
  go_cut [8] (fun s8 wx=>∃ b8,s8 = .pointer (some ⟨b8,0,none⟩)∧W7.heap.size≤b8∧Hid (IntB wx b8 q)∧Hid (Ext W7 wx))
  case first =>
   as_aux_lemma =>
    have HKeepT:=zH (fun (w':World) (hx:Ext W7 w')=>(show w'.cell? ⟨b7,0,none⟩=some (.bool n7)∧w'.cell? ⟨b7,1,none⟩=some (.slice A7 k7 k7)∧w'.cell? ⟨b6,0,none⟩=some (.bool n6)∧w'.cell? ⟨b6,1,none⟩=some (.slice A6 k6 k6) from ⟨hx.cell c7a,hx.cell c7b,hx.cell c6a,hx.cell c6b⟩))
    have hxA:Ext W7 W7:=Ext.refl _
    refine rU HKeepT [19,20,21] [15,16] 22 (fun hH hC=>?_)
    revert hC
    refine tk 0 22 hH ?_
    refine tk 1 22 hH ?_
    refine tk 6 22 hH ?_
    refine tk 7 22 hH ?_
    intro hC
    refine zBH (al:=17) (am:=18) (d:=8) (d2:=9) (c:=2) (T:=49) (zs:=#[.bool false,.slice none 0 0]) (U:=49) (us:=#[.bool false,.slice none 0 0]) (fuel:=15) (L:=fun l8 l9=>#[true,true,false,false,false,false,true,true,false,false,false,false,false,false,false,false,false,l8,l9,false,false,false]) W7 W7.heap.size hxA.size Sg Sg Sg (by intro l8 l9;cases l8 <;> cases l9 <;> kernel_rfl) (by intro l8 l9;cases l8 <;> cases l9 <;> kernel_rfl) (by intro m;rfl) (by intro m;rfl) (by intro l8 l9;cases l8 <;> cases l9 <;> kernel_rfl) ?_ ?_ (fun w' hx=>HKeepT.out _ (hxA.trans hx)) ?_ false false W7.drew (Ext.refl _).drew AlOK.no AlOK.no (fun e _=>by cases e)
    ·intro v1 v2 w' K' hK'
     try simp only [Act.put,sA,sB,sC]
     try simp only [Act.put,sA,sB,sC] at hK'
     go_simp
     exact hK'
    ·intro v1 v2 w' K' hK'
     try simp only [Act.put,sA,sB,sC]
     try simp only [Act.put,sA,sB,sC] at hK'
     go_simp
     exact hK'
    intro l8 l9 v8 v9 y hxy hal8 hal9 hnev hct K hK
    (try clear hH)
    (try clear hC)
    try simp only [Act.put,sA,sB,sC]
    replace hxA:=hxA.trans hxy
    go_simp
    (go_at_call 67;with_reducible refine Calls.mono (HA1.out _ ?_) ?_;exact (by repeat (first|with_reducible exact hxA));rintro e w1 ⟨n1,A1,e1,rfl,hn1,hx⟩;have hxN:Ext W7 w1:=Ext.trans (by repeat (first|with_reducible exact hxA)) hx;clear hxA;have hxA:=hxN;clear hxN;have HN1:=zH hn1;clear hn1;replace hal8:=AlOK.ext hal8 (Ext.trans (by repeat (first|with_reducible exact Ext.refl _)) hx);replace hal9:=AlOK.ext hal9 (Ext.trans (by repeat (first|with_reducible exact Ext.refl _)) hx);clear hx)
    try go_wp2_with fail
    have hHeldN:=HKeepT.out w1 hxA
    refine hK.out _ _ (fun _ _=>hHeldN) (fun hCn=>?_)
    clear hK K
    (try clear hct)
    have hH:=hHeldN
    have hC:=hCn
    clear hHeldN hCn
    try simp only [Act.put,sA,sB,sC]
    refine zAN hC hH (i:=3) (f:=22) (v:=?_) Sg kr (by cases l8 <;> cases l9 <;> kernel_rfl) (by cases l8 <;> cases l9 <;> kernel_rfl) kr Iq (by rfl) ?_ (fun hCn=>?_)
    rotate_left
    ·intro w' hSw;go_simp;(try with_reducible rfl)
    clear hC
    have hC:=hCn
    clear hCn
    try simp only [Act.put,sA,sB,sC]
    refine zAN hC hH (i:=4) (f:=22) (v:=?_) Sg kr (by cases l8 <;> cases l9 <;> kernel_rfl) (by cases l8 <;> cases l9 <;> kernel_rfl) kr Iq (by rfl) ?_ (fun hCn=>?_)
    rotate_left
    ·intro w' hSw;go_simp;(try with_reducible rfl)
    clear hC
    have hC:=hCn
    clear hCn
    try simp only [Act.put,sA,sB,sC]
    refine zBH (al:=17) (am:=18) (d:=8) (d2:=9) (c:=5) (T:=49) (zs:=#[.bool false,.slice none 0 0]) (U:=49) (us:=#[.bool false,.slice none 0 0]) (fuel:=12) (L:=fun l8 l9=>#[true,true,true,true,true,false,true,true,false,false,false,false,false,false,false,false,false,l8,l9,false,false,false]) w1 W7.heap.size hxA.size Sg Sg Sg (by intro l8 l9;cases l8 <;> cases l9 <;> kernel_rfl) (by intro l8 l9;cases l8 <;> cases l9 <;> kernel_rfl) (by intro m;rfl) (by intro m;rfl) (by intro l8 l9;cases l8 <;> cases l9 <;> kernel_rfl) ?_ ?_ (fun w' hx=>HKeepT.out _ (hxA.trans hx)) ?_ l8 l9 w1 (Ext.refl _) hal8 hal9 hnev
    ·intro v1 v2 w' K' hK'
     try simp only [Act.put,sA,sB,sC]
     try simp only [Act.put,sA,sB,sC] at hK'
     go_simp
     exact hK'
    ·intro v1 v2 w' K' hK'
     try simp only [Act.put,sA,sB,sC]
     try simp only [Act.put,sA,sB,sC] at hK'
     go_simp
     exact hK'
    intro l8 l9 v8 v9 y hxy hal8 hal9 hnev hct K hK
    (try clear hH)
    (try clear hC)
    try simp only [Act.put,sA,sB,sC]
    replace hxA:=hxA.trans hxy
    (try replace HN1:=zH (HN1.out.ext hxy))
    go_simp
    (go_at_call 249;refine (zBD n1 A1 e1 _ _ _ (HN1.out.ext Ext.ub)).mono ?_;rintro e w2 ⟨rfl,hn2,hx⟩;have hxN:Ext W7 w2:=Ext.trans (by repeat (first|with_reducible exact hxA)) hx;clear hxA;have hxA:=hxN;clear hxN;have HN2:=zH hn2;clear hn2;(first|(have hh:=zH (HN1.out.ext (Ext.trans Ext.ub hx));clear HN1;have HN1:=hh;clear hh));replace hal8:=AlOK.ext hal8 (Ext.trans (by repeat (first|with_reducible exact Ext.refl _)) hx);replace hal9:=AlOK.ext hal9 (Ext.trans (by repeat (first|with_reducible exact Ext.refl _)) hx);clear hx)
    try go_wp2_with fail
    have hHeldN:=HKeepT.out w2 hxA
    refine hK.out _ _ (fun _ _=>hHeldN) (fun hCn=>?_)
    clear hK K
    (try clear hct)
    have hH:=hHeldN
    have hC:=hCn
    clear hHeldN hCn
    try simp only [Act.put,sA,sB,sC]
    refine zBH (al:=17) (am:=18) (d:=8) (d2:=9) (c:=8) (T:=49) (zs:=#[.bool false,.slice none 0 0]) (U:=49) (us:=#[.bool false,.slice none 0 0]) (fuel:=11) (L:=fun l8 l9=>#[true,true,true,true,true,true,true,true,false,false,false,false,false,false,false,false,false,l8,l9,false,false,false]) w2 W7.heap.size hxA.size Sg Sg Sg (by intro l8 l9;cases l8 <;> cases l9 <;> kernel_rfl) (by intro l8 l9;cases l8 <;> cases l9 <;> kernel_rfl) (by intro m;rfl) (by intro m;rfl) (by intro l8 l9;cases l8 <;> cases l9 <;> kernel_rfl) ?_ ?_ (fun w' hx=>HKeepT.out _ (hxA.trans hx)) ?_ l8 l9 w2 (Ext.refl _) hal8 hal9 hnev
    ·intro v1 v2 w' K' hK'
     try simp only [Act.put,sA,sB,sC]
     try simp only [Act.put,sA,sB,sC] at hK'
     go_simp
     exact hK'
    ·intro v1 v2 w' K' hK'
     try simp only [Act.put,sA,sB,sC]
     try simp only [Act.put,sA,sB,sC] at hK'
     go_simp
     exact hK'
    intro l8 l9 v8 v9 y hxy hal8 hal9 hnev hct K hK
    (try clear hH)
    (try clear hC)
    try simp only [Act.put,sA,sB,sC]
    replace hxA:=hxA.trans hxy
    (try replace HN1:=zH (HN1.out.ext hxy))
    (try replace HN2:=zH (HN2.out.ext hxy))
    go_simp
    (go_at_call 67;with_reducible refine Calls.mono (HA2.out _ ?_) ?_;exact (by repeat (first|with_reducible exact hxA));rintro e w3 ⟨n3,A3,e3,rfl,hn3,hx⟩;have hxN:Ext W7 w3:=Ext.trans (by repeat (first|with_reducible exact hxA)) hx;clear hxA;have hxA:=hxN;clear hxN;have HN3:=zH hn3;clear hn3;(first|(have hh:=zH (HN1.out.ext (Ext.trans Ext.ub hx));clear HN1;have HN1:=hh;clear hh));(first|(have hh:=zH (HN2.out.ext (Ext.trans Ext.ub hx));clear HN2;have HN2:=hh;clear hh));replace hal8:=AlOK.ext hal8 (Ext.trans (by repeat (first|with_reducible exact Ext.refl _)) hx);replace hal9:=AlOK.ext hal9 (Ext.trans (by repeat (first|with_reducible exact Ext.refl _)) hx);clear hx)
    try go_wp2_with fail
    have hHeldN:=HKeepT.out w3 hxA
    refine hK.out _ _ (fun _ _=>hHeldN) (fun hCn=>?_)
    clear hK K
    (try clear hct)
    have hH:=hHeldN
    have hC:=hCn
    clear hHeldN hCn
    try simp only [Act.put,sA,sB,sC]
    refine zAN hC hH (i:=9) (f:=22) (v:=?_) Sg kr (by cases l8 <;> cases l9 <;> kernel_rfl) (by cases l8 <;> cases l9 <;> kernel_rfl) kr Iq (by rfl) ?_ (fun hCn=>?_)
    rotate_left
    ·intro w' hSw;go_simp;(try with_reducible rfl)
    clear hC
    have hC:=hCn
    clear hCn
    try simp only [Act.put,sA,sB,sC]
    refine zAN hC hH (i:=10) (f:=22) (v:=?_) Sg kr (by cases l8 <;> cases l9 <;> kernel_rfl) (by cases l8 <;> cases l9 <;> kernel_rfl) kr Iq (by rfl) ?_ (fun hCn=>?_)
    rotate_left
    ·intro w' hSw;go_simp;(try with_reducible rfl)
    clear hC
    have hC:=hCn
    clear hCn
    try simp only [Act.put,sA,sB,sC]
    refine zBH (al:=17) (am:=18) (d:=8) (d2:=9) (c:=11) (T:=49) (zs:=#[.bool false,.slice none 0 0]) (U:=49) (us:=#[.bool false,.slice none 0 0]) (fuel:=8) (L:=fun l8 l9=>#[true,true,true,true,true,true,true,true,true,true,true,false,false,false,false,false,false,l8,l9,false,false,false]) w3 W7.heap.size hxA.size Sg Sg Sg (by intro l8 l9;cases l8 <;> cases l9 <;> kernel_rfl) (by intro l8 l9;cases l8 <;> cases l9 <;> kernel_rfl) (by intro m;rfl) (by intro m;rfl) (by intro l8 l9;cases l8 <;> cases l9 <;> kernel_rfl) ?_ ?_ (fun w' hx=>HKeepT.out _ (hxA.trans hx)) ?_ l8 l9 w3 (Ext.refl _) hal8 hal9 hnev
    ·intro v1 v2 w' K' hK'
     try simp only [Act.put,sA,sB,sC]
     try simp only [Act.put,sA,sB,sC] at hK'
     go_simp
     exact hK'
    ·intro v1 v2 w' K' hK'
     try simp only [Act.put,sA,sB,sC]
     try simp only [Act.put,sA,sB,sC] at hK'
     go_simp
     exact hK'
    intro l8 l9 v8 v9 y hxy hal8 hal9 hnev hct K hK
    (try clear hH)
    (try clear hC)
    try simp only [Act.put,sA,sB,sC]
    replace hxA:=hxA.trans hxy
    (try replace HN1:=zH (HN1.out.ext hxy))
    (try replace HN2:=zH (HN2.out.ext hxy))
    (try replace HN3:=zH (HN3.out.ext hxy))
    go_simp
    (go_at_call 249;refine (zBD n3 A3 e3 _ _ _ (HN3.out.ext Ext.ub)).mono ?_;rintro e w4 ⟨rfl,hn4,hx⟩;have hxN:Ext W7 w4:=Ext.trans (by repeat (first|with_reducible exact hxA)) hx;clear hxA;have hxA:=hxN;clear hxN;have HN4:=zH hn4;clear hn4;(first|(have hh:=zH (HN1.out.ext (Ext.trans Ext.ub hx));clear HN1;have HN1:=hh;clear hh));(first|(have hh:=zH (HN2.out.ext (Ext.trans Ext.ub hx));clear HN2;have HN2:=hh;clear hh));(first|(have hh:=zH (HN3.out.ext (Ext.trans Ext.ub hx));clear HN3;have HN3:=hh;clear hh));replace hal8:=AlOK.ext hal8 (Ext.trans (by repeat (first|with_reducible exact Ext.refl _)) hx);replace hal9:=AlOK.ext hal9 (Ext.trans (by repeat (first|with_reducible exact Ext.refl _)) hx);clear hx)
    try go_wp2_with fail
    have hHeldN:=HKeepT.out w4 hxA
    refine hK.out _ _ (fun _ _=>hHeldN) (fun hCn=>?_)
    clear hK K
    (try clear hct)
    have hH:=hHeldN
    have hC:=hCn
    clear hHeldN hCn
    try simp only [Act.put,sA,sB,sC]
    refine zBH (al:=17) (am:=18) (d:=8) (d2:=9) (c:=12) (T:=49) (zs:=#[.bool false,.slice none 0 0]) (U:=49) (us:=#[.bool false,.slice none 0 0]) (fuel:=7) (L:=fun l8 l9=>#[true,true,true,true,true,true,true,true,true,true,true,true,false,false,false,false,false,l8,l9,false,false,false]) w4 W7.heap.size hxA.size Sg Sg Sg (by intro l8 l9;cases l8 <;> cases l9 <;> kernel_rfl) (by intro l8 l9;cases l8 <;> cases l9 <;> kernel_rfl) (by intro m;rfl) (by intro m;rfl) (by intro l8 l9;cases l8 <;> cases l9 <;> kernel_rfl) ?_ ?_ (fun w' hx=>HKeepT.out _ (hxA.trans hx)) ?_ l8 l9 w4 (Ext.refl _) hal8 hal9 hnev
    ·intro v1 v2 w' K' hK'
     try simp only [Act.put,sA,sB,sC]
     try simp only [Act.put,sA,sB,sC] at hK'
     go_simp
     exact hK'
    ·intro v1 v2 w' K' hK'
     try simp only [Act.put,sA,sB,sC]
     try simp only [Act.put,sA,sB,sC] at hK'
     go_simp
     exact hK'
    intro l8 l9 v8 v9 y hxy hal8 hal9 hnev hct K hK
    (try clear hH)
    (try clear hC)
    try simp only [Act.put,sA,sB,sC]
    replace hxA:=hxA.trans hxy
    (try replace HN1:=zH (HN1.out.ext hxy))
    (try replace HN2:=zH (HN2.out.ext hxy))
    (try replace HN3:=zH (HN3.out.ext hxy))
    (try replace HN4:=zH (HN4.out.ext hxy))
    go_simp
    (go_at_call 183;refine (zQuo_all n1 n3 A1 A3 e1 e3 _ _ _ (HN2.out.ext Ext.ub) (HN4.out.ext Ext.ub)).mono ?_;rintro e w5 ⟨n5,A5,e5,m5,D5,g5,x5,rfl,hn5,hx⟩;have hxN:Ext W7 w5:=Ext.trans (by repeat (first|with_reducible exact hxA)) hx;clear hxA;have hxA:=hxN;clear hxN;have HN5:=zH hn5;clear hn5;(first|(have hh:=zH (HN1.out.ext (Ext.trans Ext.ub hx));clear HN1;have HN1:=hh;clear hh));(first|(have hh:=zH (HN2.out.ext (Ext.trans Ext.ub hx));clear HN2;have HN2:=hh;clear hh));(first|(have hh:=zH (HN3.out.ext (Ext.trans Ext.ub hx));clear HN3;have HN3:=hh;clear hh));(first|(have hh:=zH (HN4.out.ext (Ext.trans Ext.ub hx));clear HN4;have HN4:=hh;clear hh));rw [show fitZ (fitZ (l+l)+d) / fitZ (d+d)=q from HQ.out] at HN5;replace hal8:=AlOK.ext hal8 (Ext.trans (by repeat (first|with_reducible exact Ext.refl _)) hx);replace hal9:=AlOK.ext hal9 (Ext.trans (by repeat (first|with_reducible exact Ext.refl _)) hx);clear hx)
    try go_wp2_with fail
    have hHeldN:=HKeepT.out w5 hxA
    refine hK.out _ _ (fun _ _=>hHeldN) (fun hCn=>?_)
    clear hK K
    (try clear hct)
    have hH:=hHeldN
    have hC:=hCn
    clear hHeldN hCn
    try simp only [Act.put,sA,sB,sC]
    refine zAN hC hH (i:=13) (f:=22) (v:=?_) Sg kr (by cases l8 <;> cases l9 <;> kernel_rfl) (by cases l8 <;> cases l9 <;> kernel_rfl) kr Iq (by rfl) ?_ (fun hCn=>?_)
    rotate_left
    ·intro w' hSw;go_simp;(try with_reducible rfl)
    clear hC
    have hC:=hCn
    clear hCn
    try simp only [Act.put,sA,sB,sC]
    refine zAN hC hH (i:=14) (f:=22) (v:=?_) Sg kr (by cases l8 <;> cases l9 <;> kernel_rfl) (by cases l8 <;> cases l9 <;> kernel_rfl) kr Iq (by rfl) ?_ (fun hCn=>?_)
    rotate_left
    ·intro w' hSw;go_simp;(try with_reducible rfl)
    clear hC
    have hC:=hCn
    clear hCn
    try simp only [Act.put,sA,sB,sC]
    refine zAF hC (i:=15) (v:=?_) Sg kr (by cases l8 <;> cases l9 <;> kernel_rfl) (by cases l8 <;> cases l9 <;> kernel_rfl) kr Iq (by rfl) ?_ (fun hCn=>?_)
    rotate_left
    ·intro w';go_simp;(try with_reducible rfl)
    clear hC
    have hC:=hCn
    clear hCn
    try simp only [Act.put,sA,sB,sC]
    refine zAF hC (i:=16) (v:=?_) Sg kr (by cases l8 <;> cases l9 <;> kernel_rfl) (by cases l8 <;> cases l9 <;> kernel_rfl) kr Iq (by rfl) ?_ (fun hCn=>?_)
    rotate_left
    ·intro w';go_simp;(try with_reducible rfl)
    clear hC
    have hC:=hCn
    clear hCn
    try simp only [Act.put,sA,sB,sC]
    refine zBH (al:=17) (am:=18) (d:=8) (d2:=9) (c:=19) (T:=49) (zs:=#[.bool false,.slice none 0 0]) (U:=49) (us:=#[.bool false,.slice none 0 0]) (fuel:=2) (L:=fun l8 l9=>#[true,true,true,true,true,true,true,true,true,true,true,true,true,true,true,true,true,l8,l9,false,false,false]) w5 W7.heap.size hxA.size Sg Sg Sg (by intro l8 l9;cases l8 <;> cases l9 <;> kernel_rfl) (by intro l8 l9;cases l8 <;> cases l9 <;> kernel_rfl) (by intro m;rfl) (by intro m;rfl) (by intro l8 l9;cases l8 <;> cases l9 <;> kernel_rfl) ?_ ?_ (fun w' hx=>HKeepT.out _ (hxA.trans hx)) ?_ l8 l9 w5 (Ext.refl _) hal8 hal9 hnev
    ·intro v1 v2 w' K' hK'
     try simp only [Act.put,sA,sB,sC]
     try simp only [Act.put,sA,sB,sC] at hK'
     go_simp
     exact hK'
    ·intro v1 v2 w' K' hK'
     try simp only [Act.put,sA,sB,sC]
     try simp only [Act.put,sA,sB,sC] at hK'
     go_simp
     exact hK'
    intro l8 l9 v8 v9 y hxy hal8 hal9 hnev hct K hK
    (try clear hH)
    (try clear hC)
    try simp only [Act.put,sA,sB,sC]
    replace hxA:=hxA.trans hxy
    (try replace HN1:=zH (HN1.out.ext hxy))
    (try replace HN2:=zH (HN2.out.ext hxy))
    (try replace HN3:=zH (HN3.out.ext hxy))
    (try replace HN4:=zH (HN4.out.ext hxy))
    (try replace HN5:=zH (HN5.out.ext hxy))
    obtain rfl:l8=true:=by
     cases l8 with
     | false=>exact absurd (Eq.trans (Eq.symm hct) (by cases l9 <;> kernel_rfl)) (show ¬ (true=false) by decide)
     | true=>rfl
    obtain rfl:l9=true:=by
     cases l9 with
     | false=>exact absurd (Eq.trans (Eq.symm hct) kr) (show ¬ (true=false) by decide)
     | true=>rfl
    obtain ⟨b8,rfl,hb8,k8⟩:=hal8 rfl
    clear hal8
    have zl8:=k8.lt
    obtain ⟨zc8a,zf8a,zc8b,zf8b⟩:=k8.two
    obtain ⟨b9,rfl,hb9,k9⟩:=hal9 rfl
    clear hal9
    have zl9:=k9.lt
    obtain ⟨zc9a,zf9a,zc9b,zf9b⟩:=k9.two
    have hbne:b8≠b9:=fun e=>hnev rfl rfl (by rw [e])
    have hbne2:=Ne.symm hbne
    clear hct
    go_simp
    refine hK.out _ _ (fun h=>by cases h) (fun hCn=>?_)
    clear hK K
    have hC:=hCn
    clear hCn
    try simp only [Act.put,sA,sB,sC]
    refine zAB hC (i:=20) Sg kr (fun K hK=>?_)
    go_simp
    refine hK.out _ _ (fun h=>by cases h) (fun hCn=>?_)
    clear hK K hC
    have hC:=hCn
    clear hCn
    try simp only [Act.put,sA,sB,sC]
    refine zAB hC (i:=21) Sg kr (fun K hK=>?_)
    go_simp
    refine hK.out _ _ (fun h=>by cases h) (fun hCn=>?_)
    clear hK K hC
    have hC:=hCn
    clear hCn
    try simp only [Act.put,sA,sB,sC]
    refine zAD kr ?_ _
    clear hC HKeepT
    skip
    go_wp2
    refine Met.intro ?_
    go_step
    (repeat apply Exists.intro)
    refine And.symm ⟨?_,?_⟩
    ·first|with_reducible rfl
    first
    | exact ⟨_,rfl,(by first|assumption),zH (IntB.mk2 (by (with_reducible repeat (first|(refine Blk.put2 ?_;· (repeat (first|exact BlkN.of k8 rfl)))|(refine Blk.far2 ?_ ?_;· (first|assumption))))) (by (with_reducible repeat (first|exact HN5.out|(refine IsInt.setN ?_ ?_;· (repeat (first|exact NB.of k8 (by decide)|exact NB.of k9 (by decide)|refine NB.set ?_))))))),zH Ext.ua⟩
  obtain ⟨b8,rfl,hb8,HB8,HX8⟩:=hcut
  obtain ⟨W8,hWn⟩:∃ W8,wc=W8:=⟨_,rfl⟩
  rw [hWn] at HB8 HX8 ⊢
  clear hWn wc
  replace f7a:=HX8.out.free f7a (zAA c7a)
  replace c7a:=HX8.out.cell c7a
  replace f7b:=HX8.out.free f7b (zAA c7b)
  replace c7b:=HX8.out.cell c7b
  replace f6a:=HX8.out.free f6a (zAA c6a)
  replace c6a:=HX8.out.cell c6a
  replace f6b:=HX8.out.free f6b (zAA c6b)
  replace c6b:=HX8.out.cell c6b
  replace HL6:=zH (HL6.out.ext HX8.out)
  replace HB6:=zH (HB6.out.ext HX8.out)
  replace HQ7:=zH (HQ7.out.ext HX8.out)
  replace HN7:=zH (HN7.out.ext HX8.out)
  replace HI6:=zH (HI6.out.ext HX8.out)
  replace HX:=zH (HX.out.trans HX8.out)
  have hszW8:=HX8.out.size
  obtain ⟨n8,A8,k8,q8,hn8⟩:=HB8.out.box
  obtain ⟨c8a,f8a,c8b,f8b⟩:=q8.two
  have HQ8:=HB8
  have hl8:=q8.lt
  have HN8:=zH hn8
  clear hn8 q8 HB8
  have HNe8:Hid (∀ s,latT n n s→bl s≠b8):=fun s hs e=>by have:=(HL6.out.rows.row s hs).lt;have h2:=HNs8.out s hs;omega
  have hlo8:w0.heap.size≤b8:=by have:=hxs8.out;omega
  have h68:b6≠b8:=by omega
  have HB8:=HQ8
  clear HA1 HA2 HQ7 HN7 HI6 HN8 c6a c6b c7a c7b c8a c8b f6a f6b f7a f7b f8a f8b HX7 HX8 hl8 hszW7 hszW8 hs6
  have c0:W8.cell? ⟨p,0,none⟩=some (.slice (some ⟨gA,0,none⟩) n cA):=HL6.out.box.cell 0 rfl
  obtain ⟨cc,hcc⟩:∃ c,ct=c:=⟨_,rfl⟩
  have HL1:Hid (IsLat W8 lo p n n gA gU gL cA cU bl (shA n i j q ct 0)):=HL6
  have HX1:=HX
  clear hcc cc HL6 HX HQ8
  go_wp2
  go_loopg [73] n (fun kk kv wk=>∃ m:Nat,kk+m=n∧kv = .int .i64 m∧Hid (IsLat wk lo p n n gA gU gL cA cU bl (shA n i j q ct m))∧Hid (IntB wk b8 q)∧Hid (IntB wk b6 d)∧Hid (Ext w0 wk))
  case atStart=>exact ⟨0,by omega,rfl,HL1,HB8,HB6,HX1⟩
  clear HL1 HB8 HB6 HX1
  obtain ⟨m,hkm,rfl,HL,HB8,HB6,HX⟩:=hrel
  by_cases hmn:m < n
  ·skip
   obtain ⟨c,hc⟩:∃ c,shA n i j q ct m=c:=⟨_,rfl⟩
   have HCs:Hid (shA n i j q ct (m+1)=put (put c (n+i) m (subMul q (c (n+i) m) (c (n+j) m))) i m (subMul q (c i m) (c j m))):=by rw [← hc];rfl
   rw [hc] at HL
   clear hc
   have cF:wr.cell? ⟨p,1,none⟩=some (.slice (some ⟨gU,0,none⟩) n cU):=HL.out.box.cell 1 rfl
   have cI:=HL.out.cellU i hi
   have cJ:=HL.out.cellU j hjn
   have hrI:=HL.out.rows.row (n+i) (Or.inl om)
   obtain ⟨nx,Ax,kx,cx1,cx2,ix⟩:=hrI.cells (m) (by unfold latLn;rw [if_pos om];omega)
   have fx1:=hrI.free ((m)*2)
   have fx2:=hrI.free ((m)*2+1)
   have hlw:=HL.out.rows.low (n+i) (Or.inl om)
   obtain ⟨ny,Ay,ky,cy1,cy2,iy⟩:=(HL.out.rows.row (n+j) (Or.inl om)).cells (m) (by unfold latLn;rw [if_pos om];omega)
   obtain ⟨n8,A8,k8,q8,i8⟩:=HB8.out.box
   obtain ⟨c8a,f8a,c8b,f8b⟩:=q8.two
   obtain ⟨x,hx⟩:∃ x,c (n+i) (m)=x:=⟨_,rfl⟩
   obtain ⟨y,hy⟩:∃ y,c (n+j) (m)=y:=⟨_,rfl⟩
   have HXe:=zH hx
   have HYe:=zH hy
   rw [hx] at ix
   rw [hy] at iy
   have HIx:=zH ix
   have HIy:=zH iy
   have HI8:=zH i8
   have hTI:=zH hrI.typ
   have hn8:=zH (HNe8.out (n+i) (Or.inl om))
   have hn6:=zH (HNe6.out (n+i) (Or.inl om))
   clear hx hy ix iy i8 hrI q8
   obtain ⟨bI,hbI⟩:∃ b,bl (n+i)=b:=⟨_,rfl⟩
   rw [hbI] at cI cx1 cx2 fx1 fx2 hlw
   have HBI:=zH hbI
   obtain ⟨bJ,hbJ⟩:∃ b,bl (n+j)=b:=⟨_,rfl⟩
   rw [hbJ] at cJ cy1 cy2
   clear hbJ
   clear hbI
   have l2:=zAA cF
   have l3:=zAA cI
   have l4:=zAA cx1
   have l5:=zAA cy1
   have l6:=zAA c8a
   simp only at l2 l3 l4 l5 l6
   have HM:=zH (fun W (hx:Ext wr W)=>zAV n8 ny A8 Ay k8 ky q y W (HI8.out.ext hx) (HIy.out.ext hx))
   have HS:=zH (fun W nn E e z (he:IsInt W nn E e z) (hx:Ext wr W)=>zA1 nx nn Ax E kx e x z W (HIx.out.ext hx) he)
   go_upto_region 7 with (fail)
   have HKeepT:=zH (fun (w':World) (hx:Ext wr w')=>(show w'.cell? ⟨p,1,none⟩=some (.slice (some ⟨gU,0,none⟩) n cU)∧w'.cell? ⟨gU,i,none⟩=some (.slice (some ⟨bI,0,none⟩) n n)∧w'.cell? ⟨bI,m*2,none⟩=some (.bool nx)∧w'.cell? ⟨bI,m*2+1,none⟩=some (.slice Ax kx kx)∧w'.cell? ⟨bJ,m*2,none⟩=some (.bool ny)∧w'.cell? ⟨bJ,m*2+1,none⟩=some (.slice Ay ky ky)∧w'.cell? ⟨b8,0,none⟩=some (.bool n8)∧w'.cell? ⟨b8,1,none⟩=some (.slice A8 k8 k8)∧w'.cell? ⟨gU,j,none⟩=some (.slice (some ⟨bJ,0,none⟩) n n) from ⟨hx.cell cF,hx.cell cI,hx.cell cx1,hx.cell cx2,hx.cell cy1,hx.cell cy2,hx.cell c8a,hx.cell c8b,hx.cell cJ⟩))
   refine rU HKeepT [32] [] 33 (fun hH hC=>?_)
   revert hC
   refine tk 0 33 hH ?_
   refine tk 1 33 hH ?_
   refine tk 2 33 hH ?_
   refine tk 3 33 hH ?_
   refine tk 4 33 hH ?_
   refine tk 5 33 hH ?_
   refine tk 6 33 hH ?_
   refine tk 7 33 hH ?_
   refine tk 8 33 hH ?_
   refine tk 9 33 hH ?_
   refine tk 10 33 hH ?_
   refine tk 11 33 hH ?_
   refine tk 12 33 hH ?_
   refine tk 13 33 hH ?_
   refine tk 14 33 hH ?_
   refine tk 15 33 hH ?_
   refine tk 16 33 hH ?_
   refine tk 17 33 hH ?_
   refine tk 18 33 hH ?_
   refine tk 19 33 hH ?_
   refine tk 20 33 hH ?_
   refine tk 21 33 hH ?_
   refine tk 22 33 hH ?_
   refine tk 23 33 hH ?_
   refine tk 24 33 hH ?_
   refine tk 25 33 hH ?_
   refine tk 26 33 hH ?_
   refine tk 27 33 hH ?_
   refine tk 28 33 hH ?_
   intro hC
   refine zAB hC (i:=29) Sg kr (fun K hK=>?_)
   go_simp
   (go_at_call 248;with_reducible refine Calls.mono (HM.out _ ?_) ?_;exact Ext.ua;rintro e w1 ⟨n1,A1,e1,rfl,hn1,hx⟩;have hxN:Ext wr w1:=Ext.trans Ext.ua hx;have hxA:=hxN;clear hxN;have HN1:=zH hn1;clear hn1;clear hx)
   try go_wp2_with fail
   have hHeldN:=HKeepT.out w1 Ext.ua
   refine hK.out _ _ (fun _ _=>hHeldN) (fun hCn=>?_)
   clear hK K hH hC
   have hH:=hHeldN
   have hC:=hCn
   clear hHeldN hCn
   try simp only [Act.put,sA,sB,sC]
   refine zAB hC (i:=30) Sg kr (fun K hK=>?_)
   go_simp
   (go_at_call 250;with_reducible refine Calls.mono (HS.out _ _ _ _ _ (HN1.out.ext Ext.ub) ?_) ?_;exact Ext.ua;rintro e w2 ⟨n2,A2,e2,rfl,hn2,hx⟩;have hxN:Ext wr w2:=Ext.trans Ext.ua hx;(try clear hxA);have hxA:=hxN;clear hxN;have HN2:=zH hn2;clear hn2;(first|(have hh:=zH (HN1.out.ext (Ext.trans Ext.ub hx));clear HN1;have HN1:=hh;clear hh));have tcx1:=hxA.cell cx1;have ucx1:=hxA.free fx1 (zAA cx1);have tcx2:=hxA.cell cx2;have ucx2:=hxA.free fx2 (zAA cx2);clear hx)
   try go_wp2_with fail
   have hHeldN:=HKeepT.out w2 Ext.ua
   refine hK.out _ _ (fun _ _=>hHeldN) (fun hCn=>?_)
   clear hK K hH hC
   have hH:=hHeldN
   have hC:=hCn
   clear hHeldN hCn
   try simp only [Act.put,sA,sB,sC]
   revert hC
   refine tk 31 33 hH ?_
   intro hC
   refine zAB hC (i:=32) Sg kr (fun K hK=>?_)
   go_simp
   refine hK.out _ _ (fun h=>by cases h) (fun hCn=>?_)
   clear hK K hC
   have hC:=hCn
   clear hCn
   try simp only [Act.put,sA,sB,sC]
   refine zAD kr ?_ _
   clear hC HKeepT
   try clear hH
   obtain ⟨Va,hV⟩:∃ V,setInt w2 bI ((m)*2) n2 A2 e2=V:=⟨_,rfl⟩
   have HLn:Hid (IsLat Va lo p n n gA gU gL cA cU bl (put c (n+i) (m) (subMul q (c (n+i) (m)) (c (n+j) (m))))):=by
    rw [← hV,HXe.out,HYe.out,← HBI.out]
    exact (HL.out.ext hxA).setZ (Or.inl om) (by unfold latLn;rw [if_pos om];omega) HN2.out
   have hTw:TB w2 49 bI:=by have:=hTI.out;rw [HBI.out] at this;exact this.of_eq (hxA.block _ this.lt)
   have HB8n:Hid (IntB Va b8 q):=by rw [← hV];exact (HB8.out.ext hxA).farI hTw (by have:=hn8.out;rw [HBI.out] at this;exact Ne.symm this)
   have HB6n:Hid (IntB Va b6 d):=by rw [← hV];exact (HB6.out.ext hxA).farI hTw (by have:=hn6.out;rw [HBI.out] at this;exact Ne.symm this)
   have HXn:Hid (Ext w0 Va):=by rw [← hV];exact zAO (HX.out.trans hxA) om
   have eV:(w2.setCell ⟨bI,(m)*2,none⟩ (.bool n2)).setCell ⟨bI,(m)*2+1,none⟩ (.slice A2 e2 e2)=Va:=hV
   rw [eV]
   clear eV hV HL HB8 HB6 HX HM HS HN1 HN2 hxA hTw HIx HIy HI8 hTI hn8 hn6 HXe HYe cF cI cx1 cx2 fx1 fx2 hlw cy1 cy2 c8a c8b f8a f8b l2 l3 l4 l5 l6 tcx1 tcx2 ucx1 ucx2 HBI cJ
   have HL:=HLn
   have HB8:=HB8n
   have HB6:=HB6n
   have HX:=HXn
   clear HLn HB8n HB6n HXn
   obtain ⟨c',hc'⟩:∃ c',put c (n+i) m (subMul q (c (n+i) m) (c (n+j) m))=c':=⟨_,rfl⟩
   have HC2:Hid (put c' i m (subMul q (c' i m) (c' j m))=shA n i j q ct (m+1)):=by
    rw [HCs.out,← hc']
    congr 1
    unfold put
    rw [if_neg om,if_neg om]
   rw [hc'] at HL
   clear hc' HCs
   have cF:Va.cell? ⟨p,0,none⟩=some (.slice (some ⟨gA,0,none⟩) n cA):=HL.out.box.cell 0 rfl
   have cI:=HL.out.cellA i hi
   have cJ:=HL.out.cellA j hjn
   have hrI:=HL.out.rows.row (i) (Or.inl om)
   obtain ⟨nx,Ax,kx,cx1,cx2,ix⟩:=hrI.cells (m) (by unfold latLn;rw [if_pos om];omega)
   have fx1:=hrI.free ((m)*2)
   have fx2:=hrI.free ((m)*2+1)
   have hlw:=HL.out.rows.low (i) (Or.inl om)
   obtain ⟨ny,Ay,ky,cy1,cy2,iy⟩:=(HL.out.rows.row (j) (Or.inl om)).cells (m) (by unfold latLn;rw [if_pos om];omega)
   obtain ⟨n8,A8,k8,q8,i8⟩:=HB8.out.box
   obtain ⟨c8a,f8a,c8b,f8b⟩:=q8.two
   obtain ⟨x,hx⟩:∃ x,c' (i) (m)=x:=⟨_,rfl⟩
   obtain ⟨y,hy⟩:∃ y,c' (j) (m)=y:=⟨_,rfl⟩
   have HXe:=zH hx
   have HYe:=zH hy
   rw [hx] at ix
   rw [hy] at iy
   have HIx:=zH ix
   have HIy:=zH iy
   have HI8:=zH i8
   have hTI:=zH hrI.typ
   have hn8:=zH (HNe8.out (i) (Or.inl om))
   have hn6:=zH (HNe6.out (i) (Or.inl om))
   clear hx hy ix iy i8 hrI q8
   obtain ⟨bI,hbI⟩:∃ b,bl (i)=b:=⟨_,rfl⟩
   rw [hbI] at cI cx1 cx2 fx1 fx2 hlw
   have HBI:=zH hbI
   obtain ⟨bJ,hbJ⟩:∃ b,bl (j)=b:=⟨_,rfl⟩
   rw [hbJ] at cJ cy1 cy2
   clear hbJ
   clear hbI
   have l2:=zAA cF
   have l3:=zAA cI
   have l4:=zAA cx1
   have l5:=zAA cy1
   have l6:=zAA c8a
   simp only at l2 l3 l4 l5 l6
   have HM:=zH (fun W (hx:Ext Va W)=>zAV n8 ny A8 Ay k8 ky q y W (HI8.out.ext hx) (HIy.out.ext hx))
   have HS:=zH (fun W nn E e z (he:IsInt W nn E e z) (hx:Ext Va W)=>zA1 nx nn Ax E kx e x z W (HIx.out.ext hx) he)
   go_upto_region 8 with (fail)
   have HKeepT:=zH (fun (w':World) (hx:Ext Va w')=>(show w'.cell? ⟨p,0,none⟩=some (.slice (some ⟨gA,0,none⟩) n cA)∧w'.cell? ⟨gA,i,none⟩=some (.slice (some ⟨bI,0,none⟩) n n)∧w'.cell? ⟨bI,m*2,none⟩=some (.bool nx)∧w'.cell? ⟨bI,m*2+1,none⟩=some (.slice Ax kx kx)∧w'.cell? ⟨bJ,m*2,none⟩=some (.bool ny)∧w'.cell? ⟨bJ,m*2+1,none⟩=some (.slice Ay ky ky)∧w'.cell? ⟨b8,0,none⟩=some (.bool n8)∧w'.cell? ⟨b8,1,none⟩=some (.slice A8 k8 k8)∧w'.cell? ⟨gA,j,none⟩=some (.slice (some ⟨bJ,0,none⟩) n n) from ⟨hx.cell cF,hx.cell cI,hx.cell cx1,hx.cell cx2,hx.cell cy1,hx.cell cy2,hx.cell c8a,hx.cell c8b,hx.cell cJ⟩))
   refine rU HKeepT [32] [] 33 (fun hH hC=>?_)
   revert hC
   refine tk 0 33 hH ?_
   refine tk 1 33 hH ?_
   refine tk 2 33 hH ?_
   refine tk 3 33 hH ?_
   refine tk 4 33 hH ?_
   refine tk 5 33 hH ?_
   refine tk 6 33 hH ?_
   refine tk 7 33 hH ?_
   refine tk 8 33 hH ?_
   refine tk 9 33 hH ?_
   refine tk 10 33 hH ?_
   refine tk 11 33 hH ?_
   refine tk 12 33 hH ?_
   refine tk 13 33 hH ?_
   refine tk 14 33 hH ?_
   refine tk 15 33 hH ?_
   refine tk 16 33 hH ?_
   refine tk 17 33 hH ?_
   refine tk 18 33 hH ?_
   refine tk 19 33 hH ?_
   refine tk 20 33 hH ?_
   refine tk 21 33 hH ?_
   refine tk 22 33 hH ?_
   refine tk 23 33 hH ?_
   refine tk 24 33 hH ?_
   refine tk 25 33 hH ?_
   refine tk 26 33 hH ?_
   refine tk 27 33 hH ?_
   refine tk 28 33 hH ?_
   intro hC
   refine zAB hC (i:=29) Sg kr (fun K hK=>?_)
   go_simp
   (go_at_call 248;with_reducible refine Calls.mono (HM.out _ ?_) ?_;exact Ext.ua;rintro e w1 ⟨n1,A1,e1,rfl,hn1,hx⟩;have hxN:Ext Va w1:=Ext.trans Ext.ua hx;have hxA:=hxN;clear hxN;have HN1:=zH hn1;clear hn1;clear hx)
   try go_wp2_with fail
   have hHeldN:=HKeepT.out w1 Ext.ua
   refine hK.out _ _ (fun _ _=>hHeldN) (fun hCn=>?_)
   clear hK K hH hC
   have hH:=hHeldN
   have hC:=hCn
   clear hHeldN hCn
   try simp only [Act.put,sA,sB,sC]
   refine zAB hC (i:=30) Sg kr (fun K hK=>?_)
   go_simp
   (go_at_call 250;with_reducible refine Calls.mono (HS.out _ _ _ _ _ (HN1.out.ext Ext.ub) ?_) ?_;exact Ext.ua;rintro e w2 ⟨n2,A2,e2,rfl,hn2,hx⟩;have hxN:Ext Va w2:=Ext.trans Ext.ua hx;(try clear hxA);have hxA:=hxN;clear hxN;have HN2:=zH hn2;clear hn2;(first|(have hh:=zH (HN1.out.ext (Ext.trans Ext.ub hx));clear HN1;have HN1:=hh;clear hh));have tcx1:=hxA.cell cx1;have ucx1:=hxA.free fx1 (zAA cx1);have tcx2:=hxA.cell cx2;have ucx2:=hxA.free fx2 (zAA cx2);clear hx)
   try go_wp2_with fail
   have hHeldN:=HKeepT.out w2 Ext.ua
   refine hK.out _ _ (fun _ _=>hHeldN) (fun hCn=>?_)
   clear hK K hH hC
   have hH:=hHeldN
   have hC:=hCn
   clear hHeldN hCn
   try simp only [Act.put,sA,sB,sC]
   revert hC
   refine tk 31 33 hH ?_
   intro hC
   refine zAB hC (i:=32) Sg kr (fun K hK=>?_)
   go_simp
   refine hK.out _ _ (fun h=>by cases h) (fun hCn=>?_)
   clear hK K hC
   have hC:=hCn
   clear hCn
   try simp only [Act.put,sA,sB,sC]
   refine zAD kr ?_ _
   clear hC HKeepT
   try clear hH
   obtain ⟨Vb,hV⟩:∃ V,setInt w2 bI ((m)*2) n2 A2 e2=V:=⟨_,rfl⟩
   have HLn:Hid (IsLat Vb lo p n n gA gU gL cA cU bl (put c' (i) (m) (subMul q (c' (i) (m)) (c' (j) (m))))):=by
    rw [← hV,HXe.out,HYe.out,← HBI.out]
    exact (HL.out.ext hxA).setZ (Or.inl om) (by unfold latLn;rw [if_pos om];omega) HN2.out
   have hTw:TB w2 49 bI:=by have:=hTI.out;rw [HBI.out] at this;exact this.of_eq (hxA.block _ this.lt)
   have HB8n:Hid (IntB Vb b8 q):=by rw [← hV];exact (HB8.out.ext hxA).farI hTw (by have:=hn8.out;rw [HBI.out] at this;exact Ne.symm this)
   have HB6n:Hid (IntB Vb b6 d):=by rw [← hV];exact (HB6.out.ext hxA).farI hTw (by have:=hn6.out;rw [HBI.out] at this;exact Ne.symm this)
   have HXn:Hid (Ext w0 Vb):=by rw [← hV];exact zAO (HX.out.trans hxA) om
   have eV:(w2.setCell ⟨bI,(m)*2,none⟩ (.bool n2)).setCell ⟨bI,(m)*2+1,none⟩ (.slice A2 e2 e2)=Vb:=hV
   rw [eV]
   clear eV hV HL HB8 HB6 HX HM HS HN1 HN2 hxA hTw HIx HIy HI8 hTI hn8 hn6 HXe HYe cF cI cx1 cx2 fx1 fx2 hlw cy1 cy2 c8a c8b f8a f8b l2 l3 l4 l5 l6 tcx1 tcx2 ucx1 ucx2 HBI cJ
   have HL:=HLn
   have HB8:=HB8n
   have HB6:=HB6n
   have HX:=HXn
   clear HLn HB8n HB6n HXn
   rw [HC2.out] at HL
   go_wp2
   go_roundg (n - (m+1))
   case measure=>omega
   case rel=>exact ⟨m+1,by omega,by go_num,HL,HB8,HB6,HX⟩
  ·skip
   obtain rfl:n=m:=by omega
   have c0:wr.cell? ⟨p,0,none⟩=some (.slice (some ⟨gA,0,none⟩) n cA):=HL.out.box.cell 0 rfl
   obtain ⟨ca,hca⟩:∃ c,shA n i j q ct n=c:=⟨_,rfl⟩
   have HCA:=zH hca
   have HL1:Hid (IsLat wr lo p n n gA gU gL cA cU bl (shC i j q ca 0)):=by show IsLat wr lo p n n gA gU gL cA cU bl ca;rw [← hca];exact HL.out
   have HX1:=HX
   clear HL HX hca hkm hmn
   go_wp2
   go_loopg [146] n (fun kk kv wk=>∃ m:Nat,kk+m=n∧kv = .int .i64 m∧Hid (IsLat wk lo p n n gA gU gL cA cU bl (shC i j q ca m))∧Hid (IntB wk b8 q)∧Hid (IntB wk b6 d)∧Hid (Ext w0 wk))
   case atStart=>exact ⟨0,by omega,rfl,HL1,HB8,HB6,HX1⟩
   clear HL1 HB8 HB6 HX1
   obtain ⟨m,hkm,rfl,HL,HB8,HB6,HX⟩:=hrel
   by_cases hmn:m < n
   ·skip
    obtain ⟨c,hc⟩:∃ c,shC i j q ca m=c:=⟨_,rfl⟩
    have HCs:Hid (put c m i (subMul q (c m i) (c m j))=shC i j q ca (m+1)):=by rw [← hc];rfl
    rw [hc] at HL
    clear hc
    have cF:wr.cell? ⟨p,0,none⟩=some (.slice (some ⟨gA,0,none⟩) n cA):=HL.out.box.cell 0 rfl
    have cI:=HL.out.cellA m hmn
    have hrI:=HL.out.rows.row (m) (Or.inl om)
    obtain ⟨nx,Ax,kx,cx1,cx2,ix⟩:=hrI.cells (i) (by unfold latLn;rw [if_pos om];omega)
    have fx1:=hrI.free ((i)*2)
    have fx2:=hrI.free ((i)*2+1)
    have hlw:=HL.out.rows.low (m) (Or.inl om)
    obtain ⟨ny,Ay,ky,cy1,cy2,iy⟩:=(HL.out.rows.row (m) (Or.inl om)).cells (j) (by unfold latLn;rw [if_pos om];omega)
    obtain ⟨n8,A8,k8,q8,i8⟩:=HB8.out.box
    obtain ⟨c8a,f8a,c8b,f8b⟩:=q8.two
    obtain ⟨x,hx⟩:∃ x,c (m) (i)=x:=⟨_,rfl⟩
    obtain ⟨y,hy⟩:∃ y,c (m) (j)=y:=⟨_,rfl⟩
    have HXe:=zH hx
    have HYe:=zH hy
    rw [hx] at ix
    rw [hy] at iy
    have HIx:=zH ix
    have HIy:=zH iy
    have HI8:=zH i8
    have hTI:=zH hrI.typ
    have hn8:=zH (HNe8.out (m) (Or.inl om))
    have hn6:=zH (HNe6.out (m) (Or.inl om))
    clear hx hy ix iy i8 hrI q8
    obtain ⟨bI,hbI⟩:∃ b,bl (m)=b:=⟨_,rfl⟩
    rw [hbI] at cI cx1 cx2 fx1 fx2 hlw cy1 cy2
    have HBI:=zH hbI
    clear hbI
    have l2:=zAA cF
    have l3:=zAA cI
    have l4:=zAA cx1
    have l5:=zAA cy1
    have l6:=zAA c8a
    simp only at l2 l3 l4 l5 l6
    have HM:=zH (fun W (hx:Ext wr W)=>zAV n8 ny A8 Ay k8 ky q y W (HI8.out.ext hx) (HIy.out.ext hx))
    have HS:=zH (fun W nn E e z (he:IsInt W nn E e z) (hx:Ext wr W)=>zA1 nx nn Ax E kx e x z W (HIx.out.ext hx) he)
    go_upto_region 13 with (fail)
    have HKeepT:=zH (fun (w':World) (hx:Ext wr w')=>(show w'.cell? ⟨p,0,none⟩=some (.slice (some ⟨gA,0,none⟩) n cA)∧w'.cell? ⟨gA,m,none⟩=some (.slice (some ⟨bI,0,none⟩) n n)∧w'.cell? ⟨bI,i*2,none⟩=some (.bool nx)∧w'.cell? ⟨bI,i*2+1,none⟩=some (.slice Ax kx kx)∧w'.cell? ⟨bI,j*2,none⟩=some (.bool ny)∧w'.cell? ⟨bI,j*2+1,none⟩=some (.slice Ay ky ky)∧w'.cell? ⟨b8,0,none⟩=some (.bool n8)∧w'.cell? ⟨b8,1,none⟩=some (.slice A8 k8 k8) from ⟨hx.cell cF,hx.cell cI,hx.cell cx1,hx.cell cx2,hx.cell cy1,hx.cell cy2,hx.cell c8a,hx.cell c8b⟩))
    refine rU HKeepT [32] [] 33 (fun hH hC=>?_)
    revert hC
    refine tk 0 33 hH ?_
    refine tk 1 33 hH ?_
    refine tk 2 33 hH ?_
    refine tk 3 33 hH ?_
    refine tk 4 33 hH ?_
    refine tk 5 33 hH ?_
    refine tk 6 33 hH ?_
    refine tk 7 33 hH ?_
    refine tk 8 33 hH ?_
    refine tk 9 33 hH ?_
    refine tk 10 33 hH ?_
    refine tk 11 33 hH ?_
    refine tk 12 33 hH ?_
    refine tk 13 33 hH ?_
    refine tk 14 33 hH ?_
    refine tk 15 33 hH ?_
    refine tk 16 33 hH ?_
    refine tk 17 33 hH ?_
    refine tk 18 33 hH ?_
    refine tk 19 33 hH ?_
    refine tk 20 33 hH ?_
    refine tk 21 33 hH ?_
    refine tk 22 33 hH ?_
    refine tk 23 33 hH ?_
    refine tk 24 33 hH ?_
    refine tk 25 33 hH ?_
    refine tk 26 33 hH ?_
    refine tk 27 33 hH ?_
    refine tk 28 33 hH ?_
    intro hC
    refine zAB hC (i:=29) Sg kr (fun K hK=>?_)
    go_simp
    (go_at_call 248;with_reducible refine Calls.mono (HM.out _ ?_) ?_;exact Ext.ua;rintro e w1 ⟨n1,A1,e1,rfl,hn1,hx⟩;have hxN:Ext wr w1:=Ext.trans Ext.ua hx;have hxA:=hxN;clear hxN;have HN1:=zH hn1;clear hn1;clear hx)
    try go_wp2_with fail
    have hHeldN:=HKeepT.out w1 Ext.ua
    refine hK.out _ _ (fun _ _=>hHeldN) (fun hCn=>?_)
    clear hK K hH hC
    have hH:=hHeldN
    have hC:=hCn
    clear hHeldN hCn
    try simp only [Act.put,sA,sB,sC]
    refine zAB hC (i:=30) Sg kr (fun K hK=>?_)
    go_simp
    (go_at_call 250;with_reducible refine Calls.mono (HS.out _ _ _ _ _ (HN1.out.ext Ext.ub) ?_) ?_;exact Ext.ua;rintro e w2 ⟨n2,A2,e2,rfl,hn2,hx⟩;have hxN:Ext wr w2:=Ext.trans Ext.ua hx;(try clear hxA);have hxA:=hxN;clear hxN;have HN2:=zH hn2;clear hn2;(first|(have hh:=zH (HN1.out.ext (Ext.trans Ext.ub hx));clear HN1;have HN1:=hh;clear hh));have tcx1:=hxA.cell cx1;have ucx1:=hxA.free fx1 (zAA cx1);have tcx2:=hxA.cell cx2;have ucx2:=hxA.free fx2 (zAA cx2);clear hx)
    try go_wp2_with fail
    have hHeldN:=HKeepT.out w2 Ext.ua
    refine hK.out _ _ (fun _ _=>hHeldN) (fun hCn=>?_)
    clear hK K hH hC
    have hH:=hHeldN
    have hC:=hCn
    clear hHeldN hCn
    try simp only [Act.put,sA,sB,sC]
    revert hC
    refine tk 31 33 hH ?_
    intro hC
    refine zAB hC (i:=32) Sg kr (fun K hK=>?_)
    go_simp
    refine hK.out _ _ (fun h=>by cases h) (fun hCn=>?_)
    clear hK K hC
    have hC:=hCn
    clear hCn
    try simp only [Act.put,sA,sB,sC]
    refine zAD kr ?_ _
    clear hC HKeepT
    try clear hH
    obtain ⟨Vc,hV⟩:∃ V,setInt w2 bI ((i)*2) n2 A2 e2=V:=⟨_,rfl⟩
    have HLn:Hid (IsLat Vc lo p n n gA gU gL cA cU bl (put c (m) (i) (subMul q (c (m) (i)) (c (m) (j))))):=by
     rw [← hV,HXe.out,HYe.out,← HBI.out]
     exact (HL.out.ext hxA).setZ (Or.inl om) (by unfold latLn;rw [if_pos om];omega) HN2.out
    have hTw:TB w2 49 bI:=by have:=hTI.out;rw [HBI.out] at this;exact this.of_eq (hxA.block _ this.lt)
    have HB8n:Hid (IntB Vc b8 q):=by rw [← hV];exact (HB8.out.ext hxA).farI hTw (by have:=hn8.out;rw [HBI.out] at this;exact Ne.symm this)
    have HB6n:Hid (IntB Vc b6 d):=by rw [← hV];exact (HB6.out.ext hxA).farI hTw (by have:=hn6.out;rw [HBI.out] at this;exact Ne.symm this)
    have HXn:Hid (Ext w0 Vc):=by rw [← hV];exact zAO (HX.out.trans hxA) om
    have eV:(w2.setCell ⟨bI,(i)*2,none⟩ (.bool n2)).setCell ⟨bI,(i)*2+1,none⟩ (.slice A2 e2 e2)=Vc:=hV
    rw [eV]
    clear eV hV HL HB8 HB6 HX HM HS HN1 HN2 hxA hTw HIx HIy HI8 hTI hn8 hn6 HXe HYe cF cI cx1 cx2 fx1 fx2 hlw cy1 cy2 c8a c8b f8a f8b l2 l3 l4 l5 l6 tcx1 tcx2 ucx1 ucx2 HBI
    have HL:=HLn
    have HB8:=HB8n
    have HB6:=HB6n
    have HX:=HXn
    clear HLn HB8n HB6n HXn
    rw [HCs.out] at HL
    go_wp2
    go_roundg (n - (m+1))
    case measure=>omega
    case rel=>exact ⟨m+1,by omega,by go_num,HL,HB8,HB6,HX⟩
   ·skip
    obtain rfl:n=m:=by omega
    obtain ⟨cb,hcb⟩:∃ c,shC i j q ca n=c:=⟨_,rfl⟩
    have HCB:=zH hcb
    have HL1:Hid (IsLat wr lo p n n gA gU gL cA cU bl (shL n i j q cb 0)):=by show IsLat wr lo p n n gA gU gL cA cU bl cb;rw [← hcb];exact HL.out
    have HX1:=HX
    clear HL HX hcb hkm hmn
    go_wp2
    go_loopg [183] j (fun kk kv wk=>∃ m:Nat,kk+m=j∧kv = .int .i64 m∧Hid (IsLat wk lo p n n gA gU gL cA cU bl (shL n i j q cb m))∧Hid (IntB wk b8 q)∧Hid (IntB wk b6 d)∧Hid (Ext w0 wk))
    case atStart=>exact ⟨0,by omega,rfl,HL1,HB8,HB6,HX1⟩
    clear HL1 HB8 HB6 HX1
    obtain ⟨m,hkm,rfl,HL,HB8,HB6,HX⟩:=hrel
    by_cases hmn:m < j
    ·skip
     obtain ⟨c,hc⟩:∃ c,shL n i j q cb m=c:=⟨_,rfl⟩
     have HCs:Hid (put c (2*n+1+i) m (subMul q (c (2*n+1+i) m) (c (2*n+1+j) m))=shL n i j q cb (m+1)):=by rw [← hc];rfl
     rw [hc] at HL
     have hmi:m < i:=by omega
     clear hc
     have cF:wr.cell? ⟨p,3,none⟩=some (.slice (some ⟨gL,0,none⟩) n n):=HL.out.box.cell 3 rfl
     have cI:=HL.out.cellL i hi
     have cJ:=HL.out.cellL j hjn
     have hrI:=HL.out.rows.row (2*n+1+i) (Or.inr ⟨by omega,by omega⟩)
     obtain ⟨nx,Ax,kx,cx1,cx2,ix⟩:=hrI.cells (m) (by rw [zA4];omega)
     have fx1:=hrI.free ((m)*2)
     have fx2:=hrI.free ((m)*2+1)
     have hlw:=HL.out.rows.low (2*n+1+i) (Or.inr ⟨by omega,by omega⟩)
     obtain ⟨ny,Ay,ky,cy1,cy2,iy⟩:=(HL.out.rows.row (2*n+1+j) (Or.inr ⟨by omega,by omega⟩)).cells (m) (by rw [zA4];omega)
     obtain ⟨n8,A8,k8,q8,i8⟩:=HB8.out.box
     obtain ⟨c8a,f8a,c8b,f8b⟩:=q8.two
     obtain ⟨x,hx⟩:∃ x,c (2*n+1+i) (m)=x:=⟨_,rfl⟩
     obtain ⟨y,hy⟩:∃ y,c (2*n+1+j) (m)=y:=⟨_,rfl⟩
     have HXe:=zH hx
     have HYe:=zH hy
     rw [hx] at ix
     rw [hy] at iy
     have HIx:=zH ix
     have HIy:=zH iy
     have HI8:=zH i8
     have hTI:=zH hrI.typ
     have hn8:=zH (HNe8.out (2*n+1+i) (Or.inr ⟨by omega,by omega⟩))
     have hn6:=zH (HNe6.out (2*n+1+i) (Or.inr ⟨by omega,by omega⟩))
     clear hx hy ix iy i8 hrI q8
     obtain ⟨bI,hbI⟩:∃ b,bl (2*n+1+i)=b:=⟨_,rfl⟩
     rw [hbI] at cI cx1 cx2 fx1 fx2 hlw
     have HBI:=zH hbI
     obtain ⟨bJ,hbJ⟩:∃ b,bl (2*n+1+j)=b:=⟨_,rfl⟩
     rw [hbJ] at cJ cy1 cy2
     clear hbJ
     clear hbI
     have l2:=zAA cF
     have l3:=zAA cI
     have l4:=zAA cx1
     have l5:=zAA cy1
     have l6:=zAA c8a
     simp only at l2 l3 l4 l5 l6
     have HM:=zH (fun W (hx:Ext wr W)=>zAV n8 ny A8 Ay k8 ky q y W (HI8.out.ext hx) (HIy.out.ext hx))
     have HS:=zH (fun W nn E e z (he:IsInt W nn E e z) (hx:Ext wr W)=>zA1 nx nn Ax E kx e x z W (HIx.out.ext hx) he)
     go_upto_region 18 with (fail)
     have HKeepT:=zH (fun (w':World) (hx:Ext wr w')=>(show w'.cell? ⟨p,3,none⟩=some (.slice (some ⟨gL,0,none⟩) n n)∧w'.cell? ⟨gL,i,none⟩=some (.slice (some ⟨bI,0,none⟩) i i)∧w'.cell? ⟨bI,m*2,none⟩=some (.bool nx)∧w'.cell? ⟨bI,m*2+1,none⟩=some (.slice Ax kx kx)∧w'.cell? ⟨bJ,m*2,none⟩=some (.bool ny)∧w'.cell? ⟨bJ,m*2+1,none⟩=some (.slice Ay ky ky)∧w'.cell? ⟨b8,0,none⟩=some (.bool n8)∧w'.cell? ⟨b8,1,none⟩=some (.slice A8 k8 k8)∧w'.cell? ⟨gL,j,none⟩=some (.slice (some ⟨bJ,0,none⟩) j j) from ⟨hx.cell cF,hx.cell cI,hx.cell cx1,hx.cell cx2,hx.cell cy1,hx.cell cy2,hx.cell c8a,hx.cell c8b,hx.cell cJ⟩))
     refine rU HKeepT [32] [] 33 (fun hH hC=>?_)
     revert hC
     refine tk 0 33 hH ?_
     refine tk 1 33 hH ?_
     refine tk 2 33 hH ?_
     refine tk 3 33 hH ?_
     refine tk 4 33 hH ?_
     refine tk 5 33 hH ?_
     refine tk 6 33 hH ?_
     refine tk 7 33 hH ?_
     refine tk 8 33 hH ?_
     refine tk 9 33 hH ?_
     refine tk 10 33 hH ?_
     refine tk 11 33 hH ?_
     refine tk 12 33 hH ?_
     refine tk 13 33 hH ?_
     refine tk 14 33 hH ?_
     refine tk 15 33 hH ?_
     refine tk 16 33 hH ?_
     refine tk 17 33 hH ?_
     refine tk 18 33 hH ?_
     refine tk 19 33 hH ?_
     refine tk 20 33 hH ?_
     refine tk 21 33 hH ?_
     refine tk 22 33 hH ?_
     refine tk 23 33 hH ?_
     refine tk 24 33 hH ?_
     refine tk 25 33 hH ?_
     refine tk 26 33 hH ?_
     refine tk 27 33 hH ?_
     refine tk 28 33 hH ?_
     intro hC
     refine zAB hC (i:=29) Sg kr (fun K hK=>?_)
     go_simp
     (go_at_call 248;with_reducible refine Calls.mono (HM.out _ ?_) ?_;exact Ext.ua;rintro e w1 ⟨n1,A1,e1,rfl,hn1,hx⟩;have hxN:Ext wr w1:=Ext.trans Ext.ua hx;have hxA:=hxN;clear hxN;have HN1:=zH hn1;clear hn1;clear hx)
     try go_wp2_with fail
     have hHeldN:=HKeepT.out w1 Ext.ua
     refine hK.out _ _ (fun _ _=>hHeldN) (fun hCn=>?_)
     clear hK K hH hC
     have hH:=hHeldN
     have hC:=hCn
     clear hHeldN hCn
     try simp only [Act.put,sA,sB,sC]
     refine zAB hC (i:=30) Sg kr (fun K hK=>?_)
     go_simp
     (go_at_call 250;with_reducible refine Calls.mono (HS.out _ _ _ _ _ (HN1.out.ext Ext.ub) ?_) ?_;exact Ext.ua;rintro e w2 ⟨n2,A2,e2,rfl,hn2,hx⟩;have hxN:Ext wr w2:=Ext.trans Ext.ua hx;(try clear hxA);have hxA:=hxN;clear hxN;have HN2:=zH hn2;clear hn2;(first|(have hh:=zH (HN1.out.ext (Ext.trans Ext.ub hx));clear HN1;have HN1:=hh;clear hh));have tcx1:=hxA.cell cx1;have ucx1:=hxA.free fx1 (zAA cx1);have tcx2:=hxA.cell cx2;have ucx2:=hxA.free fx2 (zAA cx2);clear hx)
     try go_wp2_with fail
     have hHeldN:=HKeepT.out w2 Ext.ua
     refine hK.out _ _ (fun _ _=>hHeldN) (fun hCn=>?_)
     clear hK K hH hC
     have hH:=hHeldN
     have hC:=hCn
     clear hHeldN hCn
     try simp only [Act.put,sA,sB,sC]
     revert hC
     refine tk 31 33 hH ?_
     intro hC
     refine zAB hC (i:=32) Sg kr (fun K hK=>?_)
     go_simp
     refine hK.out _ _ (fun h=>by cases h) (fun hCn=>?_)
     clear hK K hC
     have hC:=hCn
     clear hCn
     try simp only [Act.put,sA,sB,sC]
     refine zAD kr ?_ _
     clear hC HKeepT
     try clear hH
     obtain ⟨Vd,hV⟩:∃ V,setInt w2 bI ((m)*2) n2 A2 e2=V:=⟨_,rfl⟩
     have HLn:Hid (IsLat Vd lo p n n gA gU gL cA cU bl (put c (2*n+1+i) (m) (subMul q (c (2*n+1+i) (m)) (c (2*n+1+j) (m))))):=by
      rw [← hV,HXe.out,HYe.out,← HBI.out]
      exact (HL.out.ext hxA).setZ (Or.inr ⟨by omega,by omega⟩) (by rw [zA4];omega) HN2.out
     have hTw:TB w2 49 bI:=by have:=hTI.out;rw [HBI.out] at this;exact this.of_eq (hxA.block _ this.lt)
     have HB8n:Hid (IntB Vd b8 q):=by rw [← hV];exact (HB8.out.ext hxA).farI hTw (by have:=hn8.out;rw [HBI.out] at this;exact Ne.symm this)
     have HB6n:Hid (IntB Vd b6 d):=by rw [← hV];exact (HB6.out.ext hxA).farI hTw (by have:=hn6.out;rw [HBI.out] at this;exact Ne.symm this)
     have HXn:Hid (Ext w0 Vd):=by rw [← hV];exact zAO (HX.out.trans hxA) om
     have eV:(w2.setCell ⟨bI,(m)*2,none⟩ (.bool n2)).setCell ⟨bI,(m)*2+1,none⟩ (.slice A2 e2 e2)=Vd:=hV
     rw [eV]
     clear eV hV HL HB8 HB6 HX HM HS HN1 HN2 hxA hTw HIx HIy HI8 hTI hn8 hn6 HXe HYe cF cI cx1 cx2 fx1 fx2 hlw cy1 cy2 c8a c8b f8a f8b l2 l3 l4 l5 l6 tcx1 tcx2 ucx1 ucx2 HBI cJ
     have HL:=HLn
     have HB8:=HB8n
     have HB6:=HB6n
     have HX:=HXn
     clear HLn HB8n HB6n HXn
     rw [HCs.out] at HL
     go_wp2
     go_roundg (j - (m+1))
     case measure=>omega
     case rel=>exact ⟨m+1,by omega,by go_num,HL,HB8,HB6,HX⟩
    ·skip
     obtain rfl:j=m:=by omega
     obtain ⟨c,hc⟩:∃ c,shL n i j q cb j=c:=⟨_,rfl⟩
     have HCC:Hid (shortP n i j ct=put c (2*n+1+i) j (subMul q (c (2*n+1+i) j) d)):=by
      rw [HShort.out];unfold shQ;rw [HCA.out,HCB.out,hc];rfl
     rw [hc] at HL
     clear hc hkm hmn
     have cF:wr.cell? ⟨p,3,none⟩=some (.slice (some ⟨gL,0,none⟩) n n):=HL.out.box.cell 3 rfl
     have cI:=HL.out.cellL i hi
     have hrI:=HL.out.rows.row (2*n+1+i) (Or.inr ⟨by omega,by omega⟩)
     obtain ⟨nx,Ax,kx,cx1,cx2,ix⟩:=hrI.cells j (by rw [zA4];exact hj)
     have fx1:=hrI.free (j*2)
     have fx2:=hrI.free (j*2+1)
     have hlw:=HL.out.rows.low (2*n+1+i) (Or.inr ⟨by omega,by omega⟩)
     obtain ⟨n8,A8,k8,q8,i8⟩:=HB8.out.box
     obtain ⟨c8a,f8a,c8b,f8b⟩:=q8.two
     obtain ⟨n6,A6,k6,q6,i6⟩:=HB6.out.box
     obtain ⟨c6a,f6a,c6b,f6b⟩:=q6.two
     obtain ⟨x,hx⟩:∃ x,c (2*n+1+i) j=x:=⟨_,rfl⟩
     rw [hx] at ix HCC
     have HIx:=zH ix
     have HI8:=zH i8
     have HI6:=zH i6
     clear hx ix i8 i6 hrI q8 q6
     obtain ⟨bI,hbI⟩:∃ b,bl (2*n+1+i)=b:=⟨_,rfl⟩
     rw [hbI] at cI cx1 cx2 fx1 fx2 hlw
     have HBI:=zH hbI
     clear hbI
     have l2:=zAA cF
     have l3:=zAA cI
     have l4:=zAA cx1
     have l5:=zAA c6a
     have l6:=zAA c8a
     simp only at l2 l3 l4 l5 l6
     have HM:=zH (fun W (hx:Ext wr W)=>zAV n8 n6 A8 A6 k8 k6 q d W (HI8.out.ext hx) (HI6.out.ext hx))
     have HS:=zH (fun W nn E e z (he:IsInt W nn E e z) (hx:Ext wr W)=>zA1 nx nn Ax E kx e x z W (HIx.out.ext hx) he)
     go_upto_region 20 with (fail)
     have HKeepT:=zH (fun (w':World) (hx:Ext wr w')=>(show w'.cell? ⟨p,3,none⟩=some (.slice (some ⟨gL,0,none⟩) n n)∧w'.cell? ⟨gL,i,none⟩=some (.slice (some ⟨bI,0,none⟩) i i)∧w'.cell? ⟨bI,j*2,none⟩=some (.bool nx)∧w'.cell? ⟨bI,j*2+1,none⟩=some (.slice Ax kx kx)∧w'.cell? ⟨b8,0,none⟩=some (.bool n8)∧w'.cell? ⟨b8,1,none⟩=some (.slice A8 k8 k8)∧w'.cell? ⟨b6,0,none⟩=some (.bool n6)∧w'.cell? ⟨b6,1,none⟩=some (.slice A6 k6 k6) from ⟨hx.cell cF,hx.cell cI,hx.cell cx1,hx.cell cx2,hx.cell c8a,hx.cell c8b,hx.cell c6a,hx.cell c6b⟩))
     refine rU HKeepT [23] [] 24 (fun hH hC=>?_)
     revert hC
     refine tk 0 24 hH ?_
     refine tk 1 24 hH ?_
     refine tk 2 24 hH ?_
     refine tk 3 24 hH ?_
     refine tk 4 24 hH ?_
     refine tk 5 24 hH ?_
     refine tk 6 24 hH ?_
     refine tk 7 24 hH ?_
     refine tk 8 24 hH ?_
     refine tk 9 24 hH ?_
     refine tk 10 24 hH ?_
     refine tk 11 24 hH ?_
     refine tk 12 24 hH ?_
     refine tk 13 24 hH ?_
     refine tk 14 24 hH ?_
     refine tk 15 24 hH ?_
     refine tk 16 24 hH ?_
     refine tk 17 24 hH ?_
     refine tk 18 24 hH ?_
     refine tk 19 24 hH ?_
     intro hC
     refine zAB hC (i:=20) Sg kr (fun K hK=>?_)
     go_simp
     (go_at_call 248;with_reducible refine Calls.mono (HM.out _ ?_) ?_;exact Ext.ua;rintro e w1 ⟨n1,A1,e1,rfl,hn1,hx⟩;have hxN:Ext wr w1:=Ext.trans Ext.ua hx;have hxA:=hxN;clear hxN;have HN1:=zH hn1;clear hn1;clear hx)
     try go_wp2_with fail
     have hHeldN:=HKeepT.out w1 Ext.ua
     refine hK.out _ _ (fun _ _=>hHeldN) (fun hCn=>?_)
     clear hK K hH hC
     have hH:=hHeldN
     have hC:=hCn
     clear hHeldN hCn
     try simp only [Act.put,sA,sB,sC]
     refine zAB hC (i:=21) Sg kr (fun K hK=>?_)
     go_simp
     (go_at_call 250;with_reducible refine Calls.mono (HS.out _ _ _ _ _ (HN1.out.ext Ext.ub) ?_) ?_;exact Ext.ua;rintro e w2 ⟨n2,A2,e2,rfl,hn2,hx⟩;have hxN:Ext wr w2:=Ext.trans Ext.ua hx;(try clear hxA);have hxA:=hxN;clear hxN;have HN2:=zH hn2;clear hn2;(first|(have hh:=zH (HN1.out.ext (Ext.trans Ext.ub hx));clear HN1;have HN1:=hh;clear hh));have tcx1:=hxA.cell cx1;have ucx1:=hxA.free fx1 (zAA cx1);have tcx2:=hxA.cell cx2;have ucx2:=hxA.free fx2 (zAA cx2);clear hx)
     try go_wp2_with fail
     have hHeldN:=HKeepT.out w2 Ext.ua
     refine hK.out _ _ (fun _ _=>hHeldN) (fun hCn=>?_)
     clear hK K hH hC
     have hH:=hHeldN
     have hC:=hCn
     clear hHeldN hCn
     try simp only [Act.put,sA,sB,sC]
     revert hC
     refine tk 22 24 hH ?_
     intro hC
     refine zAB hC (i:=23) Sg kr (fun K hK=>?_)
     go_simp
     refine hK.out _ _ (fun h=>by cases h) (fun hCn=>?_)
     clear hK K hC
     have hC:=hCn
     clear hCn
     try simp only [Act.put,sA,sB,sC]
     refine zAD kr ?_ _
     clear hC HKeepT
     try clear hH
     have HLn:Hid (IsLat (setInt w2 bI (j*2) n2 A2 e2) lo p n n gA gU gL cA cU bl (shortP n i j ct)):=by
      rw [HCC.out,← HBI.out]
      exact (HL.out.ext hxA).setZ (Or.inr ⟨by omega,by omega⟩) (by rw [zA4];exact hj) HN2.out
     have HXn:Hid (Ext w0 (setInt w2 bI (j*2) n2 A2 e2)):=zAO (HX.out.trans hxA) om
     have eV:(w2.setCell ⟨bI,j*2,none⟩ (.bool n2)).setCell ⟨bI,j*2+1,none⟩ (.slice A2 e2 e2)=setInt w2 bI (j*2) n2 A2 e2:=rfl
     rw [eV]
     clear eV HL HX HM HS HN1 HN2 hxA HIx HI8 HI6 cF cI cx1 cx2 c8a c8b c6a c6b
     go_wp2
     first
      | (go_end0;exact ⟨rfl,HLn.out,HXn.out⟩)
end Go.Proofs.YtdkgilioejdmeaaGreat
