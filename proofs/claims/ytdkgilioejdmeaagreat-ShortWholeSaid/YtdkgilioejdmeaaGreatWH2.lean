/- YtdkgilioejdmeaaGreatWH2: what is proved here stands in the theorems' own rows. -/
import Derived.Test.YtdkgilioejdmeaaGreatBA1
import Derived.Test.YtdkgilioejdmeaaGreatBA2
import Derived.Test.YtdkgilioejdmeaaGreatBA3
import Derived.Test.YtdkgilioejdmeaaGreatBA4
import Derived.Test.YtdkgilioejdmeaaGreatBA5
import Derived.Test.YtdkgilioejdmeaaGreatBA6
import Derived.Test.YtdkgilioejdmeaaGreatBA7
import Derived.Test.YtdkgilioejdmeaaGreatBA8
import Derived.Test.YtdkgilioejdmeaaGreatBA9
import Derived.Test.YtdkgilioejdmeaaGreatBA10
import Derived.Test.YtdkgilioejdmeaaGreatBA11
import Derived.Test.YtdkgilioejdmeaaGreatBA12
import Derived.Test.YtdkgilioejdmeaaGreatBA13
import Derived.Test.YtdkgilioejdmeaaGreatWH1
set_option linter.unusedVariables false
set_option linter.unusedSimpArgs false
namespace Go.Proofs.YtdkgilioejdmeaaGreat
open Go.ChangeShapes Go.WideShapes Go.ChangeAt Go.RowKit
set_option maxRecDepth 100000 in
theorem whole_contract (H:Type) (enc:TypeId × Value→H) (W:World) (base:Nat) (args:Array Value) (ds gs:List (DataW H)) (before:List MemPlace)
  (hval:∀ (j:Nat) t v,Tryz.f4.params[j]? = some t→args[j]? = some v→Value.okWide Tryz.prog W .any base t v)
  (hW:DataW.Whole enc Tryz.prog Tryz.f4.params.toList Rows.shortWholeSpec.vars false W args.toList ds gs before)
  (hsz:(DataW.weightsEach Tryz.prog (Tryz.f4.params.toList ++ (OpenSpec.ofChange Rows.shortWholeSpec).bare.plain.varTypes Tryz.prog) (ds ++ gs)).all (· ≤ reachBytes)=true) :
  Calls Tryz.prog 4 args W fun e W'=>∃ v,e = .returned v∧Rows.shortWholeSpec.post enc Tryz.prog Tryz.f4 false true false false W args v W':=by
 have hW':=hW
 obtain ⟨p,q,hA0,hV,rfl,hfz,hnd⟩:=hW
 have hA:DataW.TrodAll enc Tryz.prog W 0 (fun _=>true) true Tryz.f4.params.toList args.toList ds p:=hA0
 rw [Tryz.params4] at hA hval hsz
 obtain ⟨v0,vs0,d0,ds0,p0,q0,hargs,rfl,rfl,h0,r0⟩:=trodAll_cons hA
 obtain ⟨v1,vs1,d1,ds1,p1,q1,rfl,rfl,rfl,h1,r1⟩:=trodAll_cons r0
 obtain ⟨v2,vs2,d2,ds2,p2,q2,rfl,rfl,rfl,h2,r2⟩:=trodAll_cons r1
 obtain ⟨rfl,rfl,rfl⟩:=trodAll_nil r2
 obtain rfl:args=#[v0,v1,v2]:=by cases args;simp_all
 obtain ⟨rfl,rfl⟩:=trodVars_none hV
 obtain ⟨i1,rfl,rfl,rfl,w1⟩:=open_int Tryz.underlying2 (hval 1 2 v1 rfl rfl) h1
 obtain ⟨a0,l0,c0,rfl⟩:=okWide_slice Tryz.underlying22 (hval 0 22 v0 rfl rfl)
 obtain ⟨f0,hf0⟩:=h0
 obtain ⟨A0,C0,x0,hv0,_,hF0,hFit0⟩:=rows_open hf0 fun n hn=>by
  have:=List.all_eq_true.1 hsz n (DataW.weights_mem_each (j:=0) rfl rfl n hn)
  simpa using this
 injection hv0 with e0a e0b e0c
 subst e0a;subst e0b;subst e0c
 obtain ⟨a2,l2,c2,rfl⟩:=okWide_slice Tryz.underlying31 (hval 2 31 v2 rfl rfl)
 obtain ⟨f2,hf2⟩:=h2
 obtain ⟨A2,C2,x2,hv2,_,hF2,hFit2⟩:=row_open hf2 fun n hn=>by
  have:=List.all_eq_true.1 hsz n (DataW.weights_mem_each (j:=2) rfl rfl n hn)
  simpa using this
 injection hv2 with e2a e2b e2c
 subst e2a;subst e2b;subst e2c
 have k1:(-9223372036854775808:Int)≤i1∧i1≤9223372036854775807:=by
  simp only [Lit.wf,Bool.and_eq_true,decide_eq_true_eq] at w1;exact w1
 refine (shortWhole_any a0 a2 _ _ c0 c2 x0 x2 i1 W rfl rfl hF0 hF2 hFit0 hFit2 k1.1 k1.2).mono fun e W' ⟨he,hx⟩=>?_
 subst he
 simp only [List.append_nil] at hW'
 have hlt:∀ x∈p0 ++ p2,x.block < W.heap.size:=fun x hx=>hW'.lt x (by simpa using hx)
 have hl0:∀ x∈p0,x.block < W.heap.size:=fun x hx=>hlt x (by simp [hx])
 have hl2:∀ x∈p2,x.block < W.heap.size:=fun x hx=>hlt x (by simp [hx])
 exact ⟨_,rfl,post_of_ext (pa:=p0 ++ p2) (pv:=[]) hW'
  (fun _ _ _=>trodAll_cons_mk (shut_bool Tryz.underlying4 _) trodAll_mk0)
  (fun sp hsp=>by
   have ha:DataW.TrodAll enc Tryz.prog W' 0 sp true [22,2,31] [.slice a0 x0.length c0,.int .i64 i1,.slice a2 x2.length c2] [d0,.lit (.int .i64 i1),d2] (p0 ++ ([] ++ (p2 ++ ([])))) :=
    trodAll_cons_mk (WideElems.Trod_stays (P:=Tryz.prog) Tryz.laidOutB kr (of_decide_eq_true kr) (⟨f0,hf0⟩:DataW.Trod enc Tryz.prog W 0 (fun _=>true) true 22 (.slice a0 x0.length c0) d0 p0) (fun x hx'=>hx.same (hl0 x hx')) (fun x hx'=>hsp x (by simp [hx']))) (trodAll_cons_mk (shut_int Tryz.underlying2 w1) (trodAll_cons_mk (WideElems.Trod_stays (P:=Tryz.prog) Tryz.laidOutB kr (of_decide_eq_true kr) (⟨f2,hf2⟩:DataW.Trod enc Tryz.prog W 0 (fun _=>true) true 31 (.slice a2 x2.length c2) d2 p2) (fun x hx'=>hx.same (hl2 x hx')) (fun x hx'=>hsp x (by simp [hx']))) (trodAll_mk0)))
   (try simp only [List.append_nil,List.nil_append] at ha)
   exact ha)
  (fun _ _=>rfl) (by simp) hx (ok_one kr rfl (okWide_bool_mk Tryz.underlying4 _))⟩
abbrev wholeArgs:Array Value:=#[.slice none 0 0,.int .i64 0,.slice none 0 0]
theorem whole_witness (os:Os) {H:Type} (enc:TypeId × Value→H) :
  (OpenSpec.ofChange Rows.shortWholeSpec).preRow enc Tryz.prog Tryz.f4 Rows.shortWholeRow.domain false Rows.shortWholeRow.laid ((laidWorld os).forCall (fun _ _=>0) ⟨#[],wholeArgs,[]⟩).memory wholeArgs:=by
 have hw:(DataW.whole enc Tryz.prog ((laidWorld os).forCall (fun _ _=>0) ⟨#[],wholeArgs,[]⟩).memory Tryz.f4.params.toList Rows.shortWholeSpec.vars false wholeArgs.toList 8).map (fun x=>(x.1,x.2.1)) =
   some ([.nil,.lit (.int .i64 0),.nil],[]):=by kernel_rfl
 obtain ⟨⟨x1,x2,x3⟩,hx,hx1⟩:=Option.map_eq_some_iff.1 hw
 simp only [Prod.mk.injEq] at hx1
 obtain ⟨rfl,rfl⟩:=hx1
 exact OpenSpec.preRow_of_cond 8 hx kr (fun k hk=>by cases hk) kr (laidMetH_of_parts (laidMet_of_run' 8 kr kr) kr)
set_option maxRecDepth 100000 in
set_option maxHeartbeats 2000000 in
theorem whole_lifted (os:Os) (started:os.Started) (H:Type) (enc:TypeId × Value→H) (F:Stop.Interp) :
  ReturnsInHanded {} Tryz.checked os 4 .any ((OpenSpec.ofChange Rows.shortWholeSpec).preRow enc Tryz.prog Tryz.f4 Rows.shortWholeRow.domain false Rows.shortWholeRow.laid) (((OpenSpec.ofChange Rows.shortWholeSpec).at F).post enc Tryz.prog Tryz.f4 false true false false):=by
 refine returnsInHanded_of_row (C:=Tryz.checked) (s:=OpenSpec.ofChange Rows.shortWholeSpec) Tryz.own started kr Tryz.func4
  (witness_row_atRef (enc:=enc) (C:=Tryz.checked) false (laidWorld os) wholeArgs rfl kr kr kr (whole_witness os enc)) ?_
 intro W base args ds gs before hval hW _ _ hsz hL _ _
 exact whole_contract H enc W base args ds gs before hval hW hsz
set_option maxRecDepth 100000 in
theorem whole_said:Rows.ShortWholeSaid :=
 OpenClaim.holds_of_cond 4 Tryz.f4 rfl rfl rfl rfl rfl rfl rfl ⟨rfl,rfl,rfl,rfl,rfl⟩ rfl rfl rfl rfl rfl kr Tryz.func4 kr
  (of_decide_eq_true kr) (by unfold Func.isWrapper;first|(rw [if_pos (by decide +kernel)];kernel_rfl)|(rw [if_neg (by decide +kernel)];exact ⟨rfl,rfl⟩))
  (fun os started H enc _ F=>by rw [OpenClaim.pre_eq_preRow];exact whole_lifted os started H enc F)
end Go.Proofs.YtdkgilioejdmeaaGreat
