/- YtdkgilioejdmeaaGreatTQ2: what is proved here stands in the theorems' own rows. -/
import Derived.Test.YtdkgilioejdmeaaGreatBA1
import Derived.Test.YtdkgilioejdmeaaGreatBA2
import Derived.Test.YtdkgilioejdmeaaGreatBA3
import Derived.Test.YtdkgilioejdmeaaGreatBA4
import Derived.Test.YtdkgilioejdmeaaGreatBA5
import Derived.Test.YtdkgilioejdmeaaGreatBA6
import Derived.Test.YtdkgilioejdmeaaGreatBA7
import Derived.Test.YtdkgilioejdmeaaGreatBA8
import Derived.Test.YtdkgilioejdmeaaGreatBA9
import Derived.Test.YtdkgilioejdmeaaGreatBA10
import Derived.Test.YtdkgilioejdmeaaGreatBA11
import Derived.Test.YtdkgilioejdmeaaGreatBA12
import Derived.Test.YtdkgilioejdmeaaGreatBA13
import Derived.Test.YtdkgilioejdmeaaGreatTQ1
set_option linter.unusedVariables false
set_option linter.unusedSimpArgs false
namespace Go.Proofs.YtdkgilioejdmeaaGreat
open Go.ChangeShapes Go.WideShapes Go.ChangeAt Go.RowKit
set_option maxRecDepth 100000 in
theorem tsqu_contract (H:Type) (enc:TypeId × Value→H) (W:World) (base:Nat) (args:Array Value) (ds gs:List (DataW H)) (before:List MemPlace)
  (hval:∀ (j:Nat) t v,Tryz.f7.params[j]? = some t→args[j]? = some v→Value.okWide Tryz.prog W .any base t v)
  (hW:DataW.Whole enc Tryz.prog Tryz.f7.params.toList Rows.thetaSquaresSpec.vars false W args.toList ds gs before)
  (hsz:(DataW.weightsEach Tryz.prog (Tryz.f7.params.toList ++ (OpenSpec.ofChange Rows.thetaSquaresSpec).bare.plain.varTypes Tryz.prog) (ds ++ gs)).all (· ≤ reachBytes)=true) :
  Calls Tryz.prog 7 args W fun e W'=>∃ v,e = .returned v∧Rows.thetaSquaresSpec.post enc Tryz.prog Tryz.f7 false true false false W args v W':=by
 have hW':=hW
 obtain ⟨p,q,hA0,hV,rfl,hfz,hnd⟩:=hW
 have hA:DataW.TrodAll enc Tryz.prog W 0 (fun _=>true) true Tryz.f7.params.toList args.toList ds p:=hA0
 rw [Tryz.params7] at hA hval hsz
 obtain ⟨v0,vs0,d0,ds0,p0,q0,hargs,rfl,rfl,h0,r0⟩:=trodAll_cons hA
 obtain ⟨v1,vs1,d1,ds1,p1,q1,rfl,rfl,rfl,h1,r1⟩:=trodAll_cons r0
 obtain ⟨rfl,rfl,rfl⟩:=trodAll_nil r1
 obtain rfl:args=#[v0,v1]:=by cases args;simp_all
 obtain ⟨rfl,rfl⟩:=trodVars_none hV
 obtain ⟨i0,rfl,rfl,rfl,w0⟩:=open_int Tryz.underlying3 (hval 0 3 v0 rfl rfl) h0
 obtain ⟨i1,rfl,rfl,rfl,w1⟩:=open_int Tryz.underlying3 (hval 1 3 v1 rfl rfl) h1
 have k0:(-9223372036854775808:Int)≤i0∧i0≤9223372036854775807:=by
  simp only [Lit.wf,Bool.and_eq_true,decide_eq_true_eq] at w0;exact w0
 have k1:(-9223372036854775808:Int)≤i1∧i1≤9223372036854775807:=by
  simp only [Lit.wf,Bool.and_eq_true,decide_eq_true_eq] at w1;exact w1
 refine (yAI i0 i1 W k0.1 k0.2 k1.1 k1.2).mono fun e W' ⟨he,hx⟩=>?_
 subst he
 simp only [List.append_nil] at hW'
 exact ⟨_,rfl,post_of_ext (pa:=[]) (pv:=[]) hW'
  (fun _ _ _=>trodAll_cons_mk (shut_bool Tryz.underlying4 _) trodAll_mk0)
  (fun sp hsp=>by
   have ha:DataW.TrodAll enc Tryz.prog W' 0 sp true [3,3] [.int .i64 i0,.int .i64 i1] [.lit (.int .i64 i0),.lit (.int .i64 i1)] ([] ++ ([] ++ ([]))) :=
    trodAll_cons_mk (shut_int Tryz.underlying3 w0) (trodAll_cons_mk (shut_int Tryz.underlying3 w1) (trodAll_mk0))
   (try simp only [List.append_nil,List.nil_append] at ha)
   exact ha)
  (fun _ _=>rfl) (by simp) hx (ok_one kr rfl (okWide_bool_mk Tryz.underlying4 _))⟩
abbrev tsquArgs:Array Value:=#[.int .i64 0,.int .i64 0]
theorem tsqu_witness (os:Os) {H:Type} (enc:TypeId × Value→H) :
  (OpenSpec.ofChange Rows.thetaSquaresSpec).preRow enc Tryz.prog Tryz.f7 Rows.thetaSquaresRow.domain false Rows.thetaSquaresRow.laid ((laidWorld os).forCall (fun _ _=>0) ⟨#[],tsquArgs,[]⟩).memory tsquArgs:=by
 have hw:(DataW.whole enc Tryz.prog ((laidWorld os).forCall (fun _ _=>0) ⟨#[],tsquArgs,[]⟩).memory Tryz.f7.params.toList Rows.thetaSquaresSpec.vars false tsquArgs.toList 8).map (fun x=>(x.1,x.2.1)) =
   some ([.lit (.int .i64 0),.lit (.int .i64 0)],[]):=by kernel_rfl
 obtain ⟨⟨x1,x2,x3⟩,hx,hx1⟩:=Option.map_eq_some_iff.1 hw
 simp only [Prod.mk.injEq] at hx1
 obtain ⟨rfl,rfl⟩:=hx1
 exact OpenSpec.preRow_of_cond 8 hx kr (fun k hk=>by cases hk) kr (laidMetH_of_parts (laidMet_of_run' 8 kr kr) kr)
set_option maxRecDepth 100000 in
set_option maxHeartbeats 2000000 in
theorem tsqu_lifted (os:Os) (started:os.Started) (H:Type) (enc:TypeId × Value→H) (F:Stop.Interp) :
  ReturnsInHanded {} Tryz.checked os 7 .any ((OpenSpec.ofChange Rows.thetaSquaresSpec).preRow enc Tryz.prog Tryz.f7 Rows.thetaSquaresRow.domain false Rows.thetaSquaresRow.laid) (((OpenSpec.ofChange Rows.thetaSquaresSpec).at F).post enc Tryz.prog Tryz.f7 false true false false):=by
 refine returnsInHanded_of_row (C:=Tryz.checked) (s:=OpenSpec.ofChange Rows.thetaSquaresSpec) Tryz.own started kr Tryz.func7
  (witness_row_atRef (enc:=enc) (C:=Tryz.checked) false (laidWorld os) tsquArgs rfl kr kr kr (tsqu_witness os enc)) ?_
 intro W base args ds gs before hval hW _ _ hsz hL _ _
 exact tsqu_contract H enc W base args ds gs before hval hW hsz
set_option maxRecDepth 100000 in
theorem tsqu_said:Rows.ThetaSquaresSaid :=
 OpenClaim.holds_of_cond 7 Tryz.f7 rfl rfl rfl rfl rfl rfl rfl ⟨rfl,rfl,rfl,rfl,rfl⟩ rfl rfl rfl rfl rfl kr Tryz.func7 kr
  (of_decide_eq_true kr) (by unfold Func.isWrapper;first|(rw [if_pos (by decide +kernel)];kernel_rfl)|(rw [if_neg (by decide +kernel)];exact ⟨rfl,rfl⟩))
  (fun os started H enc _ F=>by rw [OpenClaim.pre_eq_preRow];exact tsqu_lifted os started H enc F)
end Go.Proofs.YtdkgilioejdmeaaGreat
