/- YtdkgilioejdmeaaGreatTJ6: what is proved here stands in the theorems' own rows. -/
import Derived.Test.YtdkgilioejdmeaaGreatBA1
import Derived.Test.YtdkgilioejdmeaaGreatBA2
import Derived.Test.YtdkgilioejdmeaaGreatBA3
import Derived.Test.YtdkgilioejdmeaaGreatBA4
import Derived.Test.YtdkgilioejdmeaaGreatBA5
import Derived.Test.YtdkgilioejdmeaaGreatBA6
import Derived.Test.YtdkgilioejdmeaaGreatBA7
import Derived.Test.YtdkgilioejdmeaaGreatBA8
import Derived.Test.YtdkgilioejdmeaaGreatBA9
import Derived.Test.YtdkgilioejdmeaaGreatBA10
import Derived.Test.YtdkgilioejdmeaaGreatBA11
import Derived.Test.YtdkgilioejdmeaaGreatBA12
import Derived.Test.YtdkgilioejdmeaaGreatBA13
import Derived.Test.YtdkgilioejdmeaaGreatTJ1
import Derived.Test.YtdkgilioejdmeaaGreatTJ2
import Derived.Test.YtdkgilioejdmeaaGreatTJ3
import Derived.Test.YtdkgilioejdmeaaGreatTJ4
import Derived.Test.YtdkgilioejdmeaaGreatTJ5
set_option linter.unusedVariables false
set_option linter.unusedSimpArgs false
namespace Go.Proofs.YtdkgilioejdmeaaGreat
open Go.ChangeShapes Go.WideShapes Go.ChangeAt Go.RowKit
set_option maxRecDepth 100000 in
theorem tjac_contract (H:Type) (enc:TypeId × Value→H) (W:World) (base:Nat) (args:Array Value) (ds gs:List (DataW H)) (before:List MemPlace)
  (hval:∀ (j:Nat) t v,Tryz.f5.params[j]? = some t→args[j]? = some v→Value.okWide Tryz.prog W .any base t v)
  (hW:DataW.Whole enc Tryz.prog Tryz.f5.params.toList Rows.thetaJacobiSpec.vars false W args.toList ds gs before)
  (hsz:(DataW.weightsEach Tryz.prog (Tryz.f5.params.toList ++ (OpenSpec.ofChange Rows.thetaJacobiSpec).bare.plain.varTypes Tryz.prog) (ds ++ gs)).all (· ≤ reachBytes)=true) :
  Calls Tryz.prog 5 args W fun e W'=>∃ v,e = .returned v∧Rows.thetaJacobiSpec.post enc Tryz.prog Tryz.f5 false true false false W args v W':=by
 have hW':=hW
 obtain ⟨p,q,hA0,hV,rfl,hfz,hnd⟩:=hW
 have hA:DataW.TrodAll enc Tryz.prog W 0 (fun _=>true) true Tryz.f5.params.toList args.toList ds p:=hA0
 rw [Tryz.params5] at hA hval hsz
 obtain ⟨v0,vs0,d0,ds0,p0,q0,hargs,rfl,rfl,h0,r0⟩:=trodAll_cons hA
 obtain ⟨rfl,rfl,rfl⟩:=trodAll_nil r0
 obtain rfl:args=#[v0]:=by cases args;simp_all
 obtain ⟨rfl,rfl⟩:=trodVars_none hV
 obtain ⟨i0,rfl,rfl,rfl,w0⟩:=open_int Tryz.underlying3 (hval 0 3 v0 rfl rfl) h0
 have k0:(-9223372036854775808:Int)≤i0∧i0≤9223372036854775807:=by
  simp only [Lit.wf,Bool.and_eq_true,decide_eq_true_eq] at w0;exact w0
 refine (yAL i0 W k0.1 k0.2).mono fun e W' ⟨he,hx⟩=>?_
 subst he
 simp only [List.append_nil] at hW'
 exact ⟨_,rfl,post_of_ext (pa:=[]) (pv:=[]) hW'
  (fun _ _ _=>trodAll_cons_mk (shut_bool Tryz.underlying4 _) trodAll_mk0)
  (fun sp hsp=>by
   have ha:DataW.TrodAll enc Tryz.prog W' 0 sp true [3] [.int .i64 i0] [.lit (.int .i64 i0)] ([] ++ ([])) :=
    trodAll_cons_mk (shut_int Tryz.underlying3 w0) (trodAll_mk0)
   (try simp only [List.append_nil,List.nil_append] at ha)
   exact ha)
  (fun _ _=>rfl) (by simp) hx (ok_one kr rfl (okWide_bool_mk Tryz.underlying4 _))⟩
abbrev tjacArgs:Array Value:=#[.int .i64 0]
theorem tjac_witness (os:Os) {H:Type} (enc:TypeId × Value→H) :
  (OpenSpec.ofChange Rows.thetaJacobiSpec).preRow enc Tryz.prog Tryz.f5 Rows.thetaJacobiRow.domain false Rows.thetaJacobiRow.laid ((laidWorld os).forCall (fun _ _=>0) ⟨#[],tjacArgs,[]⟩).memory tjacArgs:=by
 have hw:(DataW.whole enc Tryz.prog ((laidWorld os).forCall (fun _ _=>0) ⟨#[],tjacArgs,[]⟩).memory Tryz.f5.params.toList Rows.thetaJacobiSpec.vars false tjacArgs.toList 8).map (fun x=>(x.1,x.2.1)) =
   some ([.lit (.int .i64 0)],[]):=by kernel_rfl
 obtain ⟨⟨x1,x2,x3⟩,hx,hx1⟩:=Option.map_eq_some_iff.1 hw
 simp only [Prod.mk.injEq] at hx1
 obtain ⟨rfl,rfl⟩:=hx1
 exact OpenSpec.preRow_of_cond 8 hx kr (fun k hk=>by cases hk) kr (laidMetH_of_parts (laidMet_of_run' 8 kr kr) kr)
set_option maxRecDepth 100000 in
set_option maxHeartbeats 2000000 in
theorem tjac_lifted (os:Os) (started:os.Started) (H:Type) (enc:TypeId × Value→H) (F:Stop.Interp) :
  ReturnsInHanded {} Tryz.checked os 5 .any ((OpenSpec.ofChange Rows.thetaJacobiSpec).preRow enc Tryz.prog Tryz.f5 Rows.thetaJacobiRow.domain false Rows.thetaJacobiRow.laid) (((OpenSpec.ofChange Rows.thetaJacobiSpec).at F).post enc Tryz.prog Tryz.f5 false true false false):=by
 refine returnsInHanded_of_row (C:=Tryz.checked) (s:=OpenSpec.ofChange Rows.thetaJacobiSpec) Tryz.own started kr Tryz.func5
  (witness_row_atRef (enc:=enc) (C:=Tryz.checked) false (laidWorld os) tjacArgs rfl kr kr kr (tjac_witness os enc)) ?_
 intro W base args ds gs before hval hW _ _ hsz hL _ _
 exact tjac_contract H enc W base args ds gs before hval hW hsz
set_option maxRecDepth 100000 in
theorem tjac_said:Rows.ThetaJacobiSaid :=
 OpenClaim.holds_of_cond 5 Tryz.f5 rfl rfl rfl rfl rfl rfl rfl ⟨rfl,rfl,rfl,rfl,rfl⟩ rfl rfl rfl rfl rfl kr Tryz.func5 kr
  (of_decide_eq_true kr) (by unfold Func.isWrapper;first|(rw [if_pos (by decide +kernel)];kernel_rfl)|(rw [if_neg (by decide +kernel)];exact ⟨rfl,rfl⟩))
  (fun os started H enc _ F=>by rw [OpenClaim.pre_eq_preRow];exact tjac_lifted os started H enc F)
end Go.Proofs.YtdkgilioejdmeaaGreat
