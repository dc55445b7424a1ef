/- SaveBack: for every list of forms, every text, every place and every byte, the law tells true: what is written is read again, what is read is written as it was, and a text with one byte turned is refused. Conditions: none but what the given row lists (the package variables hold what the program's text lays in them). -/
import Derived.Test.YtiihnoelclnahaaGreatDoorSaveBack
import Derived.Test.YtiihnoelclnahaaGreatDoorSaveIn
import Derived.Test.YtiihnoelclnahaaGreatDoorSaveRow
import Derived.ChangeMaps5
namespace Go.Proofs.YtiihnoelclnahaaGreatDoor
open Go.ChangeShapes Go.WideShapes Go.ChangeAt Go.RowKit
set_option linter.unusedVariables false

set_option maxRecDepth 100000 in
theorem back_contract (H : Type) (enc : TypeId × Value → H) (W : World) (base : Nat) (args : Array Value) (ds gs : List (DataW H)) (before : List MemPlace)
    (hval : ∀ (j : Nat) t v, Tryz.f4.params[j]? = some t → args[j]? = some v → Value.okWide Tryz.prog W .any base t v)
    (hW : DataW.Whole enc Tryz.prog Tryz.f4.params.toList Rows.saveBackSpec.vars false W args.toList ds gs before)
    (hsz : (DataW.weightsEach Tryz.prog (Tryz.f4.params.toList ++ (OpenSpec.ofChange Rows.saveBackSpec).bare.plain.varTypes Tryz.prog) (ds ++ gs)).all (· ≤ reachBytes) = true)
    (hL : laidMetH Tryz.prog Rows.saveBackRow.laid W) :
    Calls Tryz.prog 4 args W fun e W' => ∃ v, e = .returned v ∧ Rows.saveBackSpec.post enc Tryz.prog Tryz.f4 false true false false W args v W' := by
  have hW' := hW
  obtain ⟨p, q, hA0, hV, rfl, hfz, hnd⟩ := hW
  have hA : DataW.TrodAll enc Tryz.prog W 0 (fun _ => true) true Tryz.f4.params.toList args.toList ds p := hA0
  rw [Tryz.params4] at hA hval hsz
  obtain ⟨v0, vs0, d0, ds0, p0, q0, hargs, rfl, rfl, h0, r0⟩ := trodAll_cons hA
  obtain ⟨v1, vs1, d1, ds1, p1, q1, rfl, rfl, rfl, h1, r1⟩ := trodAll_cons r0
  obtain ⟨v2, vs2, d2, ds2, p2, q2, rfl, rfl, rfl, h2, r2⟩ := trodAll_cons r1
  obtain ⟨v3, vs3, d3, ds3, p3, q3, rfl, rfl, rfl, h3, r3⟩ := trodAll_cons r2
  obtain ⟨rfl, rfl, rfl⟩ := trodAll_nil r3
  obtain rfl : args = #[v0, v1, v2, v3] := by cases args; simp_all
  obtain ⟨rfl, rfl⟩ := trodVars_none hV
  obtain ⟨s, rfl, rfl, rfl, hs⟩ := Go.ChangeMaps.open_string Tryz.underlying9 (hval 1 9 v1 rfl rfl) h1
  obtain ⟨i2, rfl, rfl, rfl, w2⟩ := open_int Tryz.underlying30 (hval 2 30 v2 rfl rfl) h2
  obtain ⟨i3, rfl, rfl, rfl, w3⟩ := open_int Tryz.underlying5 (hval 3 5 v3 rfl rfl) h3
  obtain ⟨a0, l0, c0, rfl⟩ := okWide_slice Tryz.underlying22 (hval 0 22 v0 rfl rfl)
  obtain ⟨fuel, hf⟩ := h0
  obtain ⟨A, c, ls, hv0, hF, hFit⟩ := forms_open hf fun n hn => by
    have := List.all_eq_true.1 hsz n (DataW.weights_mem_each (j := 0) rfl rfl n hn)
    simpa using this
  have hs2 : s.size ≤ reachBytes := by
    have := sized_string hsz (j := 1) rfl rfl
    rw [Array.length_toList] at this
    exact this
  injection hv0 with e1 e2 e3
  subst e1; subst e2; subst e3
  have k2 : (0 : Int) ≤ i2 ∧ i2 ≤ 65535 := by
    simp only [Lit.wf, Bool.and_eq_true, decide_eq_true_eq] at w2; exact w2
  have k3 : (0 : Int) ≤ i3 ∧ i3 ≤ 255 := by
    simp only [Lit.wf, Bool.and_eq_true, decide_eq_true_eq] at w3; exact w3
  obtain ⟨p2', rfl⟩ : ∃ n : Nat, i2 = n := ⟨i2.toNat, by omega⟩
  obtain ⟨p3', rfl⟩ : ∃ n : Nat, i3 = n := ⟨i3.toNat, by omega⟩
  refine (back_any a0 _ c0 ls s p2' p3' W rfl hF hFit (by rw [reach_eq] at hs2; omega) (by omega) (by omega) (vars_of_laid hL)).mono fun e W' ⟨he, hx⟩ => ?_
  subst he
  simp only [List.append_nil] at hW'
  have hlt : ∀ x ∈ p0, x.block < W.heap.size := fun x hx => hW'.lt x hx
  exact ⟨_, rfl, post_of_ext (pa := p0) (pv := []) hW'
    (fun _ _ _ => trodAll_cons_mk (shut_bool Tryz.underlying4 _) trodAll_mk0)
    (fun sp hsp => by
      have ha : DataW.TrodAll enc Tryz.prog W' 0 sp true [22, 9, 30, 5] [.slice a0 ls.length c0, .string s, .int .u16 p2', .int .u8 p3'] [d0, .lit (.string s.data.toList), .lit (.int .u16 p2'), .lit (.int .u8 p3')] (p0 ++ ([] ++ ([] ++ ([] ++ [])))) :=
        trodAll_cons_mk (WideElems.Trod_stays (P := Tryz.prog) Tryz.laidOutB (by kernel_rfl) (of_decide_eq_true (by kernel_rfl)) (⟨fuel, hf⟩ : DataW.Trod enc Tryz.prog W 0 (fun _ => true) true 22 (.slice a0 ls.length c0) d0 p0) (fun x hx' => hx.same (hlt x hx')) hsp)
          (trodAll_cons_mk (Go.ChangeMaps.shut_string Tryz.underlying9 hs) (trodAll_cons_mk (shut_int Tryz.underlying30 w2) (trodAll_cons_mk (shut_int Tryz.underlying5 w3) trodAll_mk0)))
      simp only [List.append_nil] at ha
      exact ha)
    (fun _ _ => rfl) (by simp) hx (ok_one (by kernel_rfl) rfl (okWide_bool_mk Tryz.underlying4 _))⟩

/-- The input of the witness. -/
abbrev backArgs : Array Value := #[.slice none 0 0, .string ⟨#[]⟩, .int .u16 0, .int .u8 0]
theorem back_witness (os : Os) {H : Type} (enc : TypeId × Value → H) :
    (OpenSpec.ofChange Rows.saveBackSpec).preRow enc Tryz.prog Tryz.f4 Rows.saveBackRow.domain false Rows.saveBackRow.laid ((laidWorld os).forCall (fun _ _ => 0) ⟨#[], backArgs, []⟩).memory backArgs := by
  have hw : (DataW.whole enc Tryz.prog ((laidWorld os).forCall (fun _ _ => 0) ⟨#[], backArgs, []⟩).memory Tryz.f4.params.toList Rows.saveBackSpec.vars false backArgs.toList 8).map (fun x => (x.1, x.2.1)) =
      some ([.nil, .lit (.string []), .lit (.int .u16 0), .lit (.int .u8 0)], []) := by kernel_rfl
  obtain ⟨⟨x1, x2, x3⟩, hx, hx1⟩ := Option.map_eq_some_iff.1 hw
  simp only [Prod.mk.injEq] at hx1
  obtain ⟨rfl, rfl⟩ := hx1
  exact OpenSpec.preRow_of_cond 8 hx (by kernel_rfl) (fun k hk => by cases hk) (by kernel_rfl) (laid_met os _)

set_option maxRecDepth 100000 in
set_option maxHeartbeats 2000000 in
theorem back_lifted (os : Os) (started : os.Started) (H : Type) (enc : TypeId × Value → H) (F : Stop.Interp) :
    ReturnsInHanded {} Tryz.checked os 4 .any ((OpenSpec.ofChange Rows.saveBackSpec).preRow enc Tryz.prog Tryz.f4 Rows.saveBackRow.domain false Rows.saveBackRow.laid) (((OpenSpec.ofChange Rows.saveBackSpec).at F).post enc Tryz.prog Tryz.f4 false true false false) := by
  refine returnsInHanded_of_row (C := Tryz.checked) (s := OpenSpec.ofChange Rows.saveBackSpec) Tryz.own started (by kernel_rfl) Tryz.func4
    (witness_row_atRef (enc := enc) (C := Tryz.checked) false (laidWorld os) backArgs rfl (by kernel_rfl) (by kernel_rfl) (by kernel_rfl) (back_witness os enc)) ?_
  intro W base args ds gs before hval hW _ _ hsz hL _ _
  exact back_contract H enc W base args ds gs before hval hW hsz hL

set_option maxRecDepth 100000 in
theorem back_said : Rows.SaveBackSaid :=
  OpenClaim.holds_of_cond 4 Tryz.f4 rfl rfl rfl rfl rfl rfl rfl ⟨rfl, rfl, rfl, rfl, rfl⟩ rfl rfl rfl rfl rfl (by kernel_rfl) Tryz.func4 (by kernel_rfl)
    (of_decide_eq_true (by kernel_rfl)) (by unfold Func.isWrapper; first | (rw [if_pos (by decide +kernel)]; kernel_rfl) | (rw [if_neg (by decide +kernel)]; exact ⟨rfl, rfl⟩))
    (fun os started H enc _ F => by rw [OpenClaim.pre_eq_preRow]; exact back_lifted os started H enc F)

/-- No parameter wants a stand-in; the program's own looks are on. -/
theorem back_plain (f : FuncId) (fn : Func) (hf : Tryz.pinned.checked.prog.funcNamed "parquet/parquetlaw28.SaveBack" = some f) (hfn : Tryz.pinned.checked.prog.funcs[f]? = some fn) :
    true = Tryz.pinned.checked.prog.looks [] ∧ ∀ (j : Nat) t, fn.params[j]? = some t → Tryz.pinned.checked.prog.wantsStandIn t = false := by
  obtain rfl : f = 4 := Option.some.inj ((show Tryz.prog.funcNamed "parquet/parquetlaw28.SaveBack" = some 4 by kernel_rfl).symm.trans hf) |>.symm
  obtain rfl : fn = Tryz.f4 := (Option.some.inj (Tryz.func4.symm.trans hfn)).symm
  refine ⟨by kernel_rfl, fun j t ht => ?_⟩
  rw [Tryz.params4] at ht
  have hm := Array.mem_of_getElem? ht
  simp only [List.mem_toArray, List.mem_cons, List.not_mem_nil, or_false] at hm
  rcases hm with rfl | rfl | rfl | rfl
  · exact (show Tryz.prog.wantsStandIn 22 = false by kernel_rfl)
  · exact (show Tryz.prog.wantsStandIn 9 = false by kernel_rfl)
  · exact (show Tryz.prog.wantsStandIn 30 = false by kernel_rfl)
  · exact (show Tryz.prog.wantsStandIn 5 = false by kernel_rfl)

/-- THE CARD. -/
theorem back_card : Rows.SaveBackCardSaid :=
  Claim7.holds_tied_plain_at .later [] _ _ _ _ back_said (fun _ h => by cases h) (by kernel_rfl) (fun _ h => by cases h) saveBack_row_tie rfl ⟨rfl, rfl⟩ (by kernel_rfl) rfl back_plain (by kernel_rfl)

end Go.Proofs.YtiihnoelclnahaaGreatDoor
