/- parquetlaw28.SaveKnown: the examples. -/
import Derived.Test.YtiihnoelclnahaaGreatDoorSaveWakes
import Derived.Test.YtiihnoelclnahaaGreatDoorSaveFacts
import Derived.Deep.RegionWith
import Derived.Deep.RegionHeld3
import Derived.Deep.OwnRows
namespace Go.Proofs.YtiihnoelclnahaaGreatDoor
open Go.RowKit
set_option linter.unusedVariables false
set_option linter.unusedSimpArgs false

/-- errors.As where the fault lies in N and the variable in t. -/
theorem as_fault (N t : Nat) (code : Int) (a : Nat) (W : World) (hv : Vars W) (hF : IsFault W N code a) (ht : W.cell? ⟨t, 0, none⟩ = some (.pointer none)) (hf : W.frozen? ⟨t, 0, none⟩ = false) (hne : N ≠ t) :
    Calls Tryz.prog 13 #[.iface 43 (.pointer (some ⟨N, 0, none⟩)), .iface 45 (.pointer (some ⟨t, 0, none⟩))] W fun ev w' =>
      ev = .returned (.bool true) ∧ w'.cell? ⟨t, 0, none⟩ = some (.pointer (some ⟨N, 0, none⟩)) ∧ w'.cell? ⟨N, 0, none⟩ = some (.int .i64 code) ∧ w'.cell? ⟨N, 1, none⟩ = some (.int .i64 (a : Nat)) ∧ w'.cell? ⟨N, 2, none⟩ = some (.string ⟨#[]⟩) ∧ ∀ w0 : World, Ext w0 W → w0.heap.size ≤ t → Ext w0 w' := by
  refine (as_hit ⟨N, 0, none⟩ ⟨t, 0, none⟩ _ W hv.ety ht hf).mono ?_
  rintro e w5 ⟨rfl, hw5⟩
  obtain ⟨W5, hW5⟩ : ∃ W5, (((W.alloc (.cells #[.pointer (some ⟨t, 0, none⟩)] 45)).alloc (.cells #[.pointer (some ⟨7, 45, none⟩), .pointer (some ⟨W.heap.size, 0, none⟩), .int .u64 150] 64)).alloc (.cells #[.pointer (some ⟨7, 45, none⟩), .pointer (some ⟨W.heap.size, 0, none⟩), .int .u64 150] 64)).alloc (.cells #[.pointer (some ⟨N, 0, none⟩)] 43) = W5 := ⟨_, rfl⟩
  have hx5 : Ext W W5 := by rw [← hW5]; exact ((((Ext.refl W).alloc _).alloc _).alloc _).alloc _
  rw [hW5] at hw5
  have hNs : N < W.heap.size := lt_of_row hF
  have c1 : w5.cell? ⟨t, 0, none⟩ = some (.pointer (some ⟨N, 0, none⟩)) := by rw [hw5]; exact setc (hx5.cell ht)
  have hF5 : w5.heap[N]? = some (.cells #[.int .i64 code, .int .i64 (a : Nat), .string ⟨#[]⟩] 47 (0, 0)) := by
    rw [hw5, Below.heap_setCell _ _ _ _ (by show N ≠ t; exact hne), Below.block hx5 N hNs]; exact hF
  refine ⟨rfl, c1, by rw [cell_of_row _ _ _ _ _ _ hF5]; rfl, by rw [cell_of_row _ _ _ _ _ _ hF5]; rfl, by rw [cell_of_row _ _ _ _ _ _ hF5]; rfl, fun w0 h0 h1 => ?_⟩
  rw [hw5]
  exact (h0.trans hx5).setCell (p := ⟨t, 0, none⟩) h1 _

theorem infoRowsK : (Tryz.prog.info? 39).map (fun i => (i.zero, i.size, i.bytes)) = some (some (.slice none 0 0), 1, 24) := by kernel_rfl
theorem made65 (W : World) : (Instr.makeSlice 22 (.int .i64 65) (.int .i64 65)).run Tryz.prog W = .ok (.slice (some ⟨W.heap.size, 0, none⟩) 65 65) (W.alloc (.cells (Array.replicate 65 (.slice none 0 0)) 39)) := by
  have h := run_make_row' (P := Tryz.prog) 22 39 (.slice none 0 0) 24 Tryz.underlying22 infoRowsK rfl .i64 .i64 65 (by decide) (by decide) W
  rw [show madeCells #[Value.slice none 0 0] 65 = Array.replicate 65 (.slice none 0 0) by unfold madeCells; rw [← Array.toList_inj]; simp [Array.toList_map, List.range_succ, List.range_zero]] at h
  exact h
/-- As wpAnyH_take, with the slot that is written by its number. -/
theorem wpAnyH_takeD {P : Program} {md : Region.Mode} {ops : Array Oper} {Q : Exit → Act → World → Prop} {S : World → Prop} {i : Nat} (d : Nat) {oi : Oper} {v : Value} {fuel : Nat} {listed : Array Bool} {a : Act} {w : World} (hi : ops[i]? = some oi) (hd : oi.dst = some d)
    (hs : Region.noSelect ops = true) (hf : Region.free md ops listed i = true) (hr : (Region.ready md ops listed).contains i = true)
    (hQ : ∀ c a w, Q (.panic c) (a.put oi.dst v) w → Q (.panic c) a w) (hy : YieldsIf P ops S oi v a) (hS : S w)
    (h : wpAnyH P md ops Q S fuel (listed.setIfInBounds i true) (a.put (some d) v) w) : wpAnyH P md ops Q S (fuel + 1) listed a w :=
  wpAnyH_take hi hs hf hr hQ hy hS (by rw [hd]; exact h)
theorem wpAnyH_weaken {P : Program} {md : Region.Mode} {ops : Array Oper} {Q : Exit → Act → World → Prop} {S S' : World → Prop} (h : ∀ w, S w → S' w) :
    ∀ (fuel : Nat) (listed : Array Bool) (a : Act) (w : World), wpAnyH P md ops Q S fuel listed a w → wpAnyH P md ops Q S' fuel listed a w
  | 0, _, _, _, H => H
  | fuel + 1, _, _, _, H => ⟨H.1, fun i hi => wpOp_mono (fun a' w' h' => ⟨h _ h'.1, wpAnyH_weaken h fuel _ a' w' h'.2⟩) (H.2 i hi)⟩
def ex2 : List (List (List Int)) := [[[1, 2], [2, 1]]]
theorem ex2_code : codeW ex2 = 6 := by decide +kernel
theorem ex2_fit : FitForms ex2 := by
  refine ⟨by decide, ?_⟩
  intro rows hr
  simp [ex2] at hr
  subst hr
  refine ⟨by decide, ?_⟩
  intro l hl
  simp at hl
  rcases hl with rfl | rfl <;> refine ⟨by decide, ?_⟩ <;> intro z hz <;> simp at hz <;> omega
theorem ex2_mem (w : World) : IsForms ((((w.alloc (.cells #[.int .i64 1, .int .i64 2] 2)).alloc (.cells #[.int .i64 2, .int .i64 1] 2)).alloc (.cells #[.slice (some ⟨w.heap.size, 0, none⟩) 2 2, .slice (some ⟨w.heap.size + 1, 0, none⟩) 2 2] 38)).alloc (.cells #[.slice (some ⟨w.heap.size + 1 + 1, 0, none⟩) 2 2] 39)) (some ⟨w.heap.size + 1 + 1 + 1, 0, none⟩) ex2 := by
  intro _
  refine ⟨w.heap.size + 1 + 1 + 1, 0, rfl, by simp, fun i rows hi => ?_⟩
  match i, hi with
  | 0, hi =>
    simp [ex2] at hi
    subst hi
    refine ⟨some ⟨w.heap.size + 1 + 1, 0, none⟩, 2, by simp [go_sem], by simp, fun _ => ⟨w.heap.size + 1 + 1, 0, rfl, by simp, fun j l hj => ?_⟩⟩
    match j, hj with
    | 0, hj =>
      simp at hj; subst hj
      refine ⟨some ⟨w.heap.size, 0, none⟩, 2, by simp [go_sem], by simp, fun _ => ⟨w.heap.size, 0, rfl, by simp; try omega, fun k z hk => ?_⟩⟩
      match k, hk with
      | 0, hk => simp at hk; subst hk; simp [go_sem]
      | 1, hk => simp at hk; subst hk; simp [go_sem]
    | 1, hj =>
      simp at hj; subst hj
      refine ⟨some ⟨w.heap.size + 1, 0, none⟩, 2, by simp [go_sem], by simp, fun _ => ⟨w.heap.size + 1, 0, rfl, by simp, fun k z hk => ?_⟩⟩
      match k, hk with
      | 0, hk => simp at hk; subst hk; simp [go_sem]
      | 1, hk => simp at hk; subst hk; simp [go_sem]

def ex65 : List (List (List Int)) := List.replicate 65 []
theorem ex65_code : codeW ex65 = 9 := by decide +kernel
theorem ex65_fit : FitForms ex65 := by
  refine ⟨by decide, ?_⟩
  intro rows hr
  obtain rfl := List.eq_of_mem_replicate hr
  exact ⟨by decide, fun l hl => by cases hl⟩
theorem ex65_mem (w : World) : IsForms (w.alloc (.cells (Array.replicate 65 (.slice none 0 0)) 39)) (some ⟨w.heap.size, 0, none⟩) ex65 := by
  intro _
  refine ⟨w.heap.size, 0, rfl, by simp, fun i rows hi => ?_⟩
  obtain ⟨hl, he⟩ := List.getElem?_eq_some_iff.1 hi
  have hl2 : i < 65 := hl
  obtain rfl : rows = [] := by rw [← he]; exact List.eq_of_mem_replicate (List.getElem_mem hl)
  refine ⟨none, 0, ?_, Nat.le_refl _, fun h => by cases h⟩
  rw [cell_of_row _ _ _ _ _ _ (heap_new w _)]
  simp [hl2]

set_option maxHeartbeats 20000000 in
set_option maxRecDepth 100000 in
theorem known_any (w : World) (hv : Vars w) :
    Calls Tryz.prog 5 #[] w fun e w' => e = .returned (.bool true) ∧ Ext w w' := by
  have HV := Lib.hid hv
  clear hv
  obtain ⟨sx, hsx⟩ : ∃ sx : ByteArray, (⟨(textW []).toArray⟩ : ByteArray) = sx := ⟨_, rfl⟩
  have hsl : sx.data.toList = textOf [] := by rw [← hsx]; unfold textW; rw [nil_code]; simp
  have hsz : sx.size = 31 := by rw [← nil_len, ← hsl, Array.length_toList]; rfl
  have H10 : Hid (((sx.extract 0 10).toList == [112, 97, 114, 113, 117, 101, 116, 32, 48, 10]) = true) := by
    unfold Hid
    rw [beq_iff_eq, ByteArray.toList_eq, Lib.extract_data, hsl, textOf_tail, nil_body]
    unfold tailT sumW
    simp
  have HW0 := Lib.hid (fun W (hv : Vars W) => Write_any none 0 0 [] W rfl (fun h => by simp at h) nil_fit hv)
  rw [hsx, nil_code] at HW0
  obtain ⟨s2, hs2⟩ : ∃ s2 : ByteArray, (⟨(textW ex2).toArray⟩ : ByteArray) = s2 := ⟨_, rfl⟩
  have HW1 := Lib.hid (fun A W (h : IsForms W A ex2) (hv : Vars W) => Write_any A 1 1 ex2 W rfl h ex2_fit hv)
  rw [hs2, ex2_code] at HW1
  obtain ⟨s3, hs3⟩ : ∃ s3 : ByteArray, (⟨(textW ex65).toArray⟩ : ByteArray) = s3 := ⟨_, rfl⟩
  have HW2 := Lib.hid (fun A W (h : IsForms W A ex65) (hv : Vars W) => Write_any A 65 65 ex65 W (by decide) h ex65_fit hv)
  rw [hs3, ex65_code] at HW2
  have HSm : Hid (∀ W, Calls Tryz.prog 8 #[.string ⟨#[]⟩] W fun e w' => e = .returned (.int .u64 14695981039346656037) ∧ W = w') := fun W => Sum_any ⟨#[]⟩ W (by decide)
  have hmk := made65
  have HSL := Lib.hid hsl
  clear hsx hsl hs2 hs3
  go_enter Tryz.func5, Tryz.ntmps5
  go_wp2_with fail
  refine (HW0.out _ HV.out).mono ?_
  rintro e w1 ⟨rfl, hx⟩
  have HX1 := Lib.hid hx
  clear hx HW0
  go_wp2_with fail
  obtain ⟨W1, hW1⟩ : ∃ W1, (((w1.alloc (.cells #[.int .i64 1, .int .i64 2] 2)).alloc (.cells #[.int .i64 2, .int .i64 1] 2)).alloc (.cells #[.slice (some ⟨w1.heap.size, 0, none⟩) 2 2, .slice (some ⟨w1.heap.size + 1, 0, none⟩) 2 2] 38)).alloc (.cells #[.slice (some ⟨w1.heap.size + 1 + 1, 0, none⟩) 2 2] 39) = W1 := ⟨_, rfl⟩
  have hM1 := ex2_mem w1
  have hx1 : Ext w W1 := by rw [← hW1]; exact (((HX1.out.alloc _).alloc _).alloc _).alloc _
  rw [hW1] at hM1 ⊢
  clear hW1
  refine (HW1.out _ _ hM1 (HV.out.ext hx1)).mono ?_
  rintro e w2 ⟨rfl, hx⟩
  have HX2 := Lib.hid (hx1.trans hx)
  clear hx hx1 hM1 HX1 HW1
  go_wp2_with fail
  have hM2 := ex65_mem w2
  obtain ⟨W2, hW2⟩ : ∃ W2, w2.alloc (.cells (Array.replicate 65 (.slice none 0 0)) 39) = W2 := ⟨_, rfl⟩
  have hx2 : Ext w W2 := by rw [← hW2]; exact HX2.out.alloc _
  rw [hW2] at hM2 ⊢
  clear hW2
  refine (HW2.out _ _ hM2 (HV.out.ext hx2)).mono ?_
  rintro e w3 ⟨rfl, hx⟩
  have HX3 := Lib.hid (hx2.trans hx)
  clear hx hx2 hM2 HX2 HW2
  have hb10 := H10.out
  go_wp2_with fail
  refine (HSm.out _).mono ?_
  rintro e w4 ⟨rfl, rfl⟩
  clear HSm
  have hKC := known_cells w3 sx HSL.out
  have hKX := known_ext w3 sx
  go_wp2_with fail
  obtain ⟨WT, hWT⟩ : ∃ WT, knownW w3 sx = WT := ⟨_, rfl⟩
  rw [hWT] at hKC hKX
  unfold knownW at hWT
  rw [hWT]
  have HXT := Lib.hid (HX3.out.trans hKX)
  have HKC := Lib.hid hKC
  clear hWT hKC hKX HX3
  go_loopg [11] 14 (fun kk iv wr => ∃ i : Nat, kk + i = 14 ∧ iv = .int .i64 i ∧ Hid (Ext WT wr))
  case atStart => exact ⟨0, by omega, rfl, Ext.refl _⟩
  case round =>
    obtain ⟨i, hki, rfl, HX⟩ := hrel
    by_cases hi : i < 14
    · obtain ⟨t, c, p, q1, q2, q3, hr, ht⟩ := HKC.out i hi
      have k1 := HX.out.cell q1
      have HR := Lib.hid (Read_any t wr (by omega) (HV.out.ext (HXT.out.trans HX.out)))
      rw [hr] at HR
      have Q2 := Lib.hid q2
      have Q3 := Lib.hid q3
      clear q1 q2 q3 hr ht
      go_wp2_with fail
      refine HR.out.mono ?_
      rintro e w5 ⟨hx, hr⟩
      rcases hr with ⟨ls, A, c5, he, _⟩ | ⟨code, a, N, he, rfl, hN, hF⟩
      case inl => cases he
      injection he with he
      injection he with he1 he2
      subst he1
      subst he2
      have HX5 := Lib.hid (HX.out.trans hx)
      obtain ⟨W6, hWW6⟩ : ∃ W6 : World, w5.alloc (.cells #[.pointer none] 43) = W6 := ⟨_, rfl⟩
      have hXW6 : Ext w5 W6 := by rw [← hWW6]; exact ((Ext.refl w5).alloc _)
      have hsW6 : w5.heap.size + 1 ≤ W6.heap.size := by rw [← hWW6]; simp only [World.size_alloc]; omega
      have cx0 : W6.cell? ⟨w5.heap.size, 0, none⟩ = some (.pointer none) := by rw [← hWW6]; simp [go_sem]
      have fx0 : W6.frozen? ⟨w5.heap.size, 0, none⟩ = false := by rw [← hWW6]; simp [go_sem]
      have HWW6 := Lib.hid hWW6
      clear hWW6
      have HX6 := Lib.hid (HX5.out.trans hXW6)
      have hNs : N < w5.heap.size := lt_of_row hF
      have HAs := Lib.hid (as_fault N w5.heap.size c p W6.drew (HV.out.ext (HXT.out.trans HX6.out.drew)) (by unfold IsFault; show W6.heap[N]? = _; rw [Below.block hXW6 N hNs]; exact hF) ((Ext.refl W6).drew.cell cx0) fx0 (by omega))
      have hT5 : WT.heap.size ≤ w5.heap.size := HX5.out.size
      clear hx hF HR hXW6 hN hNs k1 HX HX5
      go_upto_region 13 with fail
      rw [HWW6.out]
      refine wp_region_held_drew (S := fun _ => True) (by kernel_rfl) trivial (fun hHeld => ?_)
      refine wpAnyH_takeD (i := 0) (v := ?_) 75 rfl rfl (by kernel_rfl) (by kernel_rfl) (by kernel_rfl) (fun _ _ _ h => h) (Or.inl ⟨by kernel_rfl, ?_⟩) hHeld ?_
      rotate_left
      · intro w' hSw
        (try dsimp only at hSw)
        go_simp
        try with_reducible rfl
      try simp only [Act.put, List.setIfInBounds_toArray, List.set_cons_zero, List.set_cons_succ]
      refine wpAnyH_takeD (i := 1) (v := ?_) 76 rfl rfl (by kernel_rfl) (by kernel_rfl) (by kernel_rfl) (fun _ _ _ h => h) (Or.inl ⟨by kernel_rfl, ?_⟩) hHeld ?_
      rotate_left
      · intro w' hSw
        (try dsimp only at hSw)
        go_simp
        try with_reducible rfl
      try simp only [Act.put, List.setIfInBounds_toArray, List.set_cons_zero, List.set_cons_succ]
      refine wpAnyH_ready (rs := [2]) (by kernel_rfl) (by simp) ?_
      refine AllReadyH.cons rfl (fun K hK => ?_) AllReadyH.nil
      go_simp
      refine HAs.out.mono ?_
      rintro e w7 ⟨rfl, c1, c2, c3, c4, hb⟩
      have HX7 := Lib.hid (hb WT HX6.out.drew hT5)
      have k2 := HX7.out.cell Q2.out
      have k3 := HX7.out.cell Q3.out
      refine hK.out _ _ trivial (fun _ => ?_)
      clear hK K hb hHeld HAs
      try simp only [Act.put, List.setIfInBounds_toArray, List.set_cons_zero, List.set_cons_succ]
      refine wpAnyH_weaken (S := fun w' => w'.cell? ⟨w5.heap.size, 0, none⟩ = some (.pointer (some ⟨N, 0, none⟩)) ∧ w'.cell? ⟨N, 0, none⟩ = some (.int .i64 c) ∧ w'.cell? ⟨N, 1, none⟩ = some (.int .i64 (p : Nat)) ∧ w'.cell? ⟨N, 2, none⟩ = some (.string ⟨#[]⟩) ∧ w'.cell? ⟨w3.heap.size + 1, i, none⟩ = some (.int .i64 c) ∧ w'.cell? ⟨w3.heap.size + 1 + 1, i, none⟩ = some (.int .i64 (p : Nat))) (fun _ _ => trivial) _ _ _ _ ?_
      have hHeld := (⟨c1, c2, c3, c4, k2, k3⟩ : w7.cell? ⟨w5.heap.size, 0, none⟩ = some (.pointer (some ⟨N, 0, none⟩)) ∧ w7.cell? ⟨N, 0, none⟩ = some (.int .i64 c) ∧ w7.cell? ⟨N, 1, none⟩ = some (.int .i64 (p : Nat)) ∧ w7.cell? ⟨N, 2, none⟩ = some (.string ⟨#[]⟩) ∧ w7.cell? ⟨w3.heap.size + 1, i, none⟩ = some (.int .i64 c) ∧ w7.cell? ⟨w3.heap.size + 1 + 1, i, none⟩ = some (.int .i64 (p : Nat)))
      refine wpAnyH_takeD (i := 3) (v := ?_) 78 rfl rfl (by kernel_rfl) (by kernel_rfl) (by kernel_rfl) (fun _ _ _ h => h) (Or.inl ⟨by kernel_rfl, ?_⟩) hHeld ?_
      rotate_left
      · intro w' hSw
        (try dsimp only at hSw)
        go_simp
        try with_reducible rfl
      try simp only [Act.put, List.setIfInBounds_toArray, List.set_cons_zero, List.set_cons_succ]
      refine wpAnyH_takeD (i := 4) (v := ?_) 79 rfl rfl (by kernel_rfl) (by kernel_rfl) (by kernel_rfl) (fun _ _ _ h => h) (Or.inl ⟨by kernel_rfl, ?_⟩) hHeld ?_
      rotate_left
      · intro w' hSw
        (try dsimp only at hSw)
        go_simp
        try with_reducible rfl
      try simp only [Act.put, List.setIfInBounds_toArray, List.set_cons_zero, List.set_cons_succ]
      refine wpAnyH_takeD (i := 5) (v := ?_) 80 rfl rfl (by kernel_rfl) (by kernel_rfl) (by kernel_rfl) (fun _ _ _ h => h) (Or.inl ⟨by kernel_rfl, ?_⟩) hHeld ?_
      rotate_left
      · intro w' hSw
        (try dsimp only at hSw)
        go_simp
        try with_reducible rfl
      try simp only [Act.put, List.setIfInBounds_toArray, List.set_cons_zero, List.set_cons_succ]
      refine wpAnyH_takeD (i := 6) (v := ?_) 81 rfl rfl (by kernel_rfl) (by kernel_rfl) (by kernel_rfl) (fun _ _ _ h => h) (Or.inl ⟨by kernel_rfl, ?_⟩) hHeld ?_
      rotate_left
      · intro w' hSw
        (try dsimp only at hSw)
        go_simp
        try with_reducible rfl
      try simp only [Act.put, List.setIfInBounds_toArray, List.set_cons_zero, List.set_cons_succ]
      refine wpAnyH_takeD (i := 7) (v := ?_) 82 rfl rfl (by kernel_rfl) (by kernel_rfl) (by kernel_rfl) (fun _ _ _ h => h) (Or.inl ⟨by kernel_rfl, ?_⟩) hHeld ?_
      rotate_left
      · intro w' hSw
        (try dsimp only at hSw)
        go_simp
        try with_reducible rfl
      try simp only [Act.put, List.setIfInBounds_toArray, List.set_cons_zero, List.set_cons_succ]
      refine wpAnyH_takeD (i := 8) (v := ?_) 83 rfl rfl (by kernel_rfl) (by kernel_rfl) (by kernel_rfl) (fun _ _ _ h => h) (Or.inl ⟨by kernel_rfl, ?_⟩) hHeld ?_
      rotate_left
      · intro w' hSw
        (try dsimp only at hSw)
        go_simp
        try with_reducible rfl
      try simp only [Act.put, List.setIfInBounds_toArray, List.set_cons_zero, List.set_cons_succ]
      refine wpAnyH_takeD (i := 9) (v := ?_) 84 rfl rfl (by kernel_rfl) (by kernel_rfl) (by kernel_rfl) (fun _ _ _ h => h) (Or.inl ⟨by kernel_rfl, ?_⟩) hHeld ?_
      rotate_left
      · intro w' hSw
        (try dsimp only at hSw)
        go_simp
        try with_reducible rfl
      try simp only [Act.put, List.setIfInBounds_toArray, List.set_cons_zero, List.set_cons_succ]
      refine wpAnyH_takeD (i := 10) (v := ?_) 85 rfl rfl (by kernel_rfl) (by kernel_rfl) (by kernel_rfl) (fun _ _ _ h => h) (Or.inl ⟨by kernel_rfl, ?_⟩) hHeld ?_
      rotate_left
      · intro w' hSw
        (try dsimp only at hSw)
        go_simp
        try with_reducible rfl
      try simp only [Act.put, List.setIfInBounds_toArray, List.set_cons_zero, List.set_cons_succ]
      refine wpAnyH_takeD (i := 11) (v := ?_) 86 rfl rfl (by kernel_rfl) (by kernel_rfl) (by kernel_rfl) (fun _ _ _ h => h) (Or.inl ⟨by kernel_rfl, ?_⟩) hHeld ?_
      rotate_left
      · intro w' hSw
        (try dsimp only at hSw)
        go_simp
        try with_reducible rfl
      try simp only [Act.put, List.setIfInBounds_toArray, List.set_cons_zero, List.set_cons_succ]
      refine wpAnyH_takeD (i := 12) (v := ?_) 87 rfl rfl (by kernel_rfl) (by kernel_rfl) (by kernel_rfl) (fun _ _ _ h => h) (Or.inl ⟨by kernel_rfl, ?_⟩) hHeld ?_
      rotate_left
      · intro w' hSw
        (try dsimp only at hSw)
        go_simp
        try with_reducible rfl
      try simp only [Act.put, List.setIfInBounds_toArray, List.set_cons_zero, List.set_cons_succ]
      refine wpAnyH_takeD (i := 13) (v := ?_) 88 rfl rfl (by kernel_rfl) (by kernel_rfl) (by kernel_rfl) (fun _ _ _ h => h) (Or.inl ⟨by kernel_rfl, ?_⟩) hHeld ?_
      rotate_left
      · intro w' hSw
        (try dsimp only at hSw)
        go_simp
        try with_reducible rfl
      try simp only [Act.put, List.setIfInBounds_toArray, List.set_cons_zero, List.set_cons_succ]
      refine wpAnyH_takeD (i := 14) (v := ?_) 89 rfl rfl (by kernel_rfl) (by kernel_rfl) (by kernel_rfl) (fun _ _ _ h => h) (Or.inl ⟨by kernel_rfl, ?_⟩) hHeld ?_
      rotate_left
      · intro w' hSw
        (try dsimp only at hSw)
        go_simp
        try with_reducible rfl
      try simp only [Act.put, List.setIfInBounds_toArray, List.set_cons_zero, List.set_cons_succ]
      refine wpAnyH_takeD (i := 15) (v := ?_) 90 rfl rfl (by kernel_rfl) (by kernel_rfl) (by kernel_rfl) (fun _ _ _ h => h) (Or.inl ⟨by kernel_rfl, ?_⟩) hHeld ?_
      rotate_left
      · intro w' hSw
        (try dsimp only at hSw)
        go_simp
        try with_reducible rfl
      try simp only [Act.put, List.setIfInBounds_toArray, List.set_cons_zero, List.set_cons_succ]
      refine wpAnyH_takeD (i := 16) (v := ?_) 91 rfl rfl (by kernel_rfl) (by kernel_rfl) (by kernel_rfl) (fun _ _ _ h => h) (Or.inl ⟨by kernel_rfl, ?_⟩) hHeld ?_
      rotate_left
      · intro w' hSw
        (try dsimp only at hSw)
        go_simp
        try with_reducible rfl
      try simp only [Act.put, List.setIfInBounds_toArray, List.set_cons_zero, List.set_cons_succ]
      refine wpAnyH_takeD (i := 17) (v := ?_) 92 rfl rfl (by kernel_rfl) (by kernel_rfl) (by kernel_rfl) (fun _ _ _ h => h) (Or.inl ⟨by kernel_rfl, ?_⟩) hHeld ?_
      rotate_left
      · intro w' hSw
        (try dsimp only at hSw)
        go_simp
        try with_reducible rfl
      try simp only [Act.put, List.setIfInBounds_toArray, List.set_cons_zero, List.set_cons_succ]
      refine wpAnyH_takeD (i := 18) (v := ?_) 93 rfl rfl (by kernel_rfl) (by kernel_rfl) (by kernel_rfl) (fun _ _ _ h => h) (Or.inl ⟨by kernel_rfl, ?_⟩) hHeld ?_
      rotate_left
      · intro w' hSw
        (try dsimp only at hSw)
        go_simp
        try with_reducible rfl
      try simp only [Act.put, List.setIfInBounds_toArray, List.set_cons_zero, List.set_cons_succ]
      refine wpAnyH_takeD (i := 19) (v := ?_) 94 rfl rfl (by kernel_rfl) (by kernel_rfl) (by kernel_rfl) (fun _ _ _ h => h) (Or.inl ⟨by kernel_rfl, ?_⟩) hHeld ?_
      rotate_left
      · intro w' hSw
        (try dsimp only at hSw)
        go_simp
        try with_reducible rfl
      try simp only [Act.put, List.setIfInBounds_toArray, List.set_cons_zero, List.set_cons_succ]
      refine wpAnyH_takeD (i := 20) (v := ?_) 95 rfl rfl (by kernel_rfl) (by kernel_rfl) (by kernel_rfl) (fun _ _ _ h => h) (Or.inl ⟨by kernel_rfl, ?_⟩) hHeld ?_
      rotate_left
      · intro w' hSw
        (try dsimp only at hSw)
        go_simp
        try with_reducible rfl
      try simp only [Act.put, List.setIfInBounds_toArray, List.set_cons_zero, List.set_cons_succ]
      refine wpAnyH_takeD (i := 21) (v := ?_) 96 rfl rfl (by kernel_rfl) (by kernel_rfl) (by kernel_rfl) (fun _ _ _ h => h) (Or.inl ⟨by kernel_rfl, ?_⟩) hHeld ?_
      rotate_left
      · intro w' hSw
        (try dsimp only at hSw)
        go_simp
        try with_reducible rfl
      try simp only [Act.put, List.setIfInBounds_toArray, List.set_cons_zero, List.set_cons_succ]
      refine wpAnyH_takeD (i := 22) (v := ?_) 97 rfl rfl (by kernel_rfl) (by kernel_rfl) (by kernel_rfl) (fun _ _ _ h => h) (Or.inl ⟨by kernel_rfl, ?_⟩) hHeld ?_
      rotate_left
      · intro w' hSw
        (try dsimp only at hSw)
        go_simp
        try with_reducible rfl
      try simp only [Act.put, List.setIfInBounds_toArray, List.set_cons_zero, List.set_cons_succ]
      refine wpAnyH_takeD (i := 23) (v := ?_) 98 rfl rfl (by kernel_rfl) (by kernel_rfl) (by kernel_rfl) (fun _ _ _ h => h) (Or.inl ⟨by kernel_rfl, ?_⟩) hHeld ?_
      rotate_left
      · intro w' hSw
        (try dsimp only at hSw)
        go_simp
        try with_reducible rfl
      try simp only [Act.put, List.setIfInBounds_toArray, List.set_cons_zero, List.set_cons_succ]
      refine wpAnyH_takeD (i := 24) (v := ?_) 99 rfl rfl (by kernel_rfl) (by kernel_rfl) (by kernel_rfl) (fun _ _ _ h => h) (Or.inl ⟨by kernel_rfl, ?_⟩) hHeld ?_
      rotate_left
      · intro w' hSw
        (try dsimp only at hSw)
        go_simp
        try with_reducible rfl
      try simp only [Act.put, List.setIfInBounds_toArray, List.set_cons_zero, List.set_cons_succ]
      refine wpAnyH_takeD (i := 25) (v := ?_) 100 rfl rfl (by kernel_rfl) (by kernel_rfl) (by kernel_rfl) (fun _ _ _ h => h) (Or.inl ⟨by kernel_rfl, ?_⟩) hHeld ?_
      rotate_left
      · intro w' hSw
        (try dsimp only at hSw)
        go_simp
        try with_reducible rfl
      try simp only [Act.put, List.setIfInBounds_toArray, List.set_cons_zero, List.set_cons_succ]
      refine wpAnyH_takeD (i := 26) (v := ?_) 101 rfl rfl (by kernel_rfl) (by kernel_rfl) (by kernel_rfl) (fun _ _ _ h => h) (Or.inl ⟨by kernel_rfl, ?_⟩) hHeld ?_
      rotate_left
      · intro w' hSw
        (try dsimp only at hSw)
        go_simp
        try with_reducible rfl
      try simp only [Act.put, List.setIfInBounds_toArray, List.set_cons_zero, List.set_cons_succ]
      refine wpAnyH_takeD (i := 27) (v := ?_) 102 rfl rfl (by kernel_rfl) (by kernel_rfl) (by kernel_rfl) (fun _ _ _ h => h) (Or.inl ⟨by kernel_rfl, ?_⟩) hHeld ?_
      rotate_left
      · intro w' hSw
        (try dsimp only at hSw)
        go_simp
        try with_reducible rfl
      try simp only [Act.put, List.setIfInBounds_toArray, List.set_cons_zero, List.set_cons_succ]
      refine wpAnyH_takeD (i := 28) (v := ?_) 103 rfl rfl (by kernel_rfl) (by kernel_rfl) (by kernel_rfl) (fun _ _ _ h => h) (Or.inl ⟨by kernel_rfl, ?_⟩) hHeld ?_
      rotate_left
      · intro w' hSw
        (try dsimp only at hSw)
        go_simp
        try with_reducible rfl
      try simp only [Act.put, List.setIfInBounds_toArray, List.set_cons_zero, List.set_cons_succ]
      refine wpAnyH_takeD (i := 29) (v := ?_) 104 rfl rfl (by kernel_rfl) (by kernel_rfl) (by kernel_rfl) (fun _ _ _ h => h) (Or.inl ⟨by kernel_rfl, ?_⟩) hHeld ?_
      rotate_left
      · intro w' hSw
        (try dsimp only at hSw)
        go_simp
        try with_reducible rfl
      try simp only [Act.put, List.setIfInBounds_toArray, List.set_cons_zero, List.set_cons_succ]
      refine wpAnyH_takeD (i := 30) (v := ?_) 105 rfl rfl (by kernel_rfl) (by kernel_rfl) (by kernel_rfl) (fun _ _ _ h => h) (Or.inl ⟨by kernel_rfl, ?_⟩) hHeld ?_
      rotate_left
      · intro w' hSw
        (try dsimp only at hSw)
        go_simp
        try with_reducible rfl
      try simp only [Act.put, List.setIfInBounds_toArray, List.set_cons_zero, List.set_cons_succ]
      refine wpAnyH_takeD (i := 31) (v := ?_) 106 rfl rfl (by kernel_rfl) (by kernel_rfl) (by kernel_rfl) (fun _ _ _ h => h) (Or.inl ⟨by kernel_rfl, ?_⟩) hHeld ?_
      rotate_left
      · intro w' hSw
        (try dsimp only at hSw)
        go_simp
        try with_reducible rfl
      try simp only [Act.put, List.setIfInBounds_toArray, List.set_cons_zero, List.set_cons_succ]
      refine wpAnyH_takeD (i := 32) (v := ?_) 107 rfl rfl (by kernel_rfl) (by kernel_rfl) (by kernel_rfl) (fun _ _ _ h => h) (Or.inl ⟨by kernel_rfl, ?_⟩) hHeld ?_
      rotate_left
      · intro w' hSw
        (try dsimp only at hSw)
        go_simp
        try with_reducible rfl
      try simp only [Act.put, List.setIfInBounds_toArray, List.set_cons_zero, List.set_cons_succ]
      refine wpAnyH_done (by kernel_rfl) ?_ _
      go_wp2
      go_roundg (14 - (i + 1))
      case measure => omega
      case rel => exact ⟨i + 1, by omega, by go_num, HX7⟩
    · obtain rfl : i = 14 := by omega
      have HX' := Lib.hid (HXT.out.trans HX.out)
      clear HX
      go_wp2_with fail
      refine (wakes_any _ (HV.out.ext HX'.out)).mono ?_
      rintro e w8 ⟨rfl, hx⟩
      have HX8 := Lib.hid (HX'.out.trans hx)
      clear hx
      go_wp2
      go_ret
      exact ⟨rfl, HX8.out⟩
end Go.Proofs.YtiihnoelclnahaaGreatDoor
