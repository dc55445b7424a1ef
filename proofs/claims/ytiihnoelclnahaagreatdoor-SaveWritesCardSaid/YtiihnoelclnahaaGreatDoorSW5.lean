/- YtiihnoelclnahaaGreatDoorSW5: what is proved here stands in the theorems' own rows. -/
import Derived.Test.YtiihnoelclnahaaGreatDoorSW4
import Derived.Deep.RegionHeld3
import Derived.StillTailTactics
import Derived.Test.YtiihnoelclnahaaGreatDoorSW2
import Derived.Deep.DeepCutAuto
import Derived.BigQuiet
import Derived.Lib.LaidTab
import Derived.Test.YtiihnoelclnahaaGreatDoorSW3
import Derived.Lib.ItoaLen
import Derived.Lib.AppendStr
import Derived.Lib.AppendIntMem
import Derived.Lib.SlBytesConst
import Derived.Deep.RegionWith
import Derived.Test.YtiihnoelclnahaaGreatDoorSW1
namespace Go.Proofs.YtiihnoelclnahaaGreatDoor
open Go.RowKit Go.Proofs.YtiihnoelclnahaaGreatDoorW.PrintWords Go.Proofs.YtiihnoelclnahaaGreatDoor.Ref
set_option linter.unusedVariables false
set_option linter.unusedSimpArgs false
set_option maxHeartbeats 2000000 in
theorem rAdd_same (s : Bool) (A B : Option Addr) (k m c c' : Nat) (a b : Int) (w : World) (ha : IsRI w s A k c a) (hb : IsRI w s B m c' b) (la : (digR a.natAbs).length ≤ 1000000) (lb : (digR b.natAbs).length ≤ 1000000) :
    Calls Tryz.prog 110 #[.agg #[.bool s, .slice A k c], .agg #[.bool s, .slice B m c']] w fun e w' => ∃ n A' k' c2, e = .returned (.agg #[.bool n, .slice A' k' c2]) ∧ IsRI w' n A' k' c2 (a + b) ∧ Ext w w' := by
  obtain ⟨W0, hWW0⟩ : ∃ W0 : World, ((w.alloc (.cells #[.bool s, .slice A k c] 82)).alloc (.cells #[.bool s, .slice B m c'] 82)).alloc (.cells #[.bool false, .slice none 0 0] 82) = W0 := ⟨_, rfl⟩
  have hXW0 : Ext w W0 := by rw [← hWW0]; exact ((((Ext.refl w).alloc _).alloc _).alloc _)
  have hsW0 : w.heap.size + 3 ≤ W0.heap.size := by rw [← hWW0]; simp only [World.size_alloc]; omega
  have c0a : W0.cell? ⟨w.heap.size, 0, none⟩ = some (.bool s) := by rw [← hWW0]; simp [go_sem]
  have f0a : W0.frozen? ⟨w.heap.size, 0, none⟩ = false := by rw [← hWW0]; simp [go_sem]
  have c0b : W0.cell? ⟨w.heap.size, 1, none⟩ = some (.slice A k c) := by rw [← hWW0]; simp [go_sem]
  have f0b : W0.frozen? ⟨w.heap.size, 1, none⟩ = false := by rw [← hWW0]; simp [go_sem]
  have c1a : W0.cell? ⟨w.heap.size + 1, 0, none⟩ = some (.bool s) := by rw [← hWW0]; simp [go_sem]
  have f1a : W0.frozen? ⟨w.heap.size + 1, 0, none⟩ = false := by rw [← hWW0]; simp [go_sem]
  have c1b : W0.cell? ⟨w.heap.size + 1, 1, none⟩ = some (.slice B m c') := by rw [← hWW0]; simp [go_sem]
  have f1b : W0.frozen? ⟨w.heap.size + 1, 1, none⟩ = false := by rw [← hWW0]; simp [go_sem]
  have c2a : W0.cell? ⟨w.heap.size + 1 + 1, 0, none⟩ = some (.bool false) := by rw [← hWW0]; simp [go_sem]
  have f2a : W0.frozen? ⟨w.heap.size + 1 + 1, 0, none⟩ = false := by rw [← hWW0]; simp [go_sem]
  have c2b : W0.cell? ⟨w.heap.size + 1 + 1, 1, none⟩ = some (.slice none 0 0) := by rw [← hWW0]; simp [go_sem]
  have f2b : W0.frozen? ⟨w.heap.size + 1 + 1, 1, none⟩ = false := by rw [← hWW0]; simp [go_sem]
  have HWW0 := Lib.hid hWW0
  clear hWW0
  have HX := Lib.hid hXW0
  have hz : a.natAbs + b.natAbs = (a + b).natAbs ∧ s = decide (a + b < 0) := by
    have h1 := ha.sign
    have h2 := hb.sign
    by_cases h : a < 0
    · have e : s = true := by rw [h1]; simpa using h
      have : b < 0 := by rw [e] at h2; simpa using h2.symm
      exact ⟨by omega, by rw [e]; symm; simp; omega⟩
    · have e : s = false := by rw [h1]; simpa using h
      have : ¬ b < 0 := by rw [e] at h2; simpa using h2.symm
      exact ⟨by omega, by rw [e]; symm; simp; omega⟩
  have HC := Lib.hid (fun W (hx : Ext W0 W) => rnAdd A B k m c c' a.natAbs b.natAbs W ((ha.nat.ext hXW0).ext hx) ((hb.nat.ext hXW0).ext hx) la lb)
  rw [hz.1] at HC
  have HZ := Lib.hid hz.2
  have HKeep := Lib.hid (fun (w' : World) (hx : Ext W0 w') => (show w'.cell? ⟨w.heap.size, 0, none⟩ = some (.bool s) ∧ w'.cell? ⟨w.heap.size, 1, none⟩ = some (.slice A k c) ∧ w'.cell? ⟨w.heap.size + 1, 1, none⟩ = some (.slice B m c') from ⟨hx.cell c0a, hx.cell c0b, hx.cell c1b⟩))
  have HKeep2 := Lib.hid (fun (w' : World) (hx : Ext W0 w') (u v : Value) => (show ((w'.setCell ⟨w.heap.size + 1 + 1, 0, none⟩ u).setCell ⟨w.heap.size + 1 + 1, 1, none⟩ v).cell? ⟨w.heap.size, 0, none⟩ = some (.bool s) ∧ ((w'.setCell ⟨w.heap.size + 1 + 1, 0, none⟩ u).setCell ⟨w.heap.size + 1 + 1, 1, none⟩ v).cell? ⟨w.heap.size, 1, none⟩ = some (.slice A k c) ∧ ((w'.setCell ⟨w.heap.size + 1 + 1, 0, none⟩ u).setCell ⟨w.heap.size + 1 + 1, 1, none⟩ v).cell? ⟨w.heap.size + 1, 1, none⟩ = some (.slice B m c') from by
    refine ⟨?_, ?_, ?_⟩ <;> rw [World.cell?_setCell_other _ _ _ _ (by intro e; injection e with e1 e2; omega), World.cell?_setCell_other _ _ _ _ (by intro e; injection e with e1 e2; omega)]
    · exact hx.cell c0a
    · exact hx.cell c0b
    · exact hx.cell c1b))
  clear hXW0 ha hb la lb hz
  go_enter Tryz.func110, Tryz.ntmps110
  cases s
  · go_wp2
    rw [HWW0.out]
    clear HWW0
    go_region_held3 (fun w' => w'.cell? ⟨w.heap.size, 0, none⟩ = some (.bool false) ∧ w'.cell? ⟨w.heap.size, 1, none⟩ = some (.slice A k c) ∧ w'.cell? ⟨w.heap.size + 1, 1, none⟩ = some (.slice B m c')) (first | exact HKeep2.out _ hxA _ _ | exact HKeep.out _ hxA | exact HKeep.out _ ((Ext.refl W0).drew))
      (first
        | (go_at_call 120; refine (HC.out _ (by repeat (first | exact Ext.refl _ | exact hxA | refine Ext.drew ?_ | refine Ext.drewN ?_ _ | refine Ext.setCell ?_ (by first | exact Nat.le_refl _ | (simp only []; omega)) _ | refine Ext.alloc ?_ _))).mono ?_; rintro e w4 ⟨A', k', c2, rfl, hn, hx⟩; have hxA : Ext W0 w4 := Ext.trans (by repeat (first | exact Ext.refl _ | exact hxA | refine Ext.drew ?_ | refine Ext.drewN ?_ _ | refine Ext.setCell ?_ (by first | exact Nat.le_refl _ | (simp only []; omega)) _ | refine Ext.alloc ?_ _)) hx; have HN := Lib.hid hn; clear hn; have q1 := hxA.cell c2a; have q2 := hxA.cell c2b; have q3 := hxA.free f2a (lt_of_cell c2a); have q4 := hxA.free f2b (lt_of_cell c2b)))
    all_goals
      have y1 : (w4.setCell ⟨w.heap.size + 1 + 1, 0, none⟩ (.bool false)).cell? ⟨w.heap.size + 1 + 1, 1, none⟩ = some (.slice none 0 0) := by
        rw [World.cell?_setCell_other _ _ _ _ (by simp)]; exact q2
      go_wp2
      exact bodyPost_ret (v := .agg #[.bool false, .slice A' k' c2]) (by simp [results, Tryz.results110, go_sem, q1, q2]) rfl ⟨false, A', k', c2, rfl, ⟨(HN.out.setBool q1 _).setBox y1 _, HZ.out⟩, by have hh := HX.out.trans hxA; exact (by repeat (first | exact hh | refine Ext.drew ?_ | refine Ext.drewN ?_ _ | refine Ext.setCell ?_ (by first | exact Nat.le_refl _ | (simp only []; omega)) _ | refine Ext.alloc ?_ _))⟩
  · go_wp2
    rw [HWW0.out]
    clear HWW0
    go_region_held3 (fun w' => w'.cell? ⟨w.heap.size, 0, none⟩ = some (.bool true) ∧ w'.cell? ⟨w.heap.size, 1, none⟩ = some (.slice A k c) ∧ w'.cell? ⟨w.heap.size + 1, 1, none⟩ = some (.slice B m c')) (first | exact HKeep2.out _ hxA _ _ | exact HKeep.out _ hxA | exact HKeep.out _ ((Ext.refl W0).drew))
      (first
        | (go_at_call 120; refine (HC.out _ (by repeat (first | exact Ext.refl _ | exact hxA | refine Ext.drew ?_ | refine Ext.drewN ?_ _ | refine Ext.setCell ?_ (by first | exact Nat.le_refl _ | (simp only []; omega)) _ | refine Ext.alloc ?_ _))).mono ?_; rintro e w4 ⟨A', k', c2, rfl, hn, hx⟩; have hxA : Ext W0 w4 := Ext.trans (by repeat (first | exact Ext.refl _ | exact hxA | refine Ext.drew ?_ | refine Ext.drewN ?_ _ | refine Ext.setCell ?_ (by first | exact Nat.le_refl _ | (simp only []; omega)) _ | refine Ext.alloc ?_ _)) hx; have HN := Lib.hid hn; clear hn; have q1 := hxA.cell c2a; have q2 := hxA.cell c2b; have q3 := hxA.free f2a (lt_of_cell c2a); have q4 := hxA.free f2b (lt_of_cell c2b)))
    all_goals
      have y1 : (w4.setCell ⟨w.heap.size + 1 + 1, 0, none⟩ (.bool true)).cell? ⟨w.heap.size + 1 + 1, 1, none⟩ = some (.slice none 0 0) := by
        rw [World.cell?_setCell_other _ _ _ _ (by simp)]; exact q2
      go_wp2
      exact bodyPost_ret (v := .agg #[.bool true, .slice A' k' c2]) (by simp [results, Tryz.results110, go_sem, q1, q2]) rfl ⟨true, A', k', c2, rfl, ⟨(HN.out.setBool q1 _).setBox y1 _, HZ.out⟩, by have hh := HX.out.trans hxA; exact (by repeat (first | exact hh | refine Ext.drew ?_ | refine Ext.drewN ?_ _ | refine Ext.setCell ?_ (by first | exact Nat.le_refl _ | (simp only []; omega)) _ | refine Ext.alloc ?_ _))⟩
theorem radd_ge {a b : Int} {na nb : Bool} (ha : na = decide (a < 0)) (hb : nb = decide (b < 0)) (hne : na ≠ nb) (h : b.natAbs ≤ a.natAbs) {x : Bool} (hx : x = decide (a.natAbs - b.natAbs ≠ 0)) : a.natAbs - b.natAbs = (a + b).natAbs ∧ (na && x) = decide (a + b < 0) := by
  subst hx
  by_cases h1 : a < 0
  · have e1 : na = true := by rw [ha]; simpa using h1
    have e2 : nb = false := by cases nb; rfl; exact absurd e1 hne
    have h2 : ¬ b < 0 := by rw [e2] at hb; simpa using hb.symm
    refine ⟨by omega, ?_⟩
    rw [e1, Bool.true_and]
    by_cases h3 : a + b < 0
    · have : a.natAbs - b.natAbs ≠ 0 := by omega
      simp only [this, h3, ne_eq, not_false_eq_true]
    · have : ¬ a.natAbs - b.natAbs ≠ 0 := by omega
      simp only [this, h3]
  · have e1 : na = false := by rw [ha]; simpa using h1
    have e2 : nb = true := by cases nb; exact absurd e1 hne; rfl
    have h2 : b < 0 := by rw [e2] at hb; simpa using hb.symm
    refine ⟨by omega, ?_⟩
    rw [e1, Bool.false_and]
    symm; simp; omega
theorem radd_lt {a b : Int} {na nb : Bool} (ha : na = decide (a < 0)) (hb : nb = decide (b < 0)) (hne : na ≠ nb) (h : a.natAbs < b.natAbs) : b.natAbs - a.natAbs = (a + b).natAbs ∧ nb = decide (a + b < 0) := by
  by_cases h1 : a < 0
  · have e1 : na = true := by rw [ha]; simpa using h1
    have e2 : nb = false := by cases nb; rfl; exact absurd e1 hne
    have h2 : ¬ b < 0 := by rw [e2] at hb; simpa using hb.symm
    exact ⟨by omega, by rw [e2]; symm; simp; omega⟩
  · have e1 : na = false := by rw [ha]; simpa using h1
    have e2 : nb = true := by cases nb; exact absurd e1 hne; rfl
    have h2 : b < 0 := by rw [e2] at hb; simpa using hb.symm
    exact ⟨by omega, by rw [e2]; symm; simp; omega⟩
set_option maxHeartbeats 2000000 in
theorem rAdd_ge (na nb : Bool) (A B : Option Addr) (k m c c' : Nat) (a b : Int) (w : World) (ha : IsRI w na A k c a) (hb : IsRI w nb B m c' b) (la : (digR a.natAbs).length ≤ 1000000) (lb : (digR b.natAbs).length ≤ 1000000) (hne : na ≠ nb) (hab : b.natAbs ≤ a.natAbs) :
    Calls Tryz.prog 110 #[.agg #[.bool na, .slice A k c], .agg #[.bool nb, .slice B m c']] w fun e w' => ∃ n A' k' c2, e = .returned (.agg #[.bool n, .slice A' k' c2]) ∧ IsRI w' n A' k' c2 (a + b) ∧ Ext w w' := by
  obtain ⟨W0, hWW0⟩ : ∃ W0 : World, ((w.alloc (.cells #[.bool na, .slice A k c] 82)).alloc (.cells #[.bool nb, .slice B m c'] 82)).alloc (.cells #[.bool false, .slice none 0 0] 82) = W0 := ⟨_, rfl⟩
  have hXW0 : Ext w W0 := by rw [← hWW0]; exact ((((Ext.refl w).alloc _).alloc _).alloc _)
  have hsW0 : w.heap.size + 3 ≤ W0.heap.size := by rw [← hWW0]; simp only [World.size_alloc]; omega
  have c0a : W0.cell? ⟨w.heap.size, 0, none⟩ = some (.bool na) := by rw [← hWW0]; simp [go_sem]
  have f0a : W0.frozen? ⟨w.heap.size, 0, none⟩ = false := by rw [← hWW0]; simp [go_sem]
  have c0b : W0.cell? ⟨w.heap.size, 1, none⟩ = some (.slice A k c) := by rw [← hWW0]; simp [go_sem]
  have f0b : W0.frozen? ⟨w.heap.size, 1, none⟩ = false := by rw [← hWW0]; simp [go_sem]
  have c1a : W0.cell? ⟨w.heap.size + 1, 0, none⟩ = some (.bool nb) := by rw [← hWW0]; simp [go_sem]
  have f1a : W0.frozen? ⟨w.heap.size + 1, 0, none⟩ = false := by rw [← hWW0]; simp [go_sem]
  have c1b : W0.cell? ⟨w.heap.size + 1, 1, none⟩ = some (.slice B m c') := by rw [← hWW0]; simp [go_sem]
  have f1b : W0.frozen? ⟨w.heap.size + 1, 1, none⟩ = false := by rw [← hWW0]; simp [go_sem]
  have c2a : W0.cell? ⟨w.heap.size + 1 + 1, 0, none⟩ = some (.bool false) := by rw [← hWW0]; simp [go_sem]
  have f2a : W0.frozen? ⟨w.heap.size + 1 + 1, 0, none⟩ = false := by rw [← hWW0]; simp [go_sem]
  have c2b : W0.cell? ⟨w.heap.size + 1 + 1, 1, none⟩ = some (.slice none 0 0) := by rw [← hWW0]; simp [go_sem]
  have f2b : W0.frozen? ⟨w.heap.size + 1 + 1, 1, none⟩ = false := by rw [← hWW0]; simp [go_sem]
  have HWW0 := Lib.hid hWW0
  clear hWW0
  have HX := Lib.hid hXW0
  have HCmp := Lib.hid (rnCmp A B k m c c' a.natAbs b.natAbs W0 (ha.nat.ext hXW0) (hb.nat.ext hXW0) la lb)
  have HC := Lib.hid (fun W (hx : Ext W0 W) => rnSub A B k m c c' a.natAbs b.natAbs W ((ha.nat.ext hXW0).ext hx) ((hb.nat.ext hXW0).ext hx) la hab)
  obtain ⟨q, hq⟩ : ∃ q, cmpI (a.natAbs : Int) (b.natAbs : Int) = q := ⟨_, rfl⟩
  have hq0 : 0 ≤ q := by rw [← hq]; unfold cmpI; rw [if_neg (by omega)]; split <;> omega
  rw [hq] at HCmp
  have HS := Lib.hid (show ∀ x : Bool, x = decide (a.natAbs - b.natAbs ≠ 0) → a.natAbs - b.natAbs = (a + b).natAbs ∧ (na && x) = decide (a + b < 0) from fun x hx => radd_ge ha.sign hb.sign hne hab hx)
  clear hXW0 ha hb la lb hab hq
  go_enter Tryz.func110, Tryz.ntmps110
  rcases na <;> rcases nb
  any_goals exact absurd rfl hne
  all_goals
    go_wp2_with fail
    rw [HWW0.out]
    refine HCmp.out.mono ?_
    rintro e w1 ⟨rfl, hx⟩
    replace c0a := hx.cell c0a
    replace c0b := hx.cell c0b
    replace c1a := hx.cell c1a
    replace c1b := hx.cell c1b
    replace f2a := hx.free f2a (lt_of_cell c2a)
    replace c2a := hx.cell c2a
    replace f2b := hx.free f2b (lt_of_cell c2b)
    replace c2b := hx.cell c2b
    have hX := Lib.hid (HX.out.trans hx)
    have HC1 := Lib.hid (HC.out _ hx)
    clear hx HC HX HCmp HWW0
    go_wp2_with fail
    refine HC1.out.mono ?_
    rintro e w2 ⟨A', k', c2, rfl, hn, hx⟩
    replace c0a := hx.cell c0a
    replace f2a := hx.free f2a (lt_of_cell c2a)
    replace c2a := hx.cell c2a
    replace f2b := hx.free f2b (lt_of_cell c2b)
    replace c2b := hx.cell c2b
    have hX2 := Lib.hid (hX.out.trans hx)
    obtain ⟨x, hxx⟩ : ∃ x, decide (0 < (k' : Int)) = x := ⟨_, rfl⟩
    have hx0 : x = decide (a.natAbs - b.natAbs ≠ 0) := by
      rw [← hxx]
      have := hn.k0
      by_cases h0 : a.natAbs - b.natAbs = 0
      · have := this.2 h0; simp [h0, this]
      · have : k' ≠ 0 := fun h => h0 (this.1 h)
        have e1 : decide (0 < (k' : Int)) = true := by simp; omega
        have e2 : decide (a.natAbs - b.natAbs ≠ 0) = true := by simpa using h0
        rw [e1, e2]
    have hxn : decide (0 < k') = x := by rw [← hxx]; simp
    obtain ⟨hz1, hz2⟩ := HS.out x hx0
    rw [hz1] at hn
    have HN := Lib.hid hn
    have HZ := Lib.hid hz2
    clear hx hn hX HC1 HS hx0 hz1 hz2 c0b c1a c1b
    go_wp2
    have y1 : ∀ V : Bool, (w2.setCell ⟨w.heap.size + 1 + 1, 0, none⟩ (.bool V)).cell? ⟨w.heap.size + 1 + 1, 1, none⟩ = some (.slice none 0 0) := fun V => by
      rw [World.cell?_setCell_other _ _ _ _ (by simp)]; exact c2b
    first
      | exact bodyPost_ret (v := .agg #[.bool false, .slice A' k' c2]) (by simp [results, Tryz.results110, go_sem, c2a, c2b]) rfl ⟨false, A', k', c2, rfl, ⟨(HN.out.setBool c2a _).setBox (y1 _) _, by have := HZ.out; simpa using this⟩, (by repeat (first | exact hX2.out | refine Ext.drew ?_ | refine Ext.drewN ?_ _ | refine Ext.setCell ?_ (by first | exact Nat.le_refl _ | (simp only []; omega)) _ | refine Ext.alloc ?_ _))⟩
      | exact bodyPost_ret (v := .agg #[.bool x, .slice A' k' c2]) (by simp [results, Tryz.results110, go_sem, c2a, c2b]) rfl ⟨x, A', k', c2, rfl, ⟨(HN.out.setBool c2a _).setBox (y1 _) _, by have := HZ.out; simpa using this⟩, (by repeat (first | exact hX2.out | refine Ext.drew ?_ | refine Ext.drewN ?_ _ | refine Ext.setCell ?_ (by first | exact Nat.le_refl _ | (simp only []; omega)) _ | refine Ext.alloc ?_ _))⟩
set_option maxHeartbeats 2000000 in
theorem rAdd_lt (na nb : Bool) (A B : Option Addr) (k m c c' : Nat) (a b : Int) (w : World) (ha : IsRI w na A k c a) (hb : IsRI w nb B m c' b) (la : (digR a.natAbs).length ≤ 1000000) (lb : (digR b.natAbs).length ≤ 1000000) (hne : na ≠ nb) (hab : a.natAbs < b.natAbs) :
    Calls Tryz.prog 110 #[.agg #[.bool na, .slice A k c], .agg #[.bool nb, .slice B m c']] w fun e w' => ∃ n A' k' c2, e = .returned (.agg #[.bool n, .slice A' k' c2]) ∧ IsRI w' n A' k' c2 (a + b) ∧ Ext w w' := by
  obtain ⟨W0, hWW0⟩ : ∃ W0 : World, ((w.alloc (.cells #[.bool na, .slice A k c] 82)).alloc (.cells #[.bool nb, .slice B m c'] 82)).alloc (.cells #[.bool false, .slice none 0 0] 82) = W0 := ⟨_, rfl⟩
  have hXW0 : Ext w W0 := by rw [← hWW0]; exact ((((Ext.refl w).alloc _).alloc _).alloc _)
  have hsW0 : w.heap.size + 3 ≤ W0.heap.size := by rw [← hWW0]; simp only [World.size_alloc]; omega
  have c0a : W0.cell? ⟨w.heap.size, 0, none⟩ = some (.bool na) := by rw [← hWW0]; simp [go_sem]
  have f0a : W0.frozen? ⟨w.heap.size, 0, none⟩ = false := by rw [← hWW0]; simp [go_sem]
  have c0b : W0.cell? ⟨w.heap.size, 1, none⟩ = some (.slice A k c) := by rw [← hWW0]; simp [go_sem]
  have f0b : W0.frozen? ⟨w.heap.size, 1, none⟩ = false := by rw [← hWW0]; simp [go_sem]
  have c1a : W0.cell? ⟨w.heap.size + 1, 0, none⟩ = some (.bool nb) := by rw [← hWW0]; simp [go_sem]
  have f1a : W0.frozen? ⟨w.heap.size + 1, 0, none⟩ = false := by rw [← hWW0]; simp [go_sem]
  have c1b : W0.cell? ⟨w.heap.size + 1, 1, none⟩ = some (.slice B m c') := by rw [← hWW0]; simp [go_sem]
  have f1b : W0.frozen? ⟨w.heap.size + 1, 1, none⟩ = false := by rw [← hWW0]; simp [go_sem]
  have c2a : W0.cell? ⟨w.heap.size + 1 + 1, 0, none⟩ = some (.bool false) := by rw [← hWW0]; simp [go_sem]
  have f2a : W0.frozen? ⟨w.heap.size + 1 + 1, 0, none⟩ = false := by rw [← hWW0]; simp [go_sem]
  have c2b : W0.cell? ⟨w.heap.size + 1 + 1, 1, none⟩ = some (.slice none 0 0) := by rw [← hWW0]; simp [go_sem]
  have f2b : W0.frozen? ⟨w.heap.size + 1 + 1, 1, none⟩ = false := by rw [← hWW0]; simp [go_sem]
  have HWW0 := Lib.hid hWW0
  clear hWW0
  have HX := Lib.hid hXW0
  have HCmp := Lib.hid (rnCmp A B k m c c' a.natAbs b.natAbs W0 (ha.nat.ext hXW0) (hb.nat.ext hXW0) la lb)
  have HCC := Lib.hid (fun W (hx : Ext W0 W) => rnSub B A m k c' c b.natAbs a.natAbs W ((hb.nat.ext hXW0).ext hx) ((ha.nat.ext hXW0).ext hx) lb (Nat.le_of_lt hab))
  obtain ⟨q, hq⟩ : ∃ q, cmpI (a.natAbs : Int) (b.natAbs : Int) = q := ⟨_, rfl⟩
  have hq0 : q < 0 := by rw [← hq]; unfold cmpI; rw [if_pos (by omega)]; omega
  rw [hq] at HCmp
  obtain ⟨hz1, hz2⟩ := radd_lt ha.sign hb.sign hne hab
  rw [hz1] at HCC
  have HZ := Lib.hid hz2
  clear hXW0 ha hb la lb hab hq hz1 hz2
  go_enter Tryz.func110, Tryz.ntmps110
  rcases na <;> rcases nb
  any_goals exact absurd rfl hne
  · go_wp2_with fail
    rw [HWW0.out]
    refine HCmp.out.mono ?_
    rintro e w1 ⟨rfl, hx⟩
    obtain ⟨W1, hW1⟩ : ∃ W1, w1 = W1 := ⟨_, rfl⟩
    rw [hW1] at hx ⊢
    clear hW1 w1
    replace c0a := hx.cell c0a
    replace c0b := hx.cell c0b
    replace c1a := hx.cell c1a
    replace c1b := hx.cell c1b
    replace f2a := hx.free f2a (lt_of_cell c2a)
    replace c2a := hx.cell c2a
    replace f2b := hx.free f2b (lt_of_cell c2b)
    replace c2b := hx.cell c2b
    have hX := Lib.hid (HX.out.trans hx)
    have HC := Lib.hid (fun W (hx' : Ext W1 W) => HCC.out W (hx.trans hx'))
    have HKeep := Lib.hid (fun (w' : World) (hx : Ext W1 w') => (show w'.cell? ⟨w.heap.size + 1, 0, none⟩ = some (.bool true) ∧ w'.cell? ⟨w.heap.size + 1, 1, none⟩ = some (.slice B m c') ∧ w'.cell? ⟨w.heap.size, 1, none⟩ = some (.slice A k c) from ⟨hx.cell c1a, hx.cell c1b, hx.cell c0b⟩))
    have HKeep2 := Lib.hid (fun (w' : World) (hx : Ext W1 w') (u v : Value) => (show ((w'.setCell ⟨w.heap.size + 1 + 1, 0, none⟩ u).setCell ⟨w.heap.size + 1 + 1, 1, none⟩ v).cell? ⟨w.heap.size + 1, 0, none⟩ = some (.bool true) ∧ ((w'.setCell ⟨w.heap.size + 1 + 1, 0, none⟩ u).setCell ⟨w.heap.size + 1 + 1, 1, none⟩ v).cell? ⟨w.heap.size + 1, 1, none⟩ = some (.slice B m c') ∧ ((w'.setCell ⟨w.heap.size + 1 + 1, 0, none⟩ u).setCell ⟨w.heap.size + 1 + 1, 1, none⟩ v).cell? ⟨w.heap.size, 1, none⟩ = some (.slice A k c) from by
      refine ⟨?_, ?_, ?_⟩ <;> rw [World.cell?_setCell_other _ _ _ _ (by intro e; injection e with e1 e2; omega), World.cell?_setCell_other _ _ _ _ (by intro e; injection e with e1 e2; omega)]
      · exact hx.cell c1a
      · exact hx.cell c1b
      · exact hx.cell c0b))
    clear hx HCC HX HCmp HWW0
    go_wp2
    go_region_held3 (fun w' => w'.cell? ⟨w.heap.size + 1, 0, none⟩ = some (.bool true) ∧ w'.cell? ⟨w.heap.size + 1, 1, none⟩ = some (.slice B m c') ∧ w'.cell? ⟨w.heap.size, 1, none⟩ = some (.slice A k c)) (first | exact HKeep2.out _ hxA _ _ | exact HKeep.out _ hxA | exact HKeep.out _ ((Ext.refl W1).drew))
      (first
        | (go_at_call 122; refine (HC.out _ (by repeat (first | exact Ext.refl _ | exact hxA | refine Ext.drew ?_ | refine Ext.drewN ?_ _ | refine Ext.setCell ?_ (by first | exact Nat.le_refl _ | (simp only []; omega)) _ | refine Ext.alloc ?_ _))).mono ?_; rintro e w4 ⟨A', k', c2, rfl, hn, hx⟩; have hxA : Ext W1 w4 := Ext.trans (by repeat (first | exact Ext.refl _ | exact hxA | refine Ext.drew ?_ | refine Ext.drewN ?_ _ | refine Ext.setCell ?_ (by first | exact Nat.le_refl _ | (simp only []; omega)) _ | refine Ext.alloc ?_ _)) hx; have HN := Lib.hid hn; clear hn; have q1 := hxA.cell c2a; have q2 := hxA.cell c2b; have q3 := hxA.free f2a (lt_of_cell c2a); have q4 := hxA.free f2b (lt_of_cell c2b)))
    all_goals
      have y1 : (w4.setCell ⟨w.heap.size + 1 + 1, 0, none⟩ (.bool true)).cell? ⟨w.heap.size + 1 + 1, 1, none⟩ = some (.slice none 0 0) := by
        rw [World.cell?_setCell_other _ _ _ _ (by simp)]; exact q2
      go_wp2
      exact bodyPost_ret (v := .agg #[.bool true, .slice A' k' c2]) (by simp [results, Tryz.results110, go_sem, q1, q2]) rfl ⟨true, A', k', c2, rfl, ⟨(HN.out.setBool q1 _).setBox y1 _, HZ.out⟩, by have hh := hX.out.trans hxA; exact (by repeat (first | exact hh | refine Ext.drew ?_ | refine Ext.drewN ?_ _ | refine Ext.setCell ?_ (by first | exact Nat.le_refl _ | (simp only []; omega)) _ | refine Ext.alloc ?_ _))⟩
  · go_wp2_with fail
    rw [HWW0.out]
    refine HCmp.out.mono ?_
    rintro e w1 ⟨rfl, hx⟩
    obtain ⟨W1, hW1⟩ : ∃ W1, w1 = W1 := ⟨_, rfl⟩
    rw [hW1] at hx ⊢
    clear hW1 w1
    replace c0a := hx.cell c0a
    replace c0b := hx.cell c0b
    replace c1a := hx.cell c1a
    replace c1b := hx.cell c1b
    replace f2a := hx.free f2a (lt_of_cell c2a)
    replace c2a := hx.cell c2a
    replace f2b := hx.free f2b (lt_of_cell c2b)
    replace c2b := hx.cell c2b
    have hX := Lib.hid (HX.out.trans hx)
    have HC := Lib.hid (fun W (hx' : Ext W1 W) => HCC.out W (hx.trans hx'))
    have HKeep := Lib.hid (fun (w' : World) (hx : Ext W1 w') => (show w'.cell? ⟨w.heap.size + 1, 0, none⟩ = some (.bool false) ∧ w'.cell? ⟨w.heap.size + 1, 1, none⟩ = some (.slice B m c') ∧ w'.cell? ⟨w.heap.size, 1, none⟩ = some (.slice A k c) from ⟨hx.cell c1a, hx.cell c1b, hx.cell c0b⟩))
    have HKeep2 := Lib.hid (fun (w' : World) (hx : Ext W1 w') (u v : Value) => (show ((w'.setCell ⟨w.heap.size + 1 + 1, 0, none⟩ u).setCell ⟨w.heap.size + 1 + 1, 1, none⟩ v).cell? ⟨w.heap.size + 1, 0, none⟩ = some (.bool false) ∧ ((w'.setCell ⟨w.heap.size + 1 + 1, 0, none⟩ u).setCell ⟨w.heap.size + 1 + 1, 1, none⟩ v).cell? ⟨w.heap.size + 1, 1, none⟩ = some (.slice B m c') ∧ ((w'.setCell ⟨w.heap.size + 1 + 1, 0, none⟩ u).setCell ⟨w.heap.size + 1 + 1, 1, none⟩ v).cell? ⟨w.heap.size, 1, none⟩ = some (.slice A k c) from by
      refine ⟨?_, ?_, ?_⟩ <;> rw [World.cell?_setCell_other _ _ _ _ (by intro e; injection e with e1 e2; omega), World.cell?_setCell_other _ _ _ _ (by intro e; injection e with e1 e2; omega)]
      · exact hx.cell c1a
      · exact hx.cell c1b
      · exact hx.cell c0b))
    clear hx HCC HX HCmp HWW0
    go_wp2
    go_region_held3 (fun w' => w'.cell? ⟨w.heap.size + 1, 0, none⟩ = some (.bool false) ∧ w'.cell? ⟨w.heap.size + 1, 1, none⟩ = some (.slice B m c') ∧ w'.cell? ⟨w.heap.size, 1, none⟩ = some (.slice A k c)) (first | exact HKeep2.out _ hxA _ _ | exact HKeep.out _ hxA | exact HKeep.out _ ((Ext.refl W1).drew))
      (first
        | (go_at_call 122; refine (HC.out _ (by repeat (first | exact Ext.refl _ | exact hxA | refine Ext.drew ?_ | refine Ext.drewN ?_ _ | refine Ext.setCell ?_ (by first | exact Nat.le_refl _ | (simp only []; omega)) _ | refine Ext.alloc ?_ _))).mono ?_; rintro e w4 ⟨A', k', c2, rfl, hn, hx⟩; have hxA : Ext W1 w4 := Ext.trans (by repeat (first | exact Ext.refl _ | exact hxA | refine Ext.drew ?_ | refine Ext.drewN ?_ _ | refine Ext.setCell ?_ (by first | exact Nat.le_refl _ | (simp only []; omega)) _ | refine Ext.alloc ?_ _)) hx; have HN := Lib.hid hn; clear hn; have q1 := hxA.cell c2a; have q2 := hxA.cell c2b; have q3 := hxA.free f2a (lt_of_cell c2a); have q4 := hxA.free f2b (lt_of_cell c2b)))
    all_goals
      have y1 : (w4.setCell ⟨w.heap.size + 1 + 1, 0, none⟩ (.bool false)).cell? ⟨w.heap.size + 1 + 1, 1, none⟩ = some (.slice none 0 0) := by
        rw [World.cell?_setCell_other _ _ _ _ (by simp)]; exact q2
      go_wp2
      exact bodyPost_ret (v := .agg #[.bool false, .slice A' k' c2]) (by simp [results, Tryz.results110, go_sem, q1, q2]) rfl ⟨false, A', k', c2, rfl, ⟨(HN.out.setBool q1 _).setBox y1 _, HZ.out⟩, by have hh := hX.out.trans hxA; exact (by repeat (first | exact hh | refine Ext.drew ?_ | refine Ext.drewN ?_ _ | refine Ext.setCell ?_ (by first | exact Nat.le_refl _ | (simp only []; omega)) _ | refine Ext.alloc ?_ _))⟩
theorem rAdd_any (na nb : Bool) (A B : Option Addr) (k m c c' : Nat) (a b : Int) (w : World) (ha : IsRI w na A k c a) (hb : IsRI w nb B m c' b) (la : (digR a.natAbs).length ≤ 1000000) (lb : (digR b.natAbs).length ≤ 1000000) :
    Calls Tryz.prog 110 #[.agg #[.bool na, .slice A k c], .agg #[.bool nb, .slice B m c']] w fun e w' => ∃ n A' k' c2, e = .returned (.agg #[.bool n, .slice A' k' c2]) ∧ IsRI w' n A' k' c2 (a + b) ∧ Ext w w' := by
  by_cases h : na = nb
  · subst h; exact rAdd_same na A B k m c c' a b w ha hb la lb
  · rcases Nat.lt_or_ge a.natAbs b.natAbs with h' | h'
    · exact rAdd_lt na nb A B k m c c' a b w ha hb la lb h h'
    · exact rAdd_ge na nb A B k m c c' a b w ha hb la lb h h'
end Go.Proofs.YtiihnoelclnahaaGreatDoor
namespace Go.Proofs.YtiihnoelclnahaaGreatDoor
open Go.RowKit
set_option linter.unusedVariables false
/-- The number that stands at i, k behind the step r. -/
def barNew (r : Nat) (last : Int) (m : Nat → Nat → Int) (i k : Nat) : Int := exactZ (fitZ (fitZ (m r r * m i k) - fitZ (m i r * m r k))) last
def barStep (n r : Nat) (last : Int) (m : Nat → Nat → Int) : Nat → Nat → Int := fun i k => if r < i ∧ i < n ∧ r < k ∧ k < n then barNew r last m i k else m i k
def barPos (n : Nat) : Nat → Nat → Int → (Nat → Nat → Int) → Bool
  | 0, _, _, _ => true
  | fuel + 1, r, last, m => if m r r ≤ 0 then false else barPos n fuel (r + 1) (m r r) (barStep n r last m)
def posB (n : Nat) (m : Nat → Nat → Int) : Bool := barPos n n 0 1 m
/-- The rows below i are stepped. -/
def rowsTo (n r i : Nat) (last : Int) (m : Nat → Nat → Int) : Nat → Nat → Int := fun a b => if r < a ∧ a < i ∧ r < b ∧ b < n then barNew r last m a b else m a b
/-- In row i those below k. -/
def colsTo (n r i k : Nat) (last : Int) (m : Nat → Nat → Int) : Nat → Nat → Int := fun a b => if a = i ∧ r < b ∧ b < k then barNew r last m a b else rowsTo n r i last m a b
theorem MatZ.ext {w w' : World} {lo g n : Nat} {h : Nat → Nat} {m : Nat → Nat → Int} (M : MatZ w lo g n h m) (hx : Ext w w') : MatZ w' lo g n h m :=
  ⟨fun i hi => hx.cell (M.rows i hi), fun i hi => (M.row i hi).ext hx, M.inj, M.low, M.glow, M.typ.of_eq (Below.block hx g M.typ.lt)⟩
theorem MatZ.congr {w : World} {lo g n : Nat} {h : Nat → Nat} {m m' : Nat → Nat → Int} (M : MatZ w lo g n h m) (e : ∀ i j, i < n → j < n → m i j = m' i j) : MatZ w lo g n h m' :=
  ⟨M.rows, fun i hi => (M.row i hi).congr fun j hj => e i j hi hj, M.inj, M.low, M.glow, M.typ⟩
theorem MatZ.ne {w : World} {lo g n : Nat} {h : Nat → Nat} {m : Nat → Nat → Int} (M : MatZ w lo g n h m) {i : Nat} (hi : i < n) : h i ≠ g := (M.row i hi).typ.ne M.typ (by decide)
/-- An entry is set. -/
theorem MatZ.set_ {w : World} {lo g n : Nat} {h : Nat → Nat} {m : Nat → Nat → Int} (M : MatZ w lo g n h m) {i j : Nat} (hi : i < n) (hj : j < n) {neg : Bool} {A : Option Addr} {k : Nat} {z : Int} (hz : IsInt w neg A k z) :
    MatZ (setInt w (h i) (j * 2) neg A k) lo g n h (fun a b => if a = i ∧ b = j then z else m a b) := by
  obtain ⟨neg0, A0, k0, g1, g2, _⟩ := (M.row i hi).cells j hj
  refine ⟨fun a ha => ?_, fun a ha => ?_, M.inj, M.low, M.glow, setInt_typ M.typ⟩
  · rw [setInt_other (fun e => absurd e.symm (M.ne hi))]; exact M.rows a ha
  · by_cases e : a = i
    · subst e
      exact ((M.row a ha).set_ hj hz).congr fun b hb => by by_cases e : b = j <;> simp [e]
    · exact ((M.row a ha).far (b := h i) (o := j * 2) (fun e' => e (M.inj _ _ ha hi e'.symm)) g1 g2).congr fun b hb => by simp [e]
theorem rowsTo_start (n r : Nat) (last : Int) (m : Nat → Nat → Int) : rowsTo n r (r + 1) last m = m := by
  funext a b; unfold rowsTo; rw [if_neg (by omega)]
theorem rowsTo_end (n r : Nat) (last : Int) (m : Nat → Nat → Int) : rowsTo n r n last m = barStep n r last m := by
  funext a b; unfold rowsTo barStep; rfl
theorem colsTo_start (n r i : Nat) (last : Int) (m : Nat → Nat → Int) : colsTo n r i (r + 1) last m = rowsTo n r i last m := by
  funext a b; unfold colsTo; rw [if_neg (by omega)]
theorem colsTo_end (n r i : Nat) (last : Int) (m : Nat → Nat → Int) (hr : r < i) (a b : Nat) (hb : b < n) : colsTo n r i n last m a b = rowsTo n r (i + 1) last m a b := by
  unfold colsTo rowsTo
  by_cases e : a = i
  · subst e
    by_cases h : r < b
    · rw [if_pos ⟨rfl, h, hb⟩, if_pos ⟨hr, by omega, h, hb⟩]
    · rw [if_neg (by omega), if_neg (by omega), if_neg (by omega)]
  · rw [if_neg (by omega)]
    by_cases h : r < a ∧ a < i ∧ r < b ∧ b < n
    · rw [if_pos h, if_pos (by omega)]
    · rw [if_neg h, if_neg (by omega)]
theorem colsTo_step (n r i k : Nat) (last : Int) (m : Nat → Nat → Int) (hk : r < k) (a b : Nat) : (if a = i ∧ b = k then barNew r last m i k else colsTo n r i k last m a b) = colsTo n r i (k + 1) last m a b := by
  unfold colsTo
  by_cases h : a = i ∧ b = k
  · rw [if_pos h, if_pos (by omega)]; rw [h.1, h.2]
  · rw [if_neg h]
    by_cases h2 : a = i ∧ r < b ∧ b < k
    · rw [if_pos h2, if_pos (by omega)]
    · rw [if_neg h2, if_neg (by omega)]
/-- What the step reads is as it was. -/
theorem colsTo_reads (n r i k : Nat) (last : Int) (m : Nat → Nat → Int) (hr : r < i) (hk : r < k) : colsTo n r i k last m r r = m r r ∧ colsTo n r i k last m i k = m i k ∧ colsTo n r i k last m i r = m i r ∧ colsTo n r i k last m r k = m r k := by
  unfold colsTo rowsTo
  refine ⟨?_, ?_, ?_, ?_⟩ <;> rw [if_neg (by omega), if_neg (by omega)]
/-- What holds at the head of a round. -/
structure PosInv (w0 wr : World) (lo n r g bl : Nat) (h : Nat → Nat) (last : Int) (m : Nat → Nat → Int) (R : Bool) : Prop where
  mat : MatZ wr lo g n h m
  box : MRow wr bl 1 (fun _ => last)
  ne : ∀ i, i < n → h i ≠ bl
  low : w0.heap.size ≤ bl
  ext : Ext w0 wr
  pos : barPos n (n - r) r last m = R
theorem newbox {w w4 : World} (hx : Ext (w.alloc (.cells #[.bool false, .slice none 0 0] 104)).drew w4) : w4.cell? ⟨w.heap.size, 0, none⟩ = some (.bool false) ∧ w4.cell? ⟨w.heap.size, 1, none⟩ = some (.slice none 0 0) ∧
    w4.frozen? ⟨w.heap.size, 0, none⟩ = false ∧ w4.frozen? ⟨w.heap.size, 1, none⟩ = false ∧ Hid (TB w4 104 w.heap.size ∧ ∀ o, w4.frozen? ⟨w.heap.size, o, none⟩ = false) := by
  have hh : (w.alloc (.cells #[.bool false, .slice none 0 0] 104)).drew.heap[w.heap.size]? = some (.cells #[.bool false, .slice none 0 0] 104) := heap_new _ _
  have h0 : w.heap.size < (w.alloc (.cells #[.bool false, .slice none 0 0] 104)).drew.heap.size := by simp [World.drew]
  have e := Below.block hx w.heap.size h0
  have hh4 := e.trans hh
  refine ⟨by rw [cell_of_row _ _ _ _ _ _ hh4]; rfl, by rw [cell_of_row _ _ _ _ _ _ hh4]; rfl, by simp only [World.frozen?, hh4]; rfl, by simp only [World.frozen?, hh4]; rfl, ⟨⟨_, _, hh4⟩, fun o => by simp only [World.frozen?, hh4]; rfl⟩⟩
theorem MRow.new1 {w : World} {nx : Bool} {Ax : Option Addr} {kx : Nat} {z : Int} (hi : IsInt w nx Ax kx z) : MRow (w.alloc (.cells #[.bool nx, .slice Ax kx kx] 104)) w.heap.size 1 (fun _ => z) := by
  have hh := heap_new w (.cells #[.bool nx, .slice Ax kx kx] 104)
  refine ⟨fun j hj => ?_, fun o => by simp only [World.frozen?, hh]; rfl, ⟨_, _, hh⟩⟩
  obtain rfl : j = 0 := by omega
  exact ⟨nx, Ax, kx, by rw [cell_of_row _ _ _ _ _ _ hh]; rfl, by rw [cell_of_row _ _ _ _ _ _ hh]; rfl, hi.ext ((Ext.refl w).alloc _)⟩
theorem MRow.put1 {w : World} {b : Nat} {nx n0 : Bool} {Ax A0 : Option Addr} {kx k0 m0 : Nat} {z : Int} (hi : IsInt w nx Ax kx z) (d1 : w.cell? ⟨b, 0, none⟩ = some (.bool n0)) (d2 : w.cell? ⟨b, 1, none⟩ = some (.slice A0 k0 m0)) (d5 : Hid (TB w 104 b ∧ ∀ o, w.frozen? ⟨b, o, none⟩ = false)) :
    MRow ((w.setCell ⟨b, 0, none⟩ (.bool nx)).setCell ⟨b, 1, none⟩ (.slice Ax kx kx)) b 1 (fun _ => z) := by
  have hs := setInt_same (neg := nx) (A := Ax) (k := kx) d1 d2
  refine ⟨fun j hj => ?_, fun o => ?_, (d5.out.1.set_ _ _).set_ _ _⟩
  · obtain rfl : j = 0 := by omega
    exact ⟨nx, Ax, kx, hs.1, hs.2, setInt_isInt d1 d2 hi⟩
  · rw [World.frozen?_setCell, World.frozen?_setCell]; exact d5.out.2 o
/-- The cells of a box. -/
theorem MRow.one {w : World} {b : Nat} {z : Int} (h : MRow w b 1 (fun _ => z)) : ∃ neg A k, w.cell? ⟨b, 0, none⟩ = some (.bool neg) ∧ w.cell? ⟨b, 1, none⟩ = some (.slice A k k) ∧ IsInt w neg A k z := h.cells 0 (by omega)
end Go.Proofs.YtiihnoelclnahaaGreatDoor
namespace Go.Proofs.YtiihnoelclnahaaGreatDoor
/-- f 0 + .. + f (n - 1). -/
def sm : Nat → (Nat → Int) → Int
  | 0, _ => 0
  | n + 1, f => sm n f + f n
theorem sm_congr {n : Nat} {f g : Nat → Int} (h : ∀ i, i < n → f i = g i) : sm n f = sm n g := by
  induction n with
  | zero => rfl
  | succ n ih => simp only [sm]; rw [ih (fun i hi => h i (by omega)), h n (by omega)]
theorem sm_add (n : Nat) (f g : Nat → Int) : sm n (fun i => f i + g i) = sm n f + sm n g := by
  induction n with
  | zero => rfl
  | succ n ih => simp only [sm]; rw [ih]; omega
theorem sm_mul (n : Nat) (a : Int) (f : Nat → Int) : sm n (fun i => a * f i) = a * sm n f := by
  induction n with
  | zero => simp [sm]
  | succ n ih => simp only [sm]; rw [ih, Int.mul_add]
theorem sm_zero {n : Nat} {f : Nat → Int} (h : ∀ i, i < n → f i = 0) : sm n f = 0 := by
  induction n with
  | zero => rfl
  | succ n ih => simp only [sm]; rw [ih (fun i hi => h i (by omega)), h n (by omega)]; rfl
theorem sm_one {n k : Nat} {f : Nat → Int} (hk : k < n) (h : ∀ i, i < n → i ≠ k → f i = 0) : sm n f = f k := by
  induction n with
  | zero => omega
  | succ n ih =>
    simp only [sm]
    by_cases e : k = n
    · subst e; rw [sm_zero (fun i hi => h i (by omega) (by omega))]; omega
    · rw [ih (by omega) (fun i hi hne => h i (by omega) hne), h n (by omega) (by omega)]; omega
theorem sm_two {n k l : Nat} {f : Nat → Int} (hk : k < n) (hl : l < n) (hkl : k < l) (h : ∀ i, i < n → i ≠ k → i ≠ l → f i = 0) : sm n f = f k + f l := by
  induction n with
  | zero => omega
  | succ n ih =>
    simp only [sm]
    by_cases e : l = n
    · subst e; rw [sm_one hkl (fun i hi hne => h i (by omega) hne (by omega))]
    · rw [ih (by omega) (by omega) (fun i hi h1 h2 => h i (by omega) h1 h2), h n (by omega) (by omega) (by omega)]; omega
theorem sm_swap (n m : Nat) (f : Nat → Nat → Int) : sm n (fun i => sm m (fun j => f i j)) = sm m (fun j => sm n (fun i => f i j)) := by
  induction n with
  | zero => simp only [sm]; rw [sm_zero (fun _ _ => rfl)]
  | succ n ih => simp only [sm]; rw [ih, ← sm_add]
def skip (l i : Nat) : Nat := if i < l then i else i + 1
theorem skip_ne (l i : Nat) : skip l i ≠ l := by unfold skip; split <;> omega
theorem skip_lt {l i n : Nat} (h : i < n) : skip l i < n + 1 := by unfold skip; split <;> omega
def sgn (k : Nat) : Int := if k % 2 = 0 then 1 else -1
theorem sgn_succ (k : Nat) : sgn (k + 1) = - sgn k := by
  unfold sgn
  by_cases h : k % 2 = 0
  · rw [if_pos h, if_neg (show ¬ (k + 1) % 2 = 0 by omega)]
  · rw [if_neg h, if_pos (show (k + 1) % 2 = 0 by omega)]; rfl
theorem sgn_add (j k : Nat) : sgn (j + k) = sgn j * sgn k := by
  induction k with
  | zero => simp [sgn]
  | succ k ih => rw [← Nat.add_assoc, sgn_succ, sgn_succ, ih, Int.mul_neg]
theorem sgn_sq (k : Nat) : sgn k * sgn k = 1 := by unfold sgn; split <;> rfl
theorem sgn_two (k : Nat) : sgn (k + k) = 1 := by rw [sgn_add, sgn_sq]
/-- Laplace's rule along the last column. -/
def det : Nat → (Nat → Nat → Int) → Int
  | 0, _ => 1
  | n + 1, M => sm (n + 1) (fun l => sgn (n + l) * (M l n * det n (fun i j => M (skip l i) j)))
theorem det_congr {n : Nat} : ∀ {M M' : Nat → Nat → Int}, (∀ i j, i < n → j < n → M i j = M' i j) → det n M = det n M' := by
  induction n with
  | zero => intros; rfl
  | succ n ih =>
    intro M M' h
    simp only [det]
    refine sm_congr fun l hl => ?_
    rw [h l n hl (by omega), ih (fun i j hi hj => h _ _ (skip_lt hi) (by omega))]
/-- Row r is a combination. -/
theorem det_row {n : Nat} : ∀ {M U V : Nat → Nat → Int} (r : Nat) (a b : Int), r < n → (∀ j, j < n → M r j = a * U r j + b * V r j) → (∀ i j, i < n → j < n → i ≠ r → M i j = U i j ∧ M i j = V i j) → det n M = a * det n U + b * det n V := by
  induction n with
  | zero => intros; omega
  | succ n ih =>
    intro M U V r a b hr h1 h2
    simp only [det]
    rw [← sm_mul, ← sm_mul, ← sm_add]
    refine sm_congr fun l hl => ?_
    by_cases e : l = r
    · subst e
      have e1 : det n (fun i j => M (skip l i) j) = det n (fun i j => U (skip l i) j) := det_congr fun i j hi hj => (h2 _ _ (skip_lt hi) (by omega) (skip_ne _ _)).1
      have e2 : det n (fun i j => M (skip l i) j) = det n (fun i j => V (skip l i) j) := det_congr fun i j hi hj => (h2 _ _ (skip_lt hi) (by omega) (skip_ne _ _)).2
      rw [h1 n (by omega), ← e1, ← e2]
      generalize det n (fun i j => M (skip l i) j) = D
      generalize sgn (n + l) = s
      rw [Int.add_mul, Int.mul_add]
      simp only [Int.mul_assoc, Int.mul_left_comm]
    · have g := h2 l n hl (by omega) e
      obtain ⟨r', hr', hs⟩ : ∃ r', r' < n ∧ skip l r' = r := by
        by_cases q : r < l
        · exact ⟨r, by omega, by unfold skip; rw [if_pos q]⟩
        · exact ⟨r - 1, by omega, by unfold skip; rw [if_neg (by omega)]; omega⟩
      have inj : ∀ i, i ≠ r' → skip l i ≠ r := by intro i hi; rw [← hs]; unfold skip; split <;> split <;> omega
      rw [ih (M := fun i j => M (skip l i) j) (U := fun i j => U (skip l i) j) (V := fun i j => V (skip l i) j) r' a b hr' (fun j hj => by show M (skip l r') j = _; rw [hs]; exact h1 j (by omega)) (fun i j hi hj hne => h2 _ _ (skip_lt hi) (by omega) (inj i hne))]
      rw [← g.1]
      have g2 : V l n = M l n := g.2.symm
      rw [g2]
      generalize det n (fun i j => U (skip l i) j) = D
      generalize det n (fun i j => V (skip l i) j) = D'
      generalize sgn (n + l) = s
      rw [Int.mul_add, Int.mul_add]
      simp only [Int.mul_left_comm]
/-- Column c is a combination. -/
theorem det_col {n : Nat} : ∀ {M U V : Nat → Nat → Int} (c : Nat) (a b : Int), c < n → (∀ i, i < n → M i c = a * U i c + b * V i c) → (∀ i j, i < n → j < n → j ≠ c → M i j = U i j ∧ M i j = V i j) → det n M = a * det n U + b * det n V := by
  induction n with
  | zero => intros; omega
  | succ n ih =>
    intro M U V c a b hc h1 h2
    simp only [det]
    rw [← sm_mul, ← sm_mul, ← sm_add]
    refine sm_congr fun l hl => ?_
    by_cases e : c = n
    · subst e
      have e1 : det c (fun i j => M (skip l i) j) = det c (fun i j => U (skip l i) j) := det_congr fun i j hi hj => (h2 _ _ (skip_lt hi) (by omega) (by omega)).1
      have e2 : det c (fun i j => M (skip l i) j) = det c (fun i j => V (skip l i) j) := det_congr fun i j hi hj => (h2 _ _ (skip_lt hi) (by omega) (by omega)).2
      rw [h1 l (by omega), ← e1, ← e2]
      generalize det c (fun i j => M (skip l i) j) = D
      generalize sgn (c + l) = s
      rw [Int.add_mul, Int.mul_add]
      simp only [Int.mul_assoc, Int.mul_left_comm]
    · have g := h2 l n hl (by omega) (by omega)
      rw [ih (M := fun i j => M (skip l i) j) (U := fun i j => U (skip l i) j) (V := fun i j => V (skip l i) j) c a b (by omega) (fun i hi => h1 _ (skip_lt hi)) (fun i j hi hj hne => h2 _ _ (skip_lt hi) (by omega) hne)]
      rw [← g.1]
      have g2 : V l n = M l n := g.2.symm
      rw [g2]
      generalize det n (fun i j => U (skip l i) j) = D
      generalize det n (fun i j => V (skip l i) j) = D'
      generalize sgn (n + l) = s
      rw [Int.mul_add, Int.mul_add]
      simp only [Int.mul_left_comm]
/-- A row of noughts. -/
theorem det_zero_row {n : Nat} {M : Nat → Nat → Int} (r : Nat) (hr : r < n) (h : ∀ j, j < n → M r j = 0) : det n M = 0 := by
  have := det_row (M := M) (U := M) (V := M) r 0 0 hr (fun j hj => by rw [h j hj]; rfl) (fun _ _ _ _ _ => ⟨rfl, rfl⟩)
  rw [this]; omega
/-- Two rows side by side are alike. -/
theorem det_adj_row {n : Nat} : ∀ {M : Nat → Nat → Int} (k : Nat), k + 1 < n → (∀ j, j < n → M k j = M (k + 1) j) → det n M = 0 := by
  induction n with
  | zero => intros; omega
  | succ n ih =>
    intro M k hk h
    simp only [det]
    rw [sm_two (k := k) (l := k + 1) (by omega) hk (by omega)]
    · have e : det n (fun i j => M (skip k i) j) = det n (fun i j => M (skip (k + 1) i) j) := det_congr fun i j hi hj => by
        by_cases q : i = k
        · subst q; rw [show skip i i = i + 1 by unfold skip; rw [if_neg (by omega)], show skip (i + 1) i = i by unfold skip; rw [if_pos (by omega)]]; exact (h j (by omega)).symm
        · rw [show skip k i = skip (k + 1) i by unfold skip; split <;> split <;> omega]
      rw [e, h n (by omega), ← Nat.add_assoc, sgn_succ]
      generalize M (k + 1) n * det n (fun i j => M (skip (k + 1) i) j) = D
      rw [Int.neg_mul]; omega
    · intro i hi h1 h2
      have : det n (fun a j => M (skip i a) j) = 0 := by
        rcases Nat.lt_or_ge i k with q | q
        · refine ih (k - 1) (by omega) fun j hj => ?_
          show M (skip i (k - 1)) j = M (skip i (k - 1 + 1)) j
          rw [show skip i (k - 1) = k by unfold skip; rw [if_neg (by omega)]; omega, show skip i (k - 1 + 1) = k + 1 by unfold skip; rw [if_neg (by omega)]; omega]
          exact h j (by omega)
        · refine ih k (by omega) fun j hj => ?_
          show M (skip i k) j = M (skip i (k + 1)) j
          rw [show skip i k = k by unfold skip; rw [if_pos (by omega)], show skip i (k + 1) = k + 1 by unfold skip; rw [if_pos (by omega)]]
          exact h j (by omega)
      rw [this]; simp
def swp (k : Nat) (i : Nat) : Nat := if i = k then k + 1 else if i = k + 1 then k else i
/-- The rows k and k + 1 are others. -/
def rows2 (k : Nat) (M : Nat → Nat → Int) (u v : Nat → Int) : Nat → Nat → Int := fun i j => if i = k then u j else if i = k + 1 then v j else M i j
theorem rows2_a (k : Nat) (M : Nat → Nat → Int) (u v : Nat → Int) (j : Nat) : rows2 k M u v k j = u j := by unfold rows2; rw [if_pos rfl]
theorem rows2_b (k : Nat) (M : Nat → Nat → Int) (u v : Nat → Int) (j : Nat) : rows2 k M u v (k + 1) j = v j := by unfold rows2; rw [if_neg (by omega), if_pos rfl]
theorem rows2_c {k i : Nat} (M : Nat → Nat → Int) (u v : Nat → Int) (j : Nat) (h1 : i ≠ k) (h2 : i ≠ k + 1) : rows2 k M u v i j = M i j := by unfold rows2; rw [if_neg h1, if_neg h2]
/-- Two rows side by side change places. -/
theorem det_swp_row {n : Nat} {M : Nat → Nat → Int} (k : Nat) (hk : k + 1 < n) : det n (fun i j => M (swp k i) j) = - det n M := by
  have add1 : ∀ u u' v, det n (rows2 k M (fun j => u j + u' j) v) = det n (rows2 k M u v) + det n (rows2 k M u' v) := fun u u' v => by
    have := det_row (M := rows2 k M (fun j => u j + u' j) v) (U := rows2 k M u v) (V := rows2 k M u' v) k 1 1 (Nat.lt_of_succ_lt hk) (fun j _ => by rw [rows2_a, rows2_a, rows2_a, Int.one_mul, Int.one_mul]) (fun i j _ _ hne => by
      by_cases e : i = k + 1
      · subst e; rw [rows2_b, rows2_b, rows2_b]; exact ⟨rfl, rfl⟩
      · rw [rows2_c _ _ _ _ hne e, rows2_c _ _ _ _ hne e, rows2_c _ _ _ _ hne e]; exact ⟨rfl, rfl⟩)
    rw [this]; omega
  have add2 : ∀ u v v', det n (rows2 k M u (fun j => v j + v' j)) = det n (rows2 k M u v) + det n (rows2 k M u v') := fun u v v' => by
    have := det_row (M := rows2 k M u (fun j => v j + v' j)) (U := rows2 k M u v) (V := rows2 k M u v') (k + 1) 1 1 hk (fun j _ => by rw [rows2_b, rows2_b, rows2_b, Int.one_mul, Int.one_mul]) (fun i j _ _ hne => by
      by_cases e : i = k
      · subst e; rw [rows2_a, rows2_a, rows2_a]; exact ⟨rfl, rfl⟩
      · rw [rows2_c _ _ _ _ e hne, rows2_c _ _ _ _ e hne, rows2_c _ _ _ _ e hne]; exact ⟨rfl, rfl⟩)
    rw [this]; omega
  have same : ∀ u, det n (rows2 k M u u) = 0 := fun u => det_adj_row k hk fun j _ => by rw [rows2_a, rows2_b]
  have h := same (fun j => M k j + M (k + 1) j)
  rw [add1, add2, add2, same, same] at h
  have e1 : det n (rows2 k M (M k) (M (k + 1))) = det n M := det_congr fun i j _ _ => by
    unfold rows2; split
    · rename_i e; rw [e]
    · split
      · rename_i e; rw [e]
      · rfl
  have e2 : det n (rows2 k M (M (k + 1)) (M k)) = det n (fun i j => M (swp k i) j) := det_congr fun i j _ _ => by
    unfold rows2 swp; split
    · rfl
    · split <;> rfl
  have h' : det n (rows2 k M (M k) (M (k + 1))) + det n (rows2 k M (M (k + 1)) (M k)) = 0 := by omega
  rw [e1, e2] at h'; omega
/-- Two rows are alike. -/
theorem det_same_row {n : Nat} : ∀ (d : Nat) {M : Nat → Nat → Int} (r : Nat), r + 1 + d < n → (∀ j, j < n → M r j = M (r + 1 + d) j) → det n M = 0 := by
  intro d
  induction d with
  | zero => intro M r h1 h2; exact det_adj_row r h1 h2
  | succ d ih =>
    intro M r h1 h2
    have := det_swp_row (M := M) (r + 1 + d) (by omega)
    have h0 : det n (fun i j => M (swp (r + 1 + d) i) j) = 0 := ih r (by omega) fun j hj => by
      show M (swp (r + 1 + d) r) j = M (swp (r + 1 + d) (r + 1 + d)) j
      rw [show swp (r + 1 + d) r = r by unfold swp; rw [if_neg (by omega), if_neg (by omega)], show swp (r + 1 + d) (r + 1 + d) = r + 1 + (d + 1) by unfold swp; rw [if_pos rfl]; omega]
      exact h2 j hj
    omega
theorem det_eq_rows {n : Nat} {M : Nat → Nat → Int} (r s : Nat) (hrs : r < s) (hs : s < n) (h : ∀ j, j < n → M r j = M s j) : det n M = 0 :=
  det_same_row (s - r - 1) r (by omega) fun j hj => by rw [show r + 1 + (s - r - 1) = s by omega]; exact h j hj
theorem sm_skip (n l : Nat) (hl : l < n + 1) (f : Nat → Int) : sm n (fun p => f (skip l p)) + f l = sm (n + 1) f := by
  induction n with
  | zero => obtain rfl : l = 0 := by omega
            simp [sm]
  | succ n ih =>
    simp only [sm]
    by_cases e : l = n + 1
    · subst e
      rw [sm_congr (f := fun p => f (skip (n + 1) p)) (g := f) (fun i hi => by show f (skip (n + 1) i) = _; rw [show skip (n + 1) i = i by unfold skip; rw [if_pos (by omega)]]), show skip (n + 1) n = n by unfold skip; rw [if_pos (by omega)]]
    · have := ih (by omega)
      simp only [sm] at this
      rw [show skip l n = n + 1 by unfold skip; rw [if_neg (by omega)]]
      omega
theorem sm_anti (n : Nat) (G : Nat → Nat → Int) (h : ∀ i j, i < n → j < n → G i j = - G j i) : sm n (fun i => sm n (fun j => G i j)) = 0 := by
  have h1 : sm n (fun i => sm n (fun j => G i j)) = sm n (fun i => sm n (fun j => -1 * G j i)) := sm_congr fun i hi => sm_congr fun j hj => by rw [h i j hi hj]; omega
  have h2 : sm n (fun i => sm n (fun j => -1 * G j i)) = -1 * sm n (fun i => sm n (fun j => G i j)) := by
    rw [sm_swap n n G, ← sm_mul]
    exact sm_congr fun i _ => by rw [sm_mul]
  omega
/-- The last two columns are alike. -/
theorem det_last_col {m : Nat} {M : Nat → Nat → Int} (h : ∀ i, i < m + 2 → M i m = M i (m + 1)) : det (m + 2) M = 0 := by
  -- the two rows that are taken away, whichever first
  let D (l q : Nat) : Int := det m (fun i j => M (skip (max l q) (skip (min l q) i)) j)
  let G (l q : Nat) : Int := if l = q then 0 else (if q < l then -1 else 1) * (sgn (l + q) * (M l m * (M q m * D l q)))
  have e : det (m + 2) M = sm (m + 2) (fun l => sm (m + 2) (fun q => G l q)) := by
    show sm (m + 2) (fun l => sgn (m + 1 + l) * (M l (m + 1) * det (m + 1) (fun i j => M (skip l i) j))) = _
    refine sm_congr fun l hl => ?_
    rw [← h l hl, ← sm_skip (m + 1) l (by omega) (fun q => G l q)]
    have g0 : G l l = 0 := by simp only [G, if_pos]
    rw [g0, Int.add_zero]
    show _ * (_ * sm (m + 1) (fun p => sgn (m + p) * (M (skip l p) m * det m (fun i j => M (skip l (skip p i)) j)))) = _
    rw [← sm_mul, ← sm_mul]
    refine sm_congr fun p hp => ?_
    show _ = G l (skip l p)
    have hne := skip_ne l p
    simp only [G]
    rw [if_neg (Ne.symm hne)]
    have hD : D l (skip l p) = det m (fun i j => M (skip l (skip p i)) j) := det_congr fun i j hi hj => by
      by_cases q : p < l
      · rw [show skip l p = p by unfold skip; rw [if_pos q], Nat.max_eq_left (by omega), Nat.min_eq_right (by omega)]
      · rw [show skip l p = p + 1 by unfold skip; rw [if_neg q], Nat.max_eq_right (by omega), Nat.min_eq_left (by omega)]
        rw [show skip (p + 1) (skip l i) = skip l (skip p i) by unfold skip; (repeat' split) <;> omega]
    rw [hD]
    generalize det m (fun i j => M (skip l (skip p i)) j) = E
    by_cases q : p < l
    · rw [show skip l p = p by unfold skip; rw [if_pos q], if_pos q]
      rw [show m + 1 + l = (m + l) + 1 by omega, sgn_succ, sgn_add m l, sgn_add m p, sgn_add l p]
      have hs := sgn_sq m
      generalize sgn m = s at *
      generalize sgn l = t
      generalize sgn p = u
      have : (-(s * t)) * (M l m * ((s * u) * (M p m * E))) = (s * s) * (-1 * (t * u * (M l m * (M p m * E)))) := by
        simp only [Int.neg_mul, Int.mul_neg, Int.one_mul]
        simp only [Int.mul_assoc, Int.mul_left_comm]
      rw [this, hs]; omega
    · rw [show skip l p = p + 1 by unfold skip; rw [if_neg q], if_neg (by omega)]
      rw [show m + 1 + l = (m + l) + 1 by omega, sgn_succ, sgn_add m l, sgn_add m p, show l + (p + 1) = (l + p) + 1 by omega, sgn_succ, sgn_add l p]
      have hs := sgn_sq m
      generalize sgn m = s at *
      generalize sgn l = t
      generalize sgn p = u
      have : (-(s * t)) * (M l m * ((s * u) * (M (p + 1) m * E))) = (s * s) * (-1 * (t * u * (M l m * (M (p + 1) m * E)))) := by
        simp only [Int.neg_mul, Int.mul_neg, Int.one_mul]
        simp only [Int.mul_assoc, Int.mul_left_comm]
      rw [this, hs]
      simp only [Int.neg_mul, Int.mul_neg, Int.one_mul]
  rw [e, sm_anti]
  · intro i j hi hj
    simp only [G]
    by_cases q : i = j
    · rw [if_pos q, if_pos q.symm]; rfl
    · rw [if_neg q, if_neg (Ne.symm q)]
      have hD : D i j = D j i := by simp only [D]; rw [Nat.max_comm, Nat.min_comm]
      rw [hD, Nat.add_comm i j]
      generalize D j i = E
      rcases Nat.lt_or_ge i j with q2 | q2
      · rw [if_neg (by omega), if_pos (by omega)]
        rw [Int.mul_left_comm (M i m)]; omega
      · rw [if_pos (by omega), if_neg (by omega)]
        rw [Int.mul_left_comm (M i m)]; omega
/-- The columns k and k + 1 are others. -/
def cols2 (k : Nat) (M : Nat → Nat → Int) (u v : Nat → Int) : Nat → Nat → Int := fun i j => if j = k then u i else if j = k + 1 then v i else M i j
theorem cols2_a (k : Nat) (M : Nat → Nat → Int) (u v : Nat → Int) (i : Nat) : cols2 k M u v i k = u i := by unfold cols2; rw [if_pos rfl]
theorem cols2_b (k : Nat) (M : Nat → Nat → Int) (u v : Nat → Int) (i : Nat) : cols2 k M u v i (k + 1) = v i := by unfold cols2; rw [if_neg (by omega), if_pos rfl]
theorem cols2_c {k j : Nat} (M : Nat → Nat → Int) (u v : Nat → Int) (i : Nat) (h1 : j ≠ k) (h2 : j ≠ k + 1) : cols2 k M u v i j = M i j := by unfold cols2; rw [if_neg h1, if_neg h2]
/-- Two columns side by side are alike. -/
theorem det_adj_col {n : Nat} : ∀ {M : Nat → Nat → Int} (k : Nat), k + 1 < n → (∀ i, i < n → M i k = M i (k + 1)) → det n M = 0 := by
  induction n with
  | zero => intros; omega
  | succ n ih =>
    intro M k hk h
    by_cases e : k + 1 = n
    · subst e; exact det_last_col h
    · simp only [det]
      refine sm_zero fun l hl => ?_
      rw [ih (M := fun i j => M (skip l i) j) k (by omega) (fun i hi => h _ (skip_lt hi))]
      simp
theorem det_swp_col {n : Nat} {M : Nat → Nat → Int} (k : Nat) (hk : k + 1 < n) : det n (fun i j => M i (swp k j)) = - det n M := by
  have add1 : ∀ u u' v, det n (cols2 k M (fun j => u j + u' j) v) = det n (cols2 k M u v) + det n (cols2 k M u' v) := fun u u' v => by
    have := det_col (M := cols2 k M (fun j => u j + u' j) v) (U := cols2 k M u v) (V := cols2 k M u' v) k 1 1 (Nat.lt_of_succ_lt hk) (fun j _ => by rw [cols2_a, cols2_a, cols2_a, Int.one_mul, Int.one_mul]) (fun i j _ _ hne => by
      by_cases e : j = k + 1
      · subst e; rw [cols2_b, cols2_b, cols2_b]; exact ⟨rfl, rfl⟩
      · rw [cols2_c _ _ _ _ hne e, cols2_c _ _ _ _ hne e, cols2_c _ _ _ _ hne e]; exact ⟨rfl, rfl⟩)
    rw [this]; omega
  have add2 : ∀ u v v', det n (cols2 k M u (fun j => v j + v' j)) = det n (cols2 k M u v) + det n (cols2 k M u v') := fun u v v' => by
    have := det_col (M := cols2 k M u (fun j => v j + v' j)) (U := cols2 k M u v) (V := cols2 k M u v') (k + 1) 1 1 hk (fun j _ => by rw [cols2_b, cols2_b, cols2_b, Int.one_mul, Int.one_mul]) (fun i j _ _ hne => by
      by_cases e : j = k
      · subst e; rw [cols2_a, cols2_a, cols2_a]; exact ⟨rfl, rfl⟩
      · rw [cols2_c _ _ _ _ e hne, cols2_c _ _ _ _ e hne, cols2_c _ _ _ _ e hne]; exact ⟨rfl, rfl⟩)
    rw [this]; omega
  have same : ∀ u, det n (cols2 k M u u) = 0 := fun u => det_adj_col k hk fun j _ => by rw [cols2_a, cols2_b]
  have h := same (fun i => M i k + M i (k + 1))
  rw [add1, add2, add2, same, same] at h
  have e1 : det n (cols2 k M (fun i => M i k) (fun i => M i (k + 1))) = det n M := det_congr fun i j _ _ => by
    unfold cols2; split
    · rename_i e; rw [e]
    · split
      · rename_i e; rw [e]
      · rfl
  have e2 : det n (cols2 k M (fun i => M i (k + 1)) (fun i => M i k)) = det n (fun i j => M i (swp k j)) := det_congr fun i j _ _ => by
    unfold cols2 swp; split
    · rfl
    · split <;> rfl
  have h' : det n (cols2 k M (fun i => M i k) (fun i => M i (k + 1))) + det n (cols2 k M (fun i => M i (k + 1)) (fun i => M i k)) = 0 := by omega
  rw [e1, e2] at h'; omega
theorem det_same_col {n : Nat} : ∀ (d : Nat) {M : Nat → Nat → Int} (r : Nat), r + 1 + d < n → (∀ i, i < n → M i r = M i (r + 1 + d)) → det n M = 0 := by
  intro d
  induction d with
  | zero => intro M r h1 h2; exact det_adj_col r h1 h2
  | succ d ih =>
    intro M r h1 h2
    have := det_swp_col (M := M) (r + 1 + d) (by omega)
    have h0 : det n (fun i j => M i (swp (r + 1 + d) j)) = 0 := ih r (by omega) fun i hi => by
      show M i (swp (r + 1 + d) r) = M i (swp (r + 1 + d) (r + 1 + d))
      rw [show swp (r + 1 + d) r = r by unfold swp; rw [if_neg (by omega), if_neg (by omega)], show swp (r + 1 + d) (r + 1 + d) = r + 1 + (d + 1) by unfold swp; rw [if_pos rfl]; omega]
      exact h2 i hi
    omega
theorem det_eq_cols {n : Nat} {M : Nat → Nat → Int} (r s : Nat) (hrs : r < s) (hs : s < n) (h : ∀ i, i < n → M i r = M i s) : det n M = 0 :=
  det_same_col (s - r - 1) r (by omega) fun j hj => by rw [show r + 1 + (s - r - 1) = s by omega]; exact h j hj
/-- The corner of r rows and columns, and the row i and the column j beside. -/
def bord (A : Nat → Nat → Int) (r i j : Nat) : Nat → Nat → Int := fun x y => A (if x = r then i else x) (if y = r then j else y)
def dmin (A : Nat → Nat → Int) (r i j : Nat) : Int := det (r + 1) (bord A r i j)
/-- What the rows of the corner are multiplied with. -/
def cof (A : Nat → Nat → Int) (r i l : Nat) : Int := sgn (r + l) * det r (fun x y => A (if skip l x = r then i else skip l x) y)
theorem dmin_cof (A : Nat → Nat → Int) (r i j : Nat) : dmin A r i j = sm r (fun l => cof A r i l * A l j) + det r A * A i j := by
  show sm r _ + _ = _
  congr 1
  · refine sm_congr fun l hl => ?_
    show sgn (r + l) * (bord A r i j l r * det r _) = _
    unfold cof
    rw [det_congr (M := fun x y => bord A r i j (skip l x) y) (M' := fun x y => A (if skip l x = r then i else skip l x) y) (fun x y hx hy => by unfold bord; rw [if_neg (show ¬ y = r by omega)])]
    rw [show bord A r i j l r = A l j by unfold bord; rw [if_neg (by omega), if_pos rfl]]
    rw [Int.mul_assoc, Int.mul_comm (A l j)]
  · show sgn (r + r) * (bord A r i j r r * det r _) = _
    rw [sgn_two, Int.one_mul, show bord A r i j r r = A i j by unfold bord; rw [if_pos rfl, if_pos rfl], Int.mul_comm]
    rw [det_congr (M' := A) fun x y hx hy => by unfold bord; rw [show skip r x = x by unfold skip; rw [if_pos hx], if_neg (by omega), if_neg (by omega)]]
theorem dmin_col (A : Nat → Nat → Int) (r i j : Nat) (hj : j < r) : dmin A r i j = 0 :=
  det_eq_cols j r hj (by omega) fun x hx => by unfold bord; rw [if_neg (show ¬ j = r by omega), if_pos rfl]
/-- A multiple of row s, and of the rows below r of it some. -/
theorem det_comb {n : Nat} (M : Nat → Nat → Int) (s : Nat) (p : Int) (c : Nat → Int) (hs : s < n) : ∀ (r : Nat) (M' : Nat → Nat → Int), r ≤ s → (∀ j, j < n → M' s j = p * M s j + sm r (fun l => c l * M l j)) → (∀ i j, i < n → j < n → i ≠ s → M' i j = M i j) → det n M' = p * det n M := by
  intro r
  induction r with
  | zero =>
    intro M' _ h1 h2
    rw [det_row (M := M') (U := M) (V := M) s p 0 hs (fun j hj => by rw [h1 j hj]; simp [sm]) (fun i j hi hj hne => ⟨h2 i j hi hj hne, h2 i j hi hj hne⟩)]
    omega
  | succ r ih =>
    intro M' hr h1 h2
    rw [det_row (M := M') (U := fun i j => if i = s then p * M s j + sm r (fun l => c l * M l j) else M i j) (V := fun i j => if i = s then M r j else M i j) s 1 (c r) hs
      (fun j hj => by rw [h1 j hj, if_pos rfl, if_pos rfl]; simp only [sm]; omega)
      (fun i j hi hj hne => by rw [if_neg hne, if_neg hne]; exact ⟨h2 i j hi hj hne, h2 i j hi hj hne⟩)]
    rw [ih (fun i j => if i = s then p * M s j + sm r (fun l => c l * M l j) else M i j) (by omega) (fun j hj => by rw [if_pos rfl]) (fun i j hi hj hne => by rw [if_neg hne])]
    rw [det_eq_rows (M := fun i j => if i = s then M r j else M i j) r s (by omega) hs (fun j hj => by rw [if_pos rfl, if_neg (by omega)])]
    omega
theorem det_block1 {r : Nat} {Z : Nat → Nat → Int} (h : ∀ y, y < r → Z r y = 0) : det (r + 1) Z = det r Z * Z r r := by
  simp only [det]
  rw [sm_one (k := r) (by omega)]
  · rw [sgn_two, Int.one_mul, Int.mul_comm, det_congr (M' := Z) fun x y hx hy => by rw [show skip r x = x by unfold skip; rw [if_pos hx]]]
  · intro l hl hne
    rw [det_zero_row (M := fun i j => Z (skip l i) j) (r - 1) (by omega) (fun j hj => by show Z (skip l (r - 1)) j = 0; rw [show skip l (r - 1) = r by unfold skip; rw [if_neg (by omega)]; omega]; exact h j hj)]
    simp
theorem det_block2 {r : Nat} {Z : Nat → Nat → Int} (h : ∀ y, y < r → Z r y = 0) (h' : ∀ y, y < r → Z (r + 1) y = 0) : det (r + 2) Z = det r Z * (Z r r * Z (r + 1) (r + 1) - Z (r + 1) r * Z r (r + 1)) := by
  show sm (r + 2) (fun l => sgn (r + 1 + l) * (Z l (r + 1) * det (r + 1) (fun i j => Z (skip l i) j))) = _
  rw [sm_two (k := r) (l := r + 1) (by omega) (by omega) (by omega)]
  · rw [show r + 1 + r = (r + r) + 1 by omega, sgn_succ, sgn_two, sgn_two]
    rw [det_block1 (Z := fun i j => Z (skip r i) j) (fun y hy => by show Z (skip r r) y = 0; rw [show skip r r = r + 1 by unfold skip; rw [if_neg (by omega)]]; exact h' y hy)]
    rw [det_block1 (Z := fun i j => Z (skip (r + 1) i) j) (fun y hy => by show Z (skip (r + 1) r) y = 0; rw [show skip (r + 1) r = r by unfold skip; rw [if_pos (by omega)]]; exact h y hy)]
    rw [show skip r r = r + 1 by unfold skip; rw [if_neg (by omega)], show skip (r + 1) r = r by unfold skip; rw [if_pos (by omega)]]
    rw [det_congr (M := fun i j => Z (skip r i) j) (M' := Z) fun x y hx hy => by rw [show skip r x = x by unfold skip; rw [if_pos hx]]]
    rw [det_congr (M := fun i j => Z (skip (r + 1) i) j) (M' := Z) fun x y hx hy => by rw [show skip (r + 1) x = x by unfold skip; rw [if_pos (by omega)]]]
    generalize det r Z = D
    rw [Int.mul_sub, Int.mul_left_comm (Z r (r + 1)), Int.mul_left_comm (Z (r + 1) (r + 1)), Int.mul_comm (Z r (r + 1)), Int.mul_comm (Z (r + 1) (r + 1))]
    omega
  · intro l hl h1 h2
    rw [det_block1 (Z := fun i j => Z (skip l i) j) (fun y hy => by show Z (skip l r) y = 0; rw [show skip l r = r + 1 by unfold skip; rw [if_neg (by omega)]]; exact h' y hy)]
    rw [det_zero_row (n := r) (M := fun i j => Z (skip l i) j) (r - 1) (by omega) (fun y hy => by show Z (skip l (r - 1)) y = 0; rw [show skip l (r - 1) = r by unfold skip; rw [if_neg (by omega)]; omega]; exact h y hy)]
    simp
/-- Sylvester's identity, where the corner is regular. -/
theorem sylvester (A : Nat → Nat → Int) (r i j : Nat) (hp : det r A ≠ 0) : det r A * dmin A (r + 1) i j = dmin A r r r * dmin A r i j - dmin A r i r * dmin A r r j := by
  let col : Nat → Nat := fun y => if y = r + 1 then j else y
  let X := bord A (r + 1) i j
  let Y : Nat → Nat → Int := fun x y => if x = r then dmin A r r (col y) else X x y
  let Z : Nat → Nat → Int := fun x y => if x = r + 1 then dmin A r i (col y) else Y x y
  have hX : ∀ x y, x < r + 1 → X x y = A x (col y) := fun x y hx => by simp only [X, bord]; rw [if_neg (by omega)]
  have hY : det (r + 2) Y = det r A * det (r + 2) X := det_comb X r (det r A) (cof A r r) (by omega) r Y (Nat.le_refl _)
    (fun y hy => by
      simp only [Y]; rw [if_pos trivial, dmin_cof, hX r y (by omega), Int.add_comm]
      congr 1
      exact sm_congr fun l hl => by rw [hX l y (by omega)])
    (fun x y hx hy hne => by simp only [Y]; rw [if_neg hne])
  have hZ : det (r + 2) Z = det r A * det (r + 2) Y := det_comb Y (r + 1) (det r A) (cof A r i) (by omega) r Z (by omega)
    (fun y hy => by
      simp only [Z]; rw [if_pos trivial, dmin_cof, Int.add_comm]
      congr 1
      · simp only [Y]; rw [if_neg (by omega)]; simp only [X, bord]; rw [if_pos trivial]
      · exact sm_congr fun l hl => by simp only [Y]; rw [if_neg (by omega), hX l y (by omega)])
    (fun x y hx hy hne => by simp only [Z]; rw [if_neg hne])
  have hb := det_block2 (r := r) (Z := Z)
    (fun y hy => by simp only [Z, Y]; rw [if_neg (by omega), if_pos trivial]; simp only [col]; rw [if_neg (by omega)]; exact dmin_col A r r y hy)
    (fun y hy => by simp only [Z]; rw [if_pos trivial]; simp only [col]; rw [if_neg (by omega)]; exact dmin_col A r i y hy)
  have hc : det r Z = det r A := det_congr fun x y hx hy => by simp only [Z, Y]; rw [if_neg (by omega), if_neg (by omega), hX x y (by omega)]; simp only [col]; rw [if_neg (by omega)]
  have e1 : Z r r = dmin A r r r := by simp only [Z, Y]; rw [if_neg (by omega), if_pos trivial]; simp only [col]; rw [if_neg (by omega)]
  have e2 : Z (r + 1) (r + 1) = dmin A r i j := by simp only [Z]; rw [if_pos trivial]; simp only [col]; rw [if_pos trivial]
  have e3 : Z (r + 1) r = dmin A r i r := by simp only [Z]; rw [if_pos trivial]; simp only [col]; rw [if_neg (by omega)]
  have e4 : Z r (r + 1) = dmin A r r j := by simp only [Z, Y]; rw [if_neg (by omega), if_pos trivial]; simp only [col]; rw [if_pos trivial]
  rw [hc, e1, e2, e3, e4, hZ, hY] at hb
  exact Int.eq_of_mul_eq_mul_left hp hb
theorem dmin_corner (A : Nat → Nat → Int) (r : Nat) : dmin A r r r = det (r + 1) A :=
  det_congr fun x y hx hy => by
    unfold bord
    rw [show (if x = r then r else x) = x by split <;> omega, show (if y = r then r else y) = y by split <;> omega]
theorem dmin_zero (A : Nat → Nat → Int) (i j : Nat) : dmin A 0 i j = A i j := by
  unfold dmin det sm bord; simp [sm, det, sgn]
def fct : Nat → Nat
  | 0 => 1
  | n + 1 => (n + 1) * fct n
theorem sm_bound {n B : Nat} {f : Nat → Int} (h : ∀ i, i < n → (f i).natAbs ≤ B) : (sm n f).natAbs ≤ n * B := by
  induction n with
  | zero => simp [sm]
  | succ n ih =>
    simp only [sm]
    have h1 := ih fun i hi => h i (by omega)
    have h2 := h n (by omega)
    have h3 := Int.natAbs_add_le (sm n f) (f n)
    rw [Nat.succ_mul]; omega
theorem sgn_abs (k : Nat) : (sgn k).natAbs = 1 := by unfold sgn; split <;> rfl
theorem det_bound {n B : Nat} : ∀ {M : Nat → Nat → Int}, (∀ i j, i < n → j < n → (M i j).natAbs ≤ B) → (det n M).natAbs ≤ fct n * B ^ n := by
  induction n with
  | zero => intro M h; simp [det, fct]
  | succ n ih =>
    intro M h
    simp only [det]
    have : fct (n + 1) * B ^ (n + 1) = (n + 1) * (B * (fct n * B ^ n)) := by
      rw [fct, Nat.pow_succ]; simp only [Nat.mul_assoc, Nat.mul_left_comm, Nat.mul_comm]
    rw [this]
    refine sm_bound fun l hl => ?_
    rw [Int.natAbs_mul, sgn_abs, Nat.one_mul, Int.natAbs_mul]
    exact Nat.mul_le_mul (h l n hl (by omega)) (ih fun i j hi hj => h _ _ (skip_lt hi) (by omega))
theorem dmin_bound {n B : Nat} {A : Nat → Nat → Int} (h : ∀ i j, i < n → j < n → (A i j).natAbs ≤ B) {r i j : Nat} (hi : i < n) (hj : j < n) (hr : r < n) : (dmin A r i j).natAbs ≤ fct (r + 1) * B ^ (r + 1) :=
  det_bound fun x y hx hy => by unfold bord; exact h _ _ (by split <;> omega) (by split <;> omega)
end Go.Proofs.YtiihnoelclnahaaGreatDoor
namespace Go.Proofs.YtiihnoelclnahaaGreatDoor
open Go.RowKit
set_option linter.unusedVariables false
theorem fitZ_small {z : Int} (h : z.natAbs < 2 ^ 4096) : fitZ z = z := by unfold fitZ; rw [if_pos ((bitsN_le _ _).2 h)]
theorem exactZ_mul {b c : Int} (hb : b ≠ 0) : exactZ (b * c) b = c := by
  unfold exactZ
  rw [if_neg hb, if_pos (Int.mul_emod_right _ _), Int.mul_ediv_cancel_left _ hb]
theorem fct_bound {r : Nat} (h : r < 8) : fct (r + 1) * 16384 ^ (r + 1) ≤ 2 ^ 128 := by
  have : r = 0 ∨ r = 1 ∨ r = 2 ∨ r = 3 ∨ r = 4 ∨ r = 5 ∨ r = 6 ∨ r = 7 := by omega
  rcases this with rfl | rfl | rfl | rfl | rfl | rfl | rfl | rfl <;> decide
theorem pow_big_of (a b : Nat) (h : a + a + 1 < b) : 2 ^ a * 2 ^ a + 2 ^ a * 2 ^ a < 2 ^ b := by
  rw [← Nat.pow_add, ← Nat.mul_two, ← Nat.pow_succ]; exact Nat.pow_lt_pow_right (by omega) h
theorem pow_big : 2 ^ 128 * 2 ^ 128 + 2 ^ 128 * 2 ^ 128 < 2 ^ 4096 := pow_big_of 128 4096 (by omega)
/-- One step of Bareiss's rule, of small numbers. -/
theorem bar_num {a b c d last x : Int} (ha : a.natAbs ≤ 2 ^ 128) (hb : b.natAbs ≤ 2 ^ 128) (hc : c.natAbs ≤ 2 ^ 128) (hd : d.natAbs ≤ 2 ^ 128) (hl : last ≠ 0) (h : last * x = a * b - c * d) :
    exactZ (fitZ (fitZ (a * b) - fitZ (c * d))) last = x := by
  have h1 : (a * b).natAbs ≤ 2 ^ 128 * 2 ^ 128 := by rw [Int.natAbs_mul]; exact Nat.mul_le_mul ha hb
  have h2 : (c * d).natAbs ≤ 2 ^ 128 * 2 ^ 128 := by rw [Int.natAbs_mul]; exact Nat.mul_le_mul hc hd
  have h3 : (a * b - c * d).natAbs ≤ (a * b).natAbs + (c * d).natAbs := by
    have := Int.natAbs_add_le (a * b) (-(c * d)); rw [Int.natAbs_neg] at this; rw [Int.sub_eq_add_neg]; exact this
  have q : ∀ z : Int, z.natAbs ≤ 2 ^ 128 * 2 ^ 128 + 2 ^ 128 * 2 ^ 128 → fitZ z = z := fun z hz => fitZ_small (Nat.lt_of_le_of_lt hz pow_big)
  generalize (2 : Nat) ^ 128 * 2 ^ 128 = B at *
  rw [q (a * b) (by omega), q (c * d) (by omega), q (a * b - c * d) (by omega), ← h]
  exact exactZ_mul hl
/-- Small numbers in n rows. -/
def SmallM (n : Nat) (A : Nat → Nat → Int) : Prop := ∀ i j, i < n → j < n → (A i j).natAbs ≤ 16384
theorem SmallM.dmin {n : Nat} {A : Nat → Nat → Int} (h : SmallM n A) (hn : n ≤ 8) {r i j : Nat} (hi : i < n) (hj : j < n) (hr : r < n) : (dmin A r i j).natAbs ≤ 2 ^ 128 :=
  Nat.le_trans (dmin_bound h hi hj hr) (fct_bound (by omega))
theorem barPos_det {n : Nat} {A : Nat → Nat → Int} (hA : SmallM n A) (hn : n ≤ 8) : ∀ (fuel r : Nat) (last : Int) (m : Nat → Nat → Int), r + fuel = n → last = det r A → last ≠ 0 → (∀ i k, r ≤ i → i < n → r ≤ k → k < n → m i k = dmin A r i k) →
    (barPos n fuel r last m = true ↔ ∀ k, r ≤ k → k < n → 0 < det (k + 1) A) := by
  intro fuel
  induction fuel with
  | zero => intro r last m hr _ _ _; unfold barPos; exact ⟨fun _ k h1 h2 => by omega, fun _ => rfl⟩
  | succ fuel ih =>
    intro r last m hr hl h0 hm
    unfold barPos
    have e : m r r = det (r + 1) A := by rw [hm r r (by omega) (by omega) (by omega) (by omega), dmin_corner]
    by_cases hp : m r r ≤ 0
    · rw [if_pos hp]
      exact ⟨(fun h => by cases h), (fun h => by have := h r (by omega) (by omega); omega)⟩
    · rw [if_neg hp]
      rw [ih (r + 1) (m r r) (barStep n r last m) (by omega) e (by omega) (fun i k h1 h2 h3 h4 => by
        unfold barStep
        rw [if_pos ⟨by omega, h2, by omega, h4⟩]
        unfold barNew
        rw [hm r r (by omega) (by omega) (by omega) (by omega), hm i k (by omega) h2 (by omega) h4, hm i r (by omega) h2 (by omega) (by omega), hm r k (by omega) (by omega) (by omega) h4]
        refine bar_num (hA.dmin hn (by omega) (by omega) (by omega)) (hA.dmin hn h2 h4 (by omega)) (hA.dmin hn h2 (by omega) (by omega)) (hA.dmin hn (by omega) h4 (by omega)) h0 ?_
        rw [hl]; exact sylvester A r i k (by rw [← hl]; exact h0))]
      constructor
      · intro h k h1 h2
        by_cases q : k = r
        · subst q; omega
        · exact h k (by omega) h2
      · intro h k h1 h2; exact h k (by omega) h2
theorem posB_det {n : Nat} {A : Nat → Nat → Int} (hA : SmallM n A) (hn : n ≤ 8) : posB n A = true ↔ ∀ k, k < n → 0 < det (k + 1) A := by
  unfold posB
  rw [barPos_det hA hn n 0 1 A (by omega) rfl (by decide) (fun i k _ _ _ _ => (dmin_zero A i k).symm)]
  exact ⟨fun h k hk => h k (by omega) hk, fun h k _ hk => h k hk⟩
end Go.Proofs.YtiihnoelclnahaaGreatDoor
namespace Go.Proofs.YtiihnoelclnahaaGreatDoor
open Go.RowKit Go.Proofs.YtiihnoelclnahaaGreatDoorW.PrintWords Go.Proofs.YtiihnoelclnahaaGreatDoor.Ref
set_option linter.unusedVariables false
set_option linter.unusedSimpArgs false
theorem IsRI.setBox {w : World} {neg : Bool} {A : Option Addr} {k c : Nat} {z : Int} (h : IsRI w neg A k c z) {b o : Nat} {a' : Option Addr} {m c' : Nat} (hc : w.cell? ⟨b, o, none⟩ = some (.slice a' m c')) (u : Value) : IsRI (w.setCell ⟨b, o, none⟩ u) neg A k c z := ⟨h.nat.setBox hc u, h.sign⟩
theorem IsRI.setBool {w : World} {neg : Bool} {A : Option Addr} {k c : Nat} {z : Int} (h : IsRI w neg A k c z) {b o : Nat} {x : Bool} (hc : w.cell? ⟨b, o, none⟩ = some (.bool x)) (u : Value) : IsRI (w.setCell ⟨b, o, none⟩ u) neg A k c z := ⟨h.nat.setBool hc u, h.sign⟩
theorem IsRI.typed {w w' : World} {neg : Bool} {A : Option Addr} {k c : Nat} {z : Int} (h : IsRI w neg A k c z) (hk : ∀ b, TB w 145 b → w'.heap[b]? = w.heap[b]?) : IsRI w' neg A k c z := ⟨h.nat.typed hk, h.sign⟩
/-- A block of n whole numbers. -/
structure RRow (w : World) (h n : Nat) (f : Nat → Int) : Prop where
  cells : ∀ j, j < n → ∃ neg A k c, w.cell? ⟨h, j * 2, none⟩ = some (.bool neg) ∧ w.cell? ⟨h, j * 2 + 1, none⟩ = some (.slice A k c) ∧ IsRI w neg A k c (f j)
  free : ∀ o, w.frozen? ⟨h, o, none⟩ = false
  typ : TB w 82 h
theorem RRow.lt {w : World} {h n : Nat} {f : Nat → Int} (r : RRow w h n f) : h < w.heap.size := r.typ.lt
theorem RRow.ext {w w' : World} {h n : Nat} {f : Nat → Int} (r : RRow w h n f) (hb : Ext w w') : RRow w' h n f := by
  refine ⟨fun j hj => ?_, fun o => hb.free (r.free o) r.lt, r.typ.of_eq (hb.block h r.lt)⟩
  obtain ⟨neg, A, k, c, h1, h2, h3⟩ := r.cells j hj
  exact ⟨neg, A, k, c, hb.cell h1, hb.cell h2, h3.ext hb⟩
theorem RRow.congr {w : World} {h n : Nat} {f g : Nat → Int} (r : RRow w h n f) (e : ∀ j, j < n → f j = g j) : RRow w h n g := by
  refine ⟨fun j hj => ?_, r.free, r.typ⟩
  rw [← e j hj]; exact r.cells j hj
/-- Two cells of a block are set to a number. -/
def setRI (w : World) (h o : Nat) (neg : Bool) (A : Option Addr) (k c : Nat) : World := (w.setCell ⟨h, o, none⟩ (.bool neg)).setCell ⟨h, o + 1, none⟩ (.slice A k c)
theorem setRI_is {w : World} {h o : Nat} {neg neg0 : Bool} {A A0 : Option Addr} {k c k0 m0 : Nat} {ng : Bool} {B : Option Addr} {m c' : Nat} {z : Int} (h1 : w.cell? ⟨h, o, none⟩ = some (.bool neg0)) (h2 : w.cell? ⟨h, o + 1, none⟩ = some (.slice A0 k0 m0)) (hi : IsRI w ng B m c' z) :
    IsRI (setRI w h o neg A k c) ng B m c' z := by
  unfold setRI
  refine (hi.setBool h1 _).setBox (a' := A0) (m := k0) (c' := m0) ?_ _
  rw [World.cell?_setCell_other _ _ _ _ (by intro e; injection e with e1 e2; omega)]; exact h2
theorem setRI_same {w : World} {h o : Nat} {neg neg0 : Bool} {A A0 : Option Addr} {k c k0 m0 : Nat} (h1 : w.cell? ⟨h, o, none⟩ = some (.bool neg0)) (h2 : w.cell? ⟨h, o + 1, none⟩ = some (.slice A0 k0 m0)) :
    (setRI w h o neg A k c).cell? ⟨h, o, none⟩ = some (.bool neg) ∧ (setRI w h o neg A k c).cell? ⟨h, o + 1, none⟩ = some (.slice A k c) := by
  unfold setRI
  refine ⟨?_, ?_⟩
  · rw [World.cell?_setCell_other _ _ _ _ (by intro e; injection e with e1 e2; omega)]; exact setc h1
  · refine setc (u := .slice A0 k0 m0) ?_
    rw [World.cell?_setCell_other _ _ _ _ (by intro e; injection e with e1 e2; omega)]; exact h2
theorem setRI_other {w : World} {h o : Nat} {neg : Bool} {A : Option Addr} {k c : Nat} {b o' : Nat} (hne : b = h → o' ≠ o ∧ o' ≠ o + 1) : (setRI w h o neg A k c).cell? ⟨b, o', none⟩ = w.cell? ⟨b, o', none⟩ := by
  unfold setRI
  rw [World.cell?_setCell_other _ _ _ _ (by intro e; injection e with e1 e2; have := hne e1.symm; omega), World.cell?_setCell_other _ _ _ _ (by intro e; injection e with e1 e2; have := hne e1.symm; omega)]
theorem setRI_frozen {w : World} {h o : Nat} {neg : Bool} {A : Option Addr} {k c : Nat} {p : Addr} : (setRI w h o neg A k c).frozen? p = w.frozen? p := by
  unfold setRI; rw [World.frozen?_setCell, World.frozen?_setCell]
theorem setRI_typ {w : World} {h o : Nat} {neg : Bool} {A : Option Addr} {k c : Nat} {t : TypeId} {b : Nat} (ht : TB w t b) : TB (setRI w h o neg A k c) t b := by
  unfold setRI; exact (ht.set_ _ _).set_ _ _
theorem setRI_ext {a w : World} {h o : Nat} {neg : Bool} {A : Option Addr} {k c : Nat} (hx : Ext a w) (hh : a.heap.size ≤ h) : Ext a (setRI w h o neg A k c) := by
  unfold setRI; exact (hx.setCell (p := ⟨h, o, none⟩) hh _).setCell (p := ⟨h, o + 1, none⟩) hh _
theorem RRow.set_ {w : World} {h n : Nat} {f : Nat → Int} (r : RRow w h n f) {j : Nat} (hj : j < n) {neg : Bool} {A : Option Addr} {k c : Nat} {z : Int} (hz : IsRI w neg A k c z) :
    RRow (setRI w h (j * 2) neg A k c) h n (fun i => if i = j then z else f i) := by
  obtain ⟨neg0, A0, k0, c0, g1, g2, _⟩ := r.cells j hj
  refine ⟨fun i hi => ?_, fun o => by rw [setRI_frozen]; exact r.free o, setRI_typ r.typ⟩
  by_cases e : i = j
  · subst e
    rw [if_pos rfl]
    have hs := setRI_same (neg := neg) (A := A) (k := k) (c := c) g1 g2
    exact ⟨neg, A, k, c, hs.1, hs.2, setRI_is g1 g2 hz⟩
  · rw [if_neg e]
    obtain ⟨neg1, A1, k1, c1, h1, h2, h3⟩ := r.cells i hi
    exact ⟨neg1, A1, k1, c1, by rw [setRI_other (fun _ => by omega)]; exact h1, by rw [setRI_other (fun _ => by omega)]; exact h2, setRI_is g1 g2 h3⟩
/-- A store into another block. -/
theorem RRow.far {w : World} {h n : Nat} {f : Nat → Int} (r : RRow w h n f) {b o : Nat} (hb : b ≠ h) {neg0 : Bool} {A0 : Option Addr} {k0 m0 : Nat} {neg : Bool} {A : Option Addr} {k c : Nat}
    (h1 : w.cell? ⟨b, o, none⟩ = some (.bool neg0)) (h2 : w.cell? ⟨b, o + 1, none⟩ = some (.slice A0 k0 m0)) : RRow (setRI w b o neg A k c) h n f := by
  refine ⟨fun i hi => ?_, fun o => by rw [setRI_frozen]; exact r.free o, setRI_typ r.typ⟩
  obtain ⟨neg1, A1, k1, c1, g1, g2, g3⟩ := r.cells i hi
  exact ⟨neg1, A1, k1, c1, by rw [setRI_other (fun e => absurd e.symm hb)]; exact g1, by rw [setRI_other (fun e => absurd e.symm hb)]; exact g2, setRI_is h1 h2 g3⟩
theorem RRow.typed {w w' : World} {h n : Nat} {f : Nat → Int} (r : RRow w h n f) (e : w'.heap[h]? = w.heap[h]?) (hk : ∀ b, TB w 145 b → w'.heap[b]? = w.heap[b]?) : RRow w' h n f := by
  refine ⟨fun j hj => ?_, fun o => by rw [frozen_eq e]; exact r.free o, r.typ.of_eq e⟩
  obtain ⟨neg, A, k, c, h1, h2, h3⟩ := r.cells j hj
  exact ⟨neg, A, k, c, by rw [cell_eq e]; exact h1, by rw [cell_eq e]; exact h2, h3.typed hk⟩
/-- The rows of a square matrix: g holds the n slices; row i lies in the block h i. -/
structure MatR (w : World) (lo g n : Nat) (h cp : Nat → Nat) (m : Nat → Nat → Int) : Prop where
  rows : ∀ i, i < n → w.cell? ⟨g, i, none⟩ = some (.slice (some ⟨h i, 0, none⟩) n (cp i))
  cap : ∀ i, i < n → n ≤ cp i
  row : ∀ i, i < n → RRow w (h i) n (m i)
  inj : ∀ i j, i < n → j < n → h i = h j → i = j
  low : ∀ i, i < n → lo ≤ h i
  glow : lo ≤ g
  typ : TB w 153 g
theorem MatR.ext {w w' : World} {lo g n : Nat} {h cp : Nat → Nat} {m : Nat → Nat → Int} (M : MatR w lo g n h cp m) (hx : Ext w w') : MatR w' lo g n h cp m :=
  ⟨fun i hi => hx.cell (M.rows i hi), M.cap, fun i hi => (M.row i hi).ext hx, M.inj, M.low, M.glow, M.typ.of_eq (Below.block hx g M.typ.lt)⟩
theorem MatR.ne {w : World} {lo g n : Nat} {h cp : Nat → Nat} {m : Nat → Nat → Int} (M : MatR w lo g n h cp m) {i : Nat} (hi : i < n) : h i ≠ g := (M.row i hi).typ.ne M.typ (by decide)
theorem MatR.set_ {w : World} {lo g n : Nat} {h cp : Nat → Nat} {m : Nat → Nat → Int} (M : MatR w lo g n h cp m) {i j : Nat} (hi : i < n) (hj : j < n) {neg : Bool} {A : Option Addr} {k c : Nat} {z : Int} (hz : IsRI w neg A k c z) :
    MatR (setRI w (h i) (j * 2) neg A k c) lo g n h cp (fun a b => if a = i ∧ b = j then z else m a b) := by
  obtain ⟨neg0, A0, k0, c0, g1, g2, _⟩ := (M.row i hi).cells j hj
  refine ⟨fun a ha => ?_, M.cap, fun a ha => ?_, M.inj, M.low, M.glow, setRI_typ M.typ⟩
  · rw [setRI_other (fun e => absurd e.symm (M.ne hi))]; exact M.rows a ha
  · by_cases e : a = i
    · subst e
      exact ((M.row a ha).set_ hj hz).congr fun b hb => by by_cases e : b = j <;> simp [e]
    · exact ((M.row a ha).far (b := h i) (o := j * 2) (fun e' => e (M.inj _ _ ha hi e'.symm)) g1 g2).congr fun b hb => by simp [e]
/-- The rows of a matrix that is only read. -/
structure InR (w : World) (A : Option Addr) (n : Nat) (f : Nat → Nat → Int) : Prop where
  row : ∀ i, i < n → ∃ b off R c, A = some ⟨b, off, none⟩ ∧ w.cell? ⟨b, off + i, none⟩ = some (.slice R n c) ∧ n ≤ c ∧
    (∀ j, j < n → ∃ h o neg B k cc, R = some ⟨h, o, none⟩ ∧ w.cell? ⟨h, o + j * 2, none⟩ = some (.bool neg) ∧ w.cell? ⟨h, o + j * 2 + 1, none⟩ = some (.slice B k cc) ∧ IsRI w neg B k cc (f i j))
theorem InR.ext {w w' : World} {A : Option Addr} {n : Nat} {f : Nat → Nat → Int} (h : InR w A n f) (hx : Ext w w') : InR w' A n f := by
  refine ⟨fun i hi => ?_⟩
  obtain ⟨b, off, R, c, e, h1, h2, h3⟩ := h.row i hi
  refine ⟨b, off, R, c, e, hx.cell h1, h2, fun j hj => ?_⟩
  obtain ⟨h', o, neg, B, k, cc, e', g1, g2, g3⟩ := h3 j hj
  exact ⟨h', o, neg, B, k, cc, e', hx.cell g1, hx.cell g2, g3.ext hx⟩
theorem Tryz.infoR : (Tryz.prog.info? 82).map (fun i => (i.zero, i.size, i.bytes)) = some (some (.agg #[.bool false, .slice none 0 0]), 2, 32) := by kernel_rfl
theorem Tryz.infoRs : (Tryz.prog.info? 153).map (fun i => (i.zero, i.size, i.bytes)) = some (some (.slice none 0 0), 1, 24) := by kernel_rfl
theorem RRow.new1 {w : World} {nx : Bool} {Ax : Option Addr} {kx cx : Nat} {z : Int} (hi : IsRI w nx Ax kx cx z) : RRow (w.alloc (.cells #[.bool nx, .slice Ax kx cx] 82)) w.heap.size 1 (fun _ => z) := by
  have hh := heap_new w (.cells #[.bool nx, .slice Ax kx cx] 82)
  refine ⟨fun j hj => ?_, fun o => by simp only [World.frozen?, hh]; rfl, ⟨_, _, hh⟩⟩
  obtain rfl : j = 0 := by omega
  exact ⟨nx, Ax, kx, cx, by rw [cell_of_row _ _ _ _ _ _ hh]; rfl, by rw [cell_of_row _ _ _ _ _ _ hh]; rfl, hi.ext ((Ext.refl w).alloc _)⟩
theorem newboxR {w w4 : World} (hx : Ext (w.alloc (.cells #[.bool false, .slice none 0 0] 82)).drew w4) : w4.cell? ⟨w.heap.size, 0, none⟩ = some (.bool false) ∧ w4.cell? ⟨w.heap.size, 1, none⟩ = some (.slice none 0 0) ∧
    w4.frozen? ⟨w.heap.size, 0, none⟩ = false ∧ w4.frozen? ⟨w.heap.size, 1, none⟩ = false ∧ Hid (TB w4 82 w.heap.size ∧ ∀ o, w4.frozen? ⟨w.heap.size, o, none⟩ = false) := by
  have hh : (w.alloc (.cells #[.bool false, .slice none 0 0] 82)).drew.heap[w.heap.size]? = some (.cells #[.bool false, .slice none 0 0] 82) := heap_new _ _
  have h0 : w.heap.size < (w.alloc (.cells #[.bool false, .slice none 0 0] 82)).drew.heap.size := by simp [World.drew]
  have e := Below.block hx w.heap.size h0
  have hh4 := e.trans hh
  refine ⟨by rw [cell_of_row _ _ _ _ _ _ hh4]; rfl, by rw [cell_of_row _ _ _ _ _ _ hh4]; rfl, by simp only [World.frozen?, hh4]; rfl, by simp only [World.frozen?, hh4]; rfl, ⟨⟨_, _, hh4⟩, fun o => by simp only [World.frozen?, hh4]; rfl⟩⟩
theorem RRow.put1 {w : World} {b : Nat} {nx n0 : Bool} {Ax A0 : Option Addr} {kx cx k0 m0 : Nat} {z : Int} (hi : IsRI w nx Ax kx cx z) (d1 : w.cell? ⟨b, 0, none⟩ = some (.bool n0)) (d2 : w.cell? ⟨b, 1, none⟩ = some (.slice A0 k0 m0)) (d5 : Hid (TB w 82 b ∧ ∀ o, w.frozen? ⟨b, o, none⟩ = false)) :
    RRow ((w.setCell ⟨b, 0, none⟩ (.bool nx)).setCell ⟨b, 1, none⟩ (.slice Ax kx cx)) b 1 (fun _ => z) := by
  have hs := setRI_same (neg := nx) (A := Ax) (k := kx) (c := cx) d1 d2
  refine ⟨fun j hj => ?_, fun o => ?_, (d5.out.1.set_ _ _).set_ _ _⟩
  · obtain rfl : j = 0 := by omega
    exact ⟨nx, Ax, kx, cx, hs.1, hs.2, setRI_is d1 d2 hi⟩
  · rw [World.frozen?_setCell, World.frozen?_setCell]; exact d5.out.2 o
theorem RRow.one {w : World} {b : Nat} {z : Int} (h : RRow w b 1 (fun _ => z)) : ∃ neg A k c, w.cell? ⟨b, 0, none⟩ = some (.bool neg) ∧ w.cell? ⟨b, 1, none⟩ = some (.slice A k c) ∧ IsRI w neg A k c z := h.cells 0 (by omega)
end Go.Proofs.YtiihnoelclnahaaGreatDoor
namespace Go.Proofs.YtiihnoelclnahaaGreatDoor
open Go.RowKit Go.Proofs.YtiihnoelclnahaaGreatDoorW.PrintWords Go.Proofs.YtiihnoelclnahaaGreatDoor.Ref
set_option linter.unusedVariables false
set_option linter.unusedSimpArgs false
theorem columns_any (A : Option Addr) (n c : Nat) (f : Nat → Nat → Int) (w : World) (hn : 1 ≤ n) (hn8 : n ≤ 100) (h : InR w A n f) :
    Calls Tryz.prog 107 #[.slice A n c] w fun e w' => e = .returned (.int .i64 n) ∧ Ext w w' := by
  obtain ⟨b, off, R, c', rfl, h1, h2, _⟩ := h.row 0 (by omega)
  rw [Nat.add_zero] at h1
  have hb := lt_of_cell h1
  have d1 : ((n : Int) == 0) = false := by rw [beq_eq_false_iff_ne]; omega
  clear h
  go_enter Tryz.func107, Tryz.ntmps107
  go_wp2
  go_ret
  exact ⟨rfl, (Ext.refl w)⟩
/-- The loop that copies: i rows are laid. -/
structure CpInv (w0 wr : World) (n i : Nat) (v : Value) (h cp : Nat → Nat) (m : Nat → Nat → Int) : Prop where
  own : wr.ownsRow w0.heap.size 153 1 v i ((List.range i).map fun j => Value.slice (some ⟨h j, 0, none⟩) n (cp j))
  cap : ∀ j, j < i → n ≤ cp j
  row : ∀ j, j < i → RRow wr (h j) n (m j)
  inj : ∀ j k, j < i → k < i → h j = h k → j = k
  low : ∀ j, j < i → w0.heap.size ≤ h j
  ext : Ext w0 wr
/-- The cells of a row that is only read. -/
def inCells (neg : Nat → Bool) (B : Nat → Option Addr) (k c : Nat → Nat) : Nat → List Value
  | 0 => []
  | n + 1 => inCells neg B k c n ++ [.bool (neg n), .slice (B n) (k n) (c n)]
theorem inCells_len (neg : Nat → Bool) (B : Nat → Option Addr) (k c : Nat → Nat) (n : Nat) : (inCells neg B k c n).length = n * 2 := by
  induction n with
  | zero => rfl
  | succ n ih => simp only [inCells, List.length_append, ih, List.length_cons, List.length_nil]; omega
theorem inCells_at (neg : Nat → Bool) (B : Nat → Option Addr) (k c : Nat → Nat) (n j : Nat) (hj : j < n) : (inCells neg B k c n)[j * 2]? = some (.bool (neg j)) ∧ (inCells neg B k c n)[j * 2 + 1]? = some (.slice (B j) (k j) (c j)) := by
  induction n with
  | zero => omega
  | succ n ih =>
    simp only [inCells]
    by_cases e : j = n
    · subst e
      rw [List.getElem?_append_right (by rw [inCells_len]; omega), List.getElem?_append_right (by rw [inCells_len]; omega), inCells_len]
      simp [show j * 2 + 1 - j * 2 = 1 by omega]
    · have := ih (by omega)
      rw [List.getElem?_append_left (by rw [inCells_len]; omega), List.getElem?_append_left (by rw [inCells_len]; omega)]
      exact this
theorem inCells_one (neg : Nat → Bool) (B : Nat → Option Addr) (k c : Nat → Nat) (n : Nat) : ∀ u ∈ inCells neg B k c n, u.oneCell' = true := by
  induction n with
  | zero => intro u hu; cases hu
  | succ n ih =>
    intro u hu
    simp only [inCells, List.mem_append, List.mem_cons, List.not_mem_nil, or_false] at hu
    rcases hu with hu | rfl | rfl
    · exact ih u hu
    · rfl
    · rfl
/-- A row that is only read, its cells in order. -/
theorem InR.cells {w : World} {A : Option Addr} {n : Nat} {f : Nat → Nat → Int} (H : InR w A n f) (hn : 1 ≤ n) {i : Nat} (hi : i < n) :
    ∃ b off g o cc neg B k c, A = some ⟨b, off, none⟩ ∧ w.cell? ⟨b, off + i, none⟩ = some (.slice (some ⟨g, o, none⟩) n cc) ∧ n ≤ cc ∧
      (∀ j u, (inCells neg B k c n)[j]? = some u → w.cell? ⟨g, o + j, none⟩ = some u) ∧ (∀ j, j < n → IsRI w (neg j) (B j) (k j) (c j) (f i j)) := by
  obtain ⟨b, off, R, cc, e, h1, h2, h3⟩ := H.row i hi
  obtain ⟨g, o, _, _, _, _, e1, _⟩ := h3 0 (by omega)
  have h4 : ∀ j : Nat, ∃ (neg : Bool) (B : Option Addr) (k c : Nat), j < n → w.cell? ⟨g, o + j * 2, none⟩ = some (.bool neg) ∧ w.cell? ⟨g, o + j * 2 + 1, none⟩ = some (.slice B k c) ∧ IsRI w neg B k c (f i j) := fun j => by
    by_cases hj : j < n
    · obtain ⟨g', o', neg, B, k, c, e2, q1, q2, q3⟩ := h3 j hj
      rw [e1] at e2
      injection e2 with e2
      injection e2 with e3 e4
      subst e3; subst e4
      exact ⟨neg, B, k, c, fun _ => ⟨q1, q2, q3⟩⟩
    · exact ⟨false, none, 0, 0, fun h => absurd h hj⟩
  let neg := fun j => Classical.choose (h4 j)
  have h5 := fun j => Classical.choose_spec (h4 j)
  let B := fun j => Classical.choose (h5 j)
  have h6 := fun j => Classical.choose_spec (h5 j)
  let k := fun j => Classical.choose (h6 j)
  have h7 := fun j => Classical.choose_spec (h6 j)
  let c := fun j => Classical.choose (h7 j)
  have h8 : ∀ j, j < n → w.cell? ⟨g, o + j * 2, none⟩ = some (.bool (neg j)) ∧ w.cell? ⟨g, o + j * 2 + 1, none⟩ = some (.slice (B j) (k j) (c j)) ∧ IsRI w (neg j) (B j) (k j) (c j) (f i j) := fun j hj => Classical.choose_spec (h7 j) hj
  refine ⟨b, off, g, o, cc, neg, B, k, c, e, by rw [h1, e1], h2, fun j u hu => ?_, fun j hj => (h8 j hj).2.2⟩
  have hlt : j < n * 2 := by have := (List.getElem?_eq_some_iff.1 hu).1; rwa [inCells_len] at this
  have h9 := h8 (j / 2) (by omega)
  have h10 := inCells_at neg B k c n (j / 2) (by omega)
  rcases Nat.mod_two_eq_zero_or_one j with q | q
  · have e0 : j / 2 * 2 = j := by omega
    rw [e0] at h9 h10
    rw [h10.1] at hu
    rw [← Option.some.inj hu]
    exact h9.1
  · have e0 : j / 2 * 2 + 1 = j := by omega
    rw [Nat.add_assoc, e0] at h9
    rw [e0] at h10
    rw [h10.2] at hu
    rw [← Option.some.inj hu]
    exact h9.2.1
/-- What such a row's copy is. -/
theorem copy_row {w' : World} {base : Nat} {n : Nat} {v : Value} {neg : Nat → Bool} {B : Nat → Option Addr} {k c : Nat → Nat} {f : Nat → Int} (hn : 1 ≤ n) (ho : w'.ownsRow base 82 2 v n (inCells neg B k c n)) (hi : ∀ j, j < n → IsRI w' (neg j) (B j) (k j) (c j) (f j)) :
    ∃ g cap, v = .slice (some ⟨g, 0, none⟩) n cap ∧ n ≤ cap ∧ base ≤ g ∧ RRow w' g n f := by
  rcases ho.2 with ⟨_, h0⟩ | ⟨g, cap, cur, rfl, hg, hh, hnc, hcm, hcs, hct⟩
  · omega
  · refine ⟨g, cap, rfl, hnc, hg, fun j hj => ?_, fun o => by simp only [World.frozen?, hh]; rfl, ⟨_, _, hh⟩⟩
    have h1 := ho.cellAt (j * 2) (by omega)
    have h2 := ho.cellAt (j * 2 + 1) (by omega)
    have h3 := inCells_at neg B k c n j hj
    rw [h3.1] at h1
    rw [h3.2] at h2
    exact ⟨_, _, _, _, h1, h2, hi j hj⟩
/-- What holds at the head of a round. -/
structure StInv (w0 wr : World) (lo n r g bl : Nat) (h cp : Nat → Nat) (f : Nat → Nat → Int) : Prop where
  mat : ∃ m, MatR wr lo g n h cp m ∧ ∀ i k, r ≤ i → i < n → r ≤ k → k < n → m i k = dmin f r i k
  box : RRow wr bl 1 (fun _ => det r f)
  ne : ∀ i, i < n → h i ≠ bl
  low : w0.heap.size ≤ bl
  ext : Ext w0 wr
theorem StInv.next {w0 wr w' : World} {lo n r g bl : Nat} {h cp : Nat → Nat} {f : Nat → Nat → Int} (H : StInv w0 wr lo n r g bl h cp f) (hx : Ext wr w') : StInv w0 w' lo n r g bl h cp f := by
  obtain ⟨m, hm, hv⟩ := H.mat
  exact ⟨⟨m, hm.ext hx, hv⟩, H.box.ext hx, H.ne, H.low, H.ext.trans hx⟩
/-- The rows below i are stepped. -/
def RowsP (n r i : Nat) (f m : Nat → Nat → Int) : Prop :=
  (∀ a b, r < a → a < i → r < b → b < n → m a b = dmin f (r + 1) a b) ∧ (∀ a b, (a = r ∨ i ≤ a) → r ≤ a → a < n → r ≤ b → b < n → m a b = dmin f r a b)
/-- In row i those below k. -/
def ColsP (n r i k : Nat) (f m : Nat → Nat → Int) : Prop :=
  (∀ a b, r < a → a < i → r < b → b < n → m a b = dmin f (r + 1) a b) ∧ (∀ b, r < b → b < k → m i b = dmin f (r + 1) i b) ∧
  (∀ a b, (a = r ∨ i < a ∨ (a = i ∧ (k ≤ b ∨ b = r))) → r ≤ a → a < n → r ≤ b → b < n → m a b = dmin f r a b)
theorem RowsP.start {n r : Nat} {f m : Nat → Nat → Int} (h : ∀ i k, r ≤ i → i < n → r ≤ k → k < n → m i k = dmin f r i k) : RowsP n r (r + 1) f m :=
  ⟨fun a b h1 h2 => by omega, fun a b _ h2 h3 h4 h5 => h a b h2 h3 h4 h5⟩
theorem RowsP.done {n r : Nat} {f m : Nat → Nat → Int} (h : RowsP n r n f m) : ∀ i k, r + 1 ≤ i → i < n → r + 1 ≤ k → k < n → m i k = dmin f (r + 1) i k :=
  fun i k h1 h2 h3 h4 => h.1 i k (by omega) h2 (by omega) h4
theorem ColsP.start {n r i : Nat} {f m : Nat → Nat → Int} (h : RowsP n r i f m) (hi : r < i) : ColsP n r i (r + 1) f m :=
  ⟨h.1, fun b h1 h2 => by omega, fun a b h1 h2 h3 h4 h5 => h.2 a b (by omega) h2 h3 h4 h5⟩
theorem ColsP.step {n r i k : Nat} {f m : Nat → Nat → Int} (h : ColsP n r i k f m) (hi : r < i) (hk : r < k) : ColsP n r i (k + 1) f (fun a b => if a = i ∧ b = k then dmin f (r + 1) i k else m a b) := by
  refine ⟨fun a b h1 h2 h3 h4 => ?_, fun b h1 h2 => ?_, fun a b h1 h2 h3 h4 h5 => ?_⟩
  · dsimp only; rw [if_neg (by omega)]; exact h.1 a b h1 h2 h3 h4
  · by_cases e : b = k
    · subst e; dsimp only; rw [if_pos ⟨rfl, rfl⟩]
    · dsimp only; rw [if_neg (by omega)]; exact h.2.1 b h1 (by omega)
  · dsimp only; rw [if_neg (by omega)]; exact h.2.2 a b (by omega) h2 h3 h4 h5
theorem ColsP.done {n r i : Nat} {f m : Nat → Nat → Int} (h : ColsP n r i n f m) (hi : r < i) (z : Int) : RowsP n r (i + 1) f (fun a b => if a = i ∧ b = r then z else m a b) := by
  refine ⟨fun a b h1 h2 h3 h4 => ?_, fun a b h1 h2 h3 h4 h5 => ?_⟩
  · dsimp only; rw [if_neg (by omega)]
    by_cases e : a = i
    · subst e; exact h.2.1 b h3 h4
    · exact h.1 a b h1 (by omega) h3 h4
  · dsimp only; rw [if_neg (by omega)]; exact h.2.2 a b (by omega) h2 h3 h4 h5
theorem ColsP.reads {n r i k : Nat} {f m : Nat → Nat → Int} (h : ColsP n r i k f m) (hi : r < i) (hin : i < n) (hk : r < k) (hkn : k < n) : m r r = dmin f r r r ∧ m i k = dmin f r i k ∧ m i r = dmin f r i r ∧ m r k = dmin f r r k :=
  ⟨h.2.2 r r (by omega) (by omega) (by omega) (by omega) (by omega), h.2.2 i k (by omega) (by omega) (by omega) (by omega) (by omega), h.2.2 i r (by omega) (by omega) (by omega) (by omega) (by omega), h.2.2 r k (by omega) (by omega) (by omega) (by omega) (by omega)⟩
/-- How many digits small numbers have. -/
theorem len_128 {z : Int} (h : z.natAbs ≤ 2 ^ 128) : (digR z.natAbs).length ≤ 9 := by
  refine digR_small ?_
  have : ((z.natAbs : Nat) : Int) ≤ 2 ^ 128 := by exact_mod_cast h
  show ((z.natAbs : Nat) : Int) < 65536 ^ 9
  omega
theorem len_mul {a b : Int} (ha : a.natAbs ≤ 2 ^ 128) (hb : b.natAbs ≤ 2 ^ 128) : (digR (a * b).natAbs).length ≤ 18 := by
  rw [Int.natAbs_mul]
  exact Nat.le_trans (digR_mul_len _ _) (by have := len_128 ha; have := len_128 hb; omega)
theorem len_sub {a b c d : Int} (ha : a.natAbs ≤ 2 ^ 128) (hb : b.natAbs ≤ 2 ^ 128) (hc : c.natAbs ≤ 2 ^ 128) (hd : d.natAbs ≤ 2 ^ 128) : (digR (a * b + -(c * d)).natAbs).length ≤ 19 := by
  have h1 : (a * b).natAbs ≤ 2 ^ 128 * 2 ^ 128 := by rw [Int.natAbs_mul]; exact Nat.mul_le_mul ha hb
  have h2 : (c * d).natAbs ≤ 2 ^ 128 * 2 ^ 128 := by rw [Int.natAbs_mul]; exact Nat.mul_le_mul hc hd
  have h3 : (a * b + -(c * d)).natAbs ≤ (a * b).natAbs + (c * d).natAbs := by
    have := Int.natAbs_add_le (a * b) (-(c * d)); rwa [Int.natAbs_neg] at this
  refine digR_small ?_
  have h4 : (((a * b + -(c * d)).natAbs : Nat) : Int) ≤ ((2 ^ 128 * 2 ^ 128 + 2 ^ 128 * 2 ^ 128 : Nat) : Int) := by exact_mod_cast (by omega)
  show (((a * b + -(c * d)).natAbs : Nat) : Int) < 65536 ^ 19
  refine Int.lt_of_le_of_lt h4 ?_
  decide
end Go.Proofs.YtiihnoelclnahaaGreatDoor
namespace Go.Proofs.YtiihnoelclnahaaGreatDoor
open Go.RowKit Go.Proofs.YtiihnoelclnahaaGreatDoorW.PrintWords Go.Proofs.YtiihnoelclnahaaGreatDoor.Ref
set_option linter.unusedVariables false
set_option linter.unusedSimpArgs false
set_option maxHeartbeats 4000000 in
set_option maxRecDepth 100000 in
theorem steps_any (A : Option Addr) (n c : Nat) (f : Nat → Nat → Int) (w : World) (hn1 : 1 ≤ n) (hn8 : n ≤ 8) (hin : InR w A n f) (hsm : SmallM n f) (hp : ∀ r, r + 1 < n → det (r + 1) f ≠ 0) :
    Calls Tryz.prog 86 #[.slice A n c] w fun e w' => ∃ (r : Nat) (neg : Bool) (B : Option Addr) (k cc : Nat), e = .returned (.tuple #[.int .i64 r, .agg #[.bool neg, .slice B k cc]]) ∧ IsRI w' neg B k cc (det n f) ∧ Ext w w' := by
  have HIn := Lib.hid hin
  have HSm := Lib.hid hsm
  have HPv := Lib.hid hp
  clear hin hsm hp
  obtain ⟨W0, hWW0⟩ : ∃ W0 : World, w.alloc (.cells #[.bool false, .slice none 0 0] 82) = W0 := ⟨_, rfl⟩
  have hXW0 : Ext w W0 := by rw [← hWW0]; exact ((Ext.refl w).alloc _)
  have hsW0 : w.heap.size + 1 ≤ W0.heap.size := by rw [← hWW0]; simp only [World.size_alloc]; omega
  have c0a : W0.cell? ⟨w.heap.size, 0, none⟩ = some (.bool false) := by rw [← hWW0]; simp [go_sem]
  have f0a : W0.frozen? ⟨w.heap.size, 0, none⟩ = false := by rw [← hWW0]; simp [go_sem]
  have c0b : W0.cell? ⟨w.heap.size, 1, none⟩ = some (.slice none 0 0) := by rw [← hWW0]; simp [go_sem]
  have f0b : W0.frozen? ⟨w.heap.size, 1, none⟩ = false := by rw [← hWW0]; simp [go_sem]
  have HWW0 := Lib.hid hWW0
  clear hWW0
  have HIn0 := Lib.hid (HIn.out.ext hXW0)
  have HX := Lib.hid hXW0
  obtain ⟨i0, hi, hz0, hz1, hz2⟩ := info_parts Tryz.infoRs
  have HI0 := Lib.hid (show Tryz.prog.info? 153 = some i0 ∧ i0.zero = some (.slice none 0 0) ∧ i0.size = 1 ∧ i0.bytes = 24 from ⟨hi, hz0, hz1, hz2⟩)
  clear hi hz0 hz1 hz2
  obtain ⟨i2, hi, hz0, hz1, hz2⟩ := info_parts Tryz.infoR
  have HI2 := Lib.hid (show Tryz.prog.info? 82 = some i2 ∧ i2.zero = some (.agg #[.bool false, .slice none 0 0]) ∧ i2.size = 2 ∧ i2.bytes = 32 from ⟨hi, hz0, hz1, hz2⟩)
  clear hi hz0 hz1 hz2 hXW0
  go_enter Tryz.func86, Tryz.ntmps86
  go_wp2
  rw [HWW0.out]
  go_loopg [4, 5] n (fun kk v iv wr => ∃ (i : Nat) (h cp : Nat → Nat), kk + i = n ∧ iv = .int .i64 i ∧ Hid (CpInv W0 wr n i v h cp f))
  case atStart => exact ⟨0, fun _ => 0, fun _ => 0, by omega, rfl, ⟨World.ownsRow_nil _ _ _ _, fun j hj => by omega, fun j hj => by omega, fun j k hj => by omega, fun j hj => by omega, Ext.refl _⟩⟩
  case round =>
    obtain ⟨i, h, cp, hki, rfl, HI⟩ := hrel
    by_cases hin : i < n
    · obtain ⟨b, off, g, o, cc, neg, B, k, c', e, h1, h2, h3, h4⟩ := (HIn0.out.ext HI.out.ext).cells hn1 hin
      subst e
      have hb := lt_of_cell h1
      have HCl := Lib.hid h3
      have HRi := Lib.hid h4
      clear h3 h4
      obtain ⟨ii2, hii2, hy0, hy1, hy2⟩ : ∃ ii, Tryz.prog.info? 82 = some ii ∧ ii.zero = some (.agg #[.bool false, .slice none 0 0]) ∧ ii.size = 2 ∧ ii.bytes = 32 := ⟨i2, HI2.out⟩
      obtain ⟨ii, hii, hz0, hz1, hz2⟩ : ∃ ii, Tryz.prog.info? 153 = some ii ∧ ii.zero = some (.slice none 0 0) ∧ ii.size = 1 ∧ ii.bytes = 24 := ⟨i0, HI0.out⟩
      go_wp2_with (at_builtin; refine wpList_append_own _ rfl _ _ 153 rfl wr.heap.size 82 ii2 (.agg #[.bool false, .slice none 0 0]) 2 32 Tryz.underlying153 hii2 hy0 hy1 hy2 rfl (by decide) _ _ _ rfl (World.ownsRow_made wr #[] 0 (Nat.le_refl _) (Nat.zero_le _) rfl) ⟨g, o, none⟩ n cc (inCells neg B k c' n) rfl ?c1 ?c2 ?c3 ?c4 ?c5 ?c6 ?_)
      case c1 => exact inCells_len _ _ _ _ _
      case c2 =>
        intro j u hu
        exact ((Ext.refl wr).alloc (.cells #[] 82)).cell (HCl.out j u hu)
      case c3 => exact inCells_one _ _ _ _ _
      case c4 => unfold maxLen; omega
      case c5 => omega
      intro v' w5 hown' hgrow _
      have hx5 : Ext wr w5 := ((Ext.refl wr).alloc _).grown hgrow (fun k hk => by have hk2 : wr.heap.size = k := Option.some.inj hk; omega)
      obtain ⟨hr, capr, rfl, hcapr, hlr, hRow⟩ := copy_row hn1 hown' (fun j hj => (HRi.out j hj).ext hx5)
      have HNew := Lib.hid hRow
      have HX5 := Lib.hid hx5
      have HHr := Lib.hid hlr
      have hlt5 : hr < w5.heap.size := hRow.lt
      have HOwn : Hid (w5.ownsRow W0.heap.size 153 1 u4 i ((List.range i).map fun j => Value.slice (some ⟨h j, 0, none⟩) n (cp j))) := by
        refine (HI.out.own.alloc _).kept hgrow ?_
        rcases hob : u4.ownBlock with _ | g
        · exact .inl rfl
        · refine .inr ?_
          have := (HI.out.own.lt g hob).2
          intro e
          have e2 : g = wr.heap.size := Option.some.inj e
          omega
      have HRows : Hid (∀ j, j < i → RRow w5 (h j) n (f j)) := fun j hj => (HI.out.row j hj).ext hx5
      have HX0 := Lib.hid (HI.out.ext.trans hx5)
      have hws : W0.heap.size ≤ w5.heap.size := HX0.out.size
      clear hown' hgrow hRow hx5 hlr HCl HRi h1 h2
      go_wp2_with (at_builtin; refine wpList_append_own _ rfl _ _ 125 rfl W0.heap.size 153 ii (.slice none 0 0) 1 24 Tryz.underlying125 hii hz0 hz1 hz2 rfl (by decide) _ _ _ rfl (HOwn.out.alloc _) ⟨w5.heap.size, 0, none⟩ 1 1 [.slice (some ⟨hr, 0, none⟩) n capr] rfl rfl ?d1 ?d2 ?d3 ?d4 ?d5 ?_)
      case d1 => exact cell_one_new _ _ _
      case d2 => intro u hu; rw [List.mem_singleton.1 hu]; rfl
      case d3 => unfold maxLen; omega
      case d4 => omega
      case d5 => simp only [World.size_alloc]; omega
      intro v' w6 hown' hgrow _
      have hOwnA := HOwn.out.alloc (.cells #[.slice (some ⟨hr, 0, none⟩) n capr] 153)
      have hk82 : ∀ b, TB (w5.alloc (.cells #[.slice (some ⟨hr, 0, none⟩) n capr] 153)) 82 b → w6.heap[b]? = (w5.alloc (.cells #[.slice (some ⟨hr, 0, none⟩) n capr] 153)).heap[b]? := fun b hb => own_keep hOwnA hgrow hb (by decide)
      have hk32 : ∀ b, TB (w5.alloc (.cells #[.slice (some ⟨hr, 0, none⟩) n capr] 153)) 145 b → w6.heap[b]? = (w5.alloc (.cells #[.slice (some ⟨hr, 0, none⟩) n capr] 153)).heap[b]? := fun b hb => own_keep hOwnA hgrow hb (by decide)
      have hXA : Ext w5 (w5.alloc (.cells #[.slice (some ⟨hr, 0, none⟩) n capr] 153)) := (Ext.refl w5).alloc _
      have HS : Hid (CpInv W0 w6 n (i + 1) v' (fun j => if j = i then hr else h j) (fun j => if j = i then capr else cp j) f) := by
        refine ⟨?_, fun j hj => ?_, fun j hj => ?_, fun j k hj hk e => ?_, fun j hj => ?_, ?_⟩
        · rw [← range_snoc i (fun j => Value.slice (some ⟨h j, 0, none⟩) n (cp j)) _ (.slice (some ⟨hr, 0, none⟩) n capr) (fun j hj => by simp only [if_neg (show ¬ j = i by omega)]) (by simp)]
          exact hown'
        · by_cases e : j = i
          · simp only [if_pos e]; exact hcapr
          · simp only [if_neg e]; exact HI.out.cap j (by omega)
        · by_cases e : j = i
          · subst e
            simp only [if_true]
            exact (HNew.out.ext hXA).typed (hk82 _ (HNew.out.ext hXA).typ) hk32
          · simp only [if_neg e]
            have h2 := (HRows.out j (by omega)).ext hXA
            exact h2.typed (hk82 _ h2.typ) hk32
        · by_cases e1 : j = i <;> by_cases e2 : k = i
          · omega
          · rw [if_pos e1, if_neg e2] at e
            have h1 := (HI.out.row k (by omega)).lt
            have h2 := HHr.out
            omega
          · rw [if_neg e1, if_pos e2] at e
            have h1 := (HI.out.row j (by omega)).lt
            have h2 := HHr.out
            omega
          · rw [if_neg e1, if_neg e2] at e
            exact HI.out.inj j k (by omega) (by omega) e
        · by_cases e1 : j = i
          · simp only [if_pos e1]; have := HHr.out; have := HI.out.ext.size; omega
          · simp only [if_neg e1]; exact HI.out.low j (by omega)
        · exact (HX0.out.alloc _).grown hgrow (fun k hk => (hOwnA.lt k hk).1)
      clear hown' hgrow hOwnA hk82 hk32 hXA
      go_wp2
      go_roundg (n - (i + 1))
      case measure => omega
      case rel => exact ⟨i + 1, _, _, by omega, by go_num, HS⟩
    · obtain rfl : n = i := by omega
      rcases HI.out.own.2 with ⟨_, h0⟩ | ⟨g, capg, cur, rfl, hg, hh, hnc, hcm, hcs, hct⟩
      · omega
      · have HM : Hid (MatR wr W0.heap.size g n h cp f) := by
          refine ⟨fun i hi => ?_, HI.out.cap, HI.out.row, HI.out.inj, HI.out.low, hg, ⟨_, _, hh⟩⟩
          have h1 := HI.out.own.cells (g := g) rfl i (.slice (some ⟨h i, 0, none⟩) n (cp i)) (by simp [hi])
          rw [← h1]
          unfold Addr.add
          split
          · subst_vars; rfl
          · simp
        have HX1 := Lib.hid HI.out.ext
        clear hh hcs hct HI
        go_wp2_with fail
        refine (rOf_any 1 _ (by omega) (by omega)).mono ?_
        rintro e w2 ⟨neg1, A1, k1, c1, rfl, hi1, hx⟩
        have HX2 := Lib.hid (HX1.out.trans hx)
        have HM2 := Lib.hid (HM.out.ext hx)
        have HL2 := Lib.hid hi1
        clear hx hi1 HX1 HM
        go_wp2
        obtain ⟨bl, hbl⟩ : ∃ bl, w2.heap.size = bl := ⟨_, rfl⟩
        obtain ⟨W3, hW3⟩ : ∃ W3, w2.alloc (.cells #[.bool neg1, .slice A1 k1 c1] 82) = W3 := ⟨_, rfl⟩
        have HP : Hid (StInv W0 W3 W0.heap.size n 0 g bl h cp f) := by
          have hX3 : Ext w2 W3 := by rw [← hW3]; exact (Ext.refl w2).alloc _
          have hR := RRow.new1 HL2.out
          rw [hW3, hbl] at hR
          refine ⟨⟨f, HM2.out.ext hX3, fun i k _ _ _ _ => (dmin_zero f i k).symm⟩, hR, fun i hi => ?_, ?_, HX2.out.trans hX3⟩
          · have := (HM2.out.row i hi).lt; omega
          · have := HX2.out.size; omega
        rw [hW3, hbl]
        clear hW3 HL2 HM2 HX2 hbl
        go_loopg [7, 8, 9] n (fun kk s7 s8 s9 wr => ∃ r j : Nat, kk + j = n ∧ s7 = .bool false ∧ s8 = .int .i64 r ∧ s9 = .int .i64 j ∧ Hid (StInv W0 wr W0.heap.size n r g bl h cp f) ∧ Hid (j = r ∨ (j = n ∧ r + 1 = n ∧ det n f = 0)))
        case atStart => exact ⟨0, 0, by omega, rfl, rfl, rfl, HP, Or.inl rfl⟩
        case round =>
          clear HP
          obtain ⟨r, j, hkj, rfl, rfl, rfl, HS, HD⟩ := hrel
          have HCo := Lib.hid (columns_any A n c f wr hn1 (by omega) (HIn0.out.ext HS.out.ext))
          by_cases hjn : j < n
          · obtain rfl : j = r := by rcases HD.out with h | h; exact h; omega
            clear HD
            go_wp2_with fail
            refine HCo.out.mono ?_
            rintro e w3 ⟨rfl, hx⟩
            have HS3 := Lib.hid (HS.out.next hx)
            clear hx HS HCo
            obtain ⟨m, hm, hv⟩ := HS3.out.mat
            have HM3 := Lib.hid hm
            have HV3 := Lib.hid hv
            clear hm hv
            obtain ⟨nrr, Arr, krr, ccrr, crr1, crr2, irr⟩ := (HM3.out.row j hjn).cells j hjn
            have cR := HM3.out.rows j hjn
            have cpR := HM3.out.cap j hjn
            have hvr : m j j = det (j + 1) f := by rw [HV3.out j j (by omega) hjn (by omega) hjn, dmin_corner]
            have hk0 : krr = 0 ↔ det (j + 1) f = 0 := by rw [irr.nat.k0, hvr]; omega
            by_cases hz : det (j + 1) f = 0
            · have hjl : j + 1 = n := by
                rcases Nat.lt_or_ge (j + 1) n with h | h
                · exact absurd hz (HPv.out j h)
                · omega
              obtain rfl : krr = 0 := hk0.2 hz
              have HZ := Lib.hid hz
              clear hk0 hvr irr hz HV3
              go_wp2
              go_loopg [10] (n - j) (fun kk pv wi => ∃ p : Nat, kk + p = n ∧ j ≤ p ∧ pv = .int .i64 p ∧ w3 = wi)
              case atStart => exact ⟨j, by omega, by omega, rfl, rfl⟩
              case round =>
                obtain ⟨p, hkp, hjp, rfl, rfl⟩ := hrel
                by_cases hpn : p < n
                · obtain rfl : p = j := by omega
                  go_wp2
                  go_roundg (n - (p + 1))
                  case measure => omega
                  case rel => exact ⟨p + 1, by omega, by omega, by go_num, rfl⟩
                · obtain rfl : p = n := by omega
                  go_wp2
                  go_roundg 0
                  case measure => omega
                  case rel => exact ⟨j, j + 1, by omega, rfl, rfl, by go_num, HS3, Or.inr ⟨by omega, by omega, by rw [← hjl]; exact HZ.out⟩⟩
            · have hkr : ((krr : Int) == 0) = false := by rw [beq_eq_false_iff_ne]; intro e; exact hz (hk0.1 (by omega))
              have hjn2 : ((j : Int) == n) = false := by rw [beq_eq_false_iff_ne]; omega
              have HZ := Lib.hid hz
              clear hk0 hvr irr hz
              go_wp2
              go_loopg [10] 0 (fun kk pv wi => pv = .int .i64 j ∧ w3 = wi)
              case atStart => exact ⟨rfl, rfl⟩
              case round =>
                obtain ⟨rfl, rfl⟩ := hrel
                go_wp2
                have HB3 := Lib.hid HS3.out.box
                have HNe := Lib.hid HS3.out.ne
                have HLw := Lib.hid HS3.out.low
                have HX3 := Lib.hid HS3.out.ext
                have HR3 := Lib.hid (RowsP.start HV3.out)
                clear HS3 HV3 crr1 crr2 cR hkr hjn2
                go_loopg [11] (n - (j + 1)) (fun kk iv wi => ∃ (i : Nat) (mi : Nat → Nat → Int), kk + i = n ∧ j < i ∧ iv = .int .i64 i ∧ Hid (MatR wi W0.heap.size g n h cp mi) ∧ Hid (RowsP n j i f mi) ∧ Hid (RRow wi bl 1 (fun _ => det j f)) ∧ Hid (Ext W0 wi))
                case atStart => exact ⟨j + 1, m, by omega, by omega, by go_num, HM3, HR3, HB3, HX3⟩
                case round =>
                  clear HM3 HR3 HB3 HX3
                  obtain ⟨i, mi, hki, hji, rfl, HMi, HRi, HBi, HXi⟩ := hrel
                  by_cases hin : i < n
                  · go_wp2
                    go_loopg [12] (n - (j + 1)) (fun kk kv wk => ∃ (k : Nat) (mk : Nat → Nat → Int), kk + k = n ∧ j < k ∧ kv = .int .i64 k ∧ Hid (MatR wk W0.heap.size g n h cp mk) ∧ Hid (ColsP n j i k f mk) ∧ Hid (RRow wk bl 1 (fun _ => det j f)) ∧ Hid (Ext W0 wk))
                    case atStart => exact ⟨j + 1, mi, by omega, by omega, by go_num, HMi, ColsP.start HRi.out hji, HBi, HXi⟩
                    case round =>
                      clear HMi HRi HBi HXi
                      obtain ⟨k, mk, hkk, hjk, rfl, HMk, HCk, HBk, HXk⟩ := hrel
                      have cI := HMk.out.rows i hin
                      have cpI := HMk.out.cap i hin
                      by_cases hkn : k < n
                      · have hreads := HCk.out.reads hji hin hjk hkn
                        obtain ⟨nrr, Arr, krr, crr, crr1, crr2, irr⟩ := (HMk.out.row j hjn).cells j hjn
                        obtain ⟨nik, Aik, kik, cik, cik1, cik2, iik⟩ := (HMk.out.row i hin).cells k hkn
                        obtain ⟨nir, Air, kir, cir, cir1, cir2, iir⟩ := (HMk.out.row i hin).cells j hjn
                        obtain ⟨nrk, Ark, krk, crk, crk1, crk2, irk⟩ := (HMk.out.row j hjn).cells k hkn
                        rw [hreads.1] at irr
                        rw [hreads.2.1] at iik
                        rw [hreads.2.2.1] at iir
                        rw [hreads.2.2.2] at irk
                        have cR := HMk.out.rows j hjn
                        have HRR := Lib.hid irr
                        have HIK := Lib.hid iik
                        have HIR := Lib.hid iir
                        have HRK := Lib.hid irk
                        clear hreads irr iik iir irk
                        have brr := HSm.out.dmin hn8 (r := j) hjn hjn hjn
                        have bik := HSm.out.dmin hn8 (r := j) hin hkn hjn
                        have bir := HSm.out.dmin hn8 (r := j) hin hjn hjn
                        have brk := HSm.out.dmin hn8 (r := j) hjn hkn hjn
                        have hdj : det j f ≠ 0 := by
                          rcases Nat.eq_zero_or_pos j with h0 | h0
                          · subst h0; show (1 : Int) ≠ 0; decide
                          · have := HPv.out (j - 1) (by omega); rwa [show j - 1 + 1 = j by omega] at this
                        have hbl : (det j f).natAbs ≤ 2 ^ 128 := by
                          rcases Nat.eq_zero_or_pos j with h0 | h0
                          · subst h0; show (1 : Int).natAbs ≤ 2 ^ 128; decide
                          · have := HSm.out.dmin hn8 (r := j - 1) (i := j - 1) (j := j - 1) (by omega) (by omega) (by omega)
                            rwa [dmin_corner, show j - 1 + 1 = j by omega] at this
                        have hL : (digR (dmin f j j j * dmin f j i k).natAbs).length ≤ 1000000 ∧ (digR (-(dmin f j i j * dmin f j j k)).natAbs).length ≤ 1000000 ∧ (digR (dmin f j j j * dmin f j i k + -(dmin f j i j * dmin f j j k)).natAbs).length ≤ 1000000 ∧ (digR (det j f).natAbs).length ≤ 400000 ∧ dmin f j j j * dmin f j i k + -(dmin f j i j * dmin f j j k) = det j f * dmin f (j + 1) i k := by
                          refine ⟨Nat.le_trans (len_mul brr bik) (by omega), ?_, Nat.le_trans (len_sub brr bik bir brk) (by omega), Nat.le_trans (len_128 hbl) (by omega), ?_⟩
                          · rw [Int.natAbs_neg]; exact Nat.le_trans (len_mul bir brk) (by omega)
                          · rw [sylvester f j i k hdj]; omega
                        have HL := Lib.hid hL
                        have HDj := Lib.hid hdj
                        have HMul1 := Lib.hid (fun W (hx : Ext wr W) => rMul_any nrr nik Arr Aik krr kik crr cik (dmin f j j j) (dmin f j i k) W (HRR.out.ext hx) (HIK.out.ext hx) (Nat.le_trans (len_128 brr) (by omega)) (Nat.le_trans (len_128 bik) (by omega)))
                        have HLm := Lib.hid (show (digR (dmin f j i j).natAbs).length ≤ 1000000 ∧ (digR (dmin f j j k).natAbs).length ≤ 1000000 from ⟨Nat.le_trans (len_128 bir) (by omega), Nat.le_trans (len_128 brk) (by omega)⟩)
                        clear hL hdj hbl brr bik bir brk
                        obtain ⟨X, hX⟩ : ∃ X, dmin f j j j * dmin f j i k = X := ⟨_, rfl⟩
                        obtain ⟨Y, hY⟩ : ∃ Y, dmin f j i j * dmin f j j k = Y := ⟨_, rfl⟩
                        have HY := Lib.hid hY
                        rw [hX] at HMul1 HL
                        rw [hY] at HL
                        clear hX hY
                        go_upto_region 25 with (fail)
                        go_cut [13] (fun s wx => ∃ bx, s = .pointer (some ⟨bx, 0, none⟩) ∧ wr.heap.size ≤ bx ∧ Hid (RRow wx bx 1 (fun _ => X)) ∧ Hid (Ext wr wx))
                        case first =>
                          have HKeep := Lib.hid (fun (w' : World) (hx : Ext wr w') => (show w'.cell? ⟨g, j, none⟩ = some (.slice (some ⟨h j, 0, none⟩) n (cp j)) ∧ w'.cell? ⟨g, i, none⟩ = some (.slice (some ⟨h i, 0, none⟩) n (cp i)) ∧ w'.cell? ⟨h j, j * 2, none⟩ = some (.bool nrr) ∧ w'.cell? ⟨h j, j * 2 + 1, none⟩ = some (.slice Arr krr crr) ∧ w'.cell? ⟨h i, k * 2, none⟩ = some (.bool nik) ∧ w'.cell? ⟨h i, k * 2 + 1, none⟩ = some (.slice Aik kik cik) from ⟨hx.cell cR, hx.cell cI, hx.cell crr1, hx.cell crr2, hx.cell cik1, hx.cell cik2⟩))
                          go_region_held3 (fun w' => w'.cell? ⟨g, j, none⟩ = some (.slice (some ⟨h j, 0, none⟩) n (cp j)) ∧ w'.cell? ⟨g, i, none⟩ = some (.slice (some ⟨h i, 0, none⟩) n (cp i)) ∧ w'.cell? ⟨h j, j * 2, none⟩ = some (.bool nrr) ∧ w'.cell? ⟨h j, j * 2 + 1, none⟩ = some (.slice Arr krr crr) ∧ w'.cell? ⟨h i, k * 2, none⟩ = some (.bool nik) ∧ w'.cell? ⟨h i, k * 2 + 1, none⟩ = some (.slice Aik kik cik)) (exact HKeep.out _ (by repeat (first | exact Ext.refl _ | exact hxA | refine Ext.drew ?_ | refine Ext.drewN ?_ _ | refine Ext.setCell ?_ (by first | exact Nat.le_refl _ | (simp only []; omega)) _ | refine Ext.alloc ?_ _)))
                            (first
                              | (go_at_call 108; refine (HMul1.out _ (by repeat (first | exact Ext.refl _ | exact hxA | refine Ext.drew ?_ | refine Ext.drewN ?_ _ | refine Ext.setCell ?_ (by first | exact Nat.le_refl _ | (simp only []; omega)) _ | refine Ext.alloc ?_ _))).mono ?_; rintro e w4 ⟨nx, Ax, kx, cx, rfl, hix, hx⟩; have hxA : Ext wr w4 := Ext.trans (by repeat (first | exact Ext.refl _ | exact hxA | refine Ext.drew ?_ | refine Ext.drewN ?_ _ | refine Ext.setCell ?_ (by first | exact Nat.le_refl _ | (simp only []; omega)) _ | refine Ext.alloc ?_ _)) hx; have hsz := hxA.size; have HIx := Lib.hid hix; clear hix; try (have dd := newboxR hx; obtain ⟨d1, d2, d3, d4, d5⟩ := dd)))
                          all_goals
                            go_wp2
                            go_meet
                            first
                            | exact ⟨w4.heap.size, rfl, hsz, RRow.new1 HIx.out, hxA.alloc _⟩
                            | exact ⟨wr.heap.size, rfl, Nat.le_refl _, RRow.put1 HIx.out d1 d2 d5, (hxA.setCell (p := ⟨_, 0, none⟩) (Nat.le_refl _) _).setCell (p := ⟨_, 1, none⟩) (Nat.le_refl _) _⟩
                        case rest =>
                          obtain ⟨b9, rfl, hb9, HM9, HX9⟩ := hcut
                          obtain ⟨wa, hwa⟩ : ∃ wa, wc = wa := ⟨_, rfl⟩
                          rw [hwa] at HM9 HX9 ⊢
                          clear hwa wc HMul1 crr1 crr2 HRR
                          replace cR := HX9.out.cell cR
                          replace cI := HX9.out.cell cI
                          replace cir1 := HX9.out.cell cir1
                          replace cir2 := HX9.out.cell cir2
                          replace crk1 := HX9.out.cell crk1
                          replace crk2 := HX9.out.cell crk2
                          have HMul2' := Lib.hid (fun W (hx : Ext wa W) => rMul_any nir nrk Air Ark kir krk cir crk (dmin f j i j) (dmin f j j k) W ((HIR.out.ext HX9.out).ext hx) ((HRK.out.ext HX9.out).ext hx) HLm.out.1 HLm.out.2)
                          rw [HY.out] at HMul2'
                          have HMul2 := Lib.hid HMul2'.out
                          clear HMul2'
                          go_upto_region 26 with (fail)
                          go_cut [14] (fun s wx => ∃ bx, s = .pointer (some ⟨bx, 0, none⟩) ∧ wa.heap.size ≤ bx ∧ Hid (RRow wx bx 1 (fun _ => Y)) ∧ Hid (Ext wa wx))
                          case first =>
                            have HKeep := Lib.hid (fun (w' : World) (hx : Ext wa w') => (show w'.cell? ⟨g, j, none⟩ = some (.slice (some ⟨h j, 0, none⟩) n (cp j)) ∧ w'.cell? ⟨g, i, none⟩ = some (.slice (some ⟨h i, 0, none⟩) n (cp i)) ∧ w'.cell? ⟨h i, j * 2, none⟩ = some (.bool nir) ∧ w'.cell? ⟨h i, j * 2 + 1, none⟩ = some (.slice Air kir cir) ∧ w'.cell? ⟨h j, k * 2, none⟩ = some (.bool nrk) ∧ w'.cell? ⟨h j, k * 2 + 1, none⟩ = some (.slice Ark krk crk) from ⟨hx.cell cR, hx.cell cI, hx.cell cir1, hx.cell cir2, hx.cell crk1, hx.cell crk2⟩))
                            go_region_held3 (fun w' => w'.cell? ⟨g, j, none⟩ = some (.slice (some ⟨h j, 0, none⟩) n (cp j)) ∧ w'.cell? ⟨g, i, none⟩ = some (.slice (some ⟨h i, 0, none⟩) n (cp i)) ∧ w'.cell? ⟨h i, j * 2, none⟩ = some (.bool nir) ∧ w'.cell? ⟨h i, j * 2 + 1, none⟩ = some (.slice Air kir cir) ∧ w'.cell? ⟨h j, k * 2, none⟩ = some (.bool nrk) ∧ w'.cell? ⟨h j, k * 2 + 1, none⟩ = some (.slice Ark krk crk)) (exact HKeep.out _ (by repeat (first | exact Ext.refl _ | exact hxA | refine Ext.drew ?_ | refine Ext.drewN ?_ _ | refine Ext.setCell ?_ (by first | exact Nat.le_refl _ | (simp only []; omega)) _ | refine Ext.alloc ?_ _)))
                              (first
                                | (go_at_call 108; refine (HMul2.out _ (by repeat (first | exact Ext.refl _ | exact hxA | refine Ext.drew ?_ | refine Ext.drewN ?_ _ | refine Ext.setCell ?_ (by first | exact Nat.le_refl _ | (simp only []; omega)) _ | refine Ext.alloc ?_ _))).mono ?_; rintro e w4 ⟨nx, Ax, kx, cx, rfl, hix, hx⟩; have hxA : Ext wa w4 := Ext.trans (by repeat (first | exact Ext.refl _ | exact hxA | refine Ext.drew ?_ | refine Ext.drewN ?_ _ | refine Ext.setCell ?_ (by first | exact Nat.le_refl _ | (simp only []; omega)) _ | refine Ext.alloc ?_ _)) hx; have hsz := hxA.size; have HIx := Lib.hid hix; clear hix; try (have dd := newboxR hx; obtain ⟨d1, d2, d3, d4, d5⟩ := dd)))
                            all_goals
                              go_wp2
                              go_meet
                              first
                              | exact ⟨w4.heap.size, rfl, hsz, RRow.new1 HIx.out, hxA.alloc _⟩
                              | exact ⟨wa.heap.size, rfl, Nat.le_refl _, RRow.put1 HIx.out d1 d2 d5, (hxA.setCell (p := ⟨_, 0, none⟩) (Nat.le_refl _) _).setCell (p := ⟨_, 1, none⟩) (Nat.le_refl _) _⟩
                          case rest =>
                            obtain ⟨b11, rfl, hb11, HM11, HX11⟩ := hcut
                            obtain ⟨wb, hwb⟩ : ∃ wb, wc = wb := ⟨_, rfl⟩
                            rw [hwb] at HM11 HX11 ⊢
                            clear hwb wc HMul2 cir1 cir2 crk1 crk2 HIR HRK
                            obtain ⟨n9, A9, k9, c9, c91, c92, i9⟩ := (HM9.out.ext HX11.out).one
                            obtain ⟨n11, A11, k11, c11, c111, c112, i11⟩ := HM11.out.one
                            have HXb := Lib.hid (HX9.out.trans HX11.out)
                            obtain ⟨n5, A5, k5, c5, c51, c52, i5⟩ := (HBk.out.ext HXb.out).one
                            have HMd := Lib.hid (HMk.out.ext HXb.out)
                            have HBd := Lib.hid (HBk.out.ext HXb.out)
                            obtain ⟨nik', Aik', kik', cik', cik1, cik2, _⟩ := (HMd.out.row i hin).cells k hkn
                            have fik := (HMd.out.row i hin).free
                            have fik1 := fik (k * 2)
                            have fik2 := fik (k * 2 + 1)
                            replace cI := HMd.out.rows i hin
                            have HNeg := Lib.hid (fun W (hx : Ext wb W) => rNeg_any n11 A11 k11 c11 Y W (i11.ext hx))
                            have HAdd := Lib.hid (fun W (hx : Ext wb W) nN (hi : IsRI W nN A11 k11 c11 (-Y)) => rAdd_any n9 nN A9 A11 k9 k11 c9 c11 X (-Y) W (i9.ext hx) hi HL.out.1 HL.out.2.1)
                            have HEx := Lib.hid (fun W (hx : Ext wb W) nS AS kS cS (hi : IsRI W nS AS kS cS (X + -Y)) => rExact_any nS n5 AS A5 kS k5 cS c5 (X + -Y) (det j f) (dmin f (j + 1) i k) W hi (i5.ext hx) HL.out.2.2.1 HL.out.2.2.2.1 HDj.out HL.out.2.2.2.2)
                            have hne2 : h i ≠ b9 := by have := (HMk.out.row i hin).lt; omega
                            have hne3 : h i ≠ b11 := by have := ((HMk.out.row i hin).ext HX9.out).lt; omega
                            have hne0 : h i ≠ g := HMd.out.ne hin
                            have hne1 : h i ≠ bl := HNe.out i hin
                            clear fik i9 i11 i5 cR
                            have HKeep2 := Lib.hid (fun (w' : World) (hx : Ext wb w') (u v : Value) => (show ((w'.setCell ⟨h i, k * 2, none⟩ u).setCell ⟨h i, k * 2 + 1, none⟩ v).cell? ⟨g, i, none⟩ = some (.slice (some ⟨h i, 0, none⟩) n (cp i)) ∧ ((w'.setCell ⟨h i, k * 2, none⟩ u).setCell ⟨h i, k * 2 + 1, none⟩ v).cell? ⟨b9, 0, none⟩ = some (.bool n9) ∧ ((w'.setCell ⟨h i, k * 2, none⟩ u).setCell ⟨h i, k * 2 + 1, none⟩ v).cell? ⟨b9, 1, none⟩ = some (.slice A9 k9 c9) ∧ ((w'.setCell ⟨h i, k * 2, none⟩ u).setCell ⟨h i, k * 2 + 1, none⟩ v).cell? ⟨b11, 0, none⟩ = some (.bool n11) ∧ ((w'.setCell ⟨h i, k * 2, none⟩ u).setCell ⟨h i, k * 2 + 1, none⟩ v).cell? ⟨b11, 1, none⟩ = some (.slice A11 k11 c11) ∧ ((w'.setCell ⟨h i, k * 2, none⟩ u).setCell ⟨h i, k * 2 + 1, none⟩ v).cell? ⟨bl, 0, none⟩ = some (.bool n5) ∧ ((w'.setCell ⟨h i, k * 2, none⟩ u).setCell ⟨h i, k * 2 + 1, none⟩ v).cell? ⟨bl, 1, none⟩ = some (.slice A5 k5 c5) from ⟨by rw [World.cell?_setCell_other _ _ _ _ (by intro e; injection e with e1 e2; exact hne0 e1), World.cell?_setCell_other _ _ _ _ (by intro e; injection e with e1 e2; exact hne0 e1)]; exact hx.cell cI, by rw [World.cell?_setCell_other _ _ _ _ (by intro e; injection e with e1 e2; exact hne2 e1), World.cell?_setCell_other _ _ _ _ (by intro e; injection e with e1 e2; exact hne2 e1)]; exact hx.cell c91, by rw [World.cell?_setCell_other _ _ _ _ (by intro e; injection e with e1 e2; exact hne2 e1), World.cell?_setCell_other _ _ _ _ (by intro e; injection e with e1 e2; exact hne2 e1)]; exact hx.cell c92, by rw [World.cell?_setCell_other _ _ _ _ (by intro e; injection e with e1 e2; exact hne3 e1), World.cell?_setCell_other _ _ _ _ (by intro e; injection e with e1 e2; exact hne3 e1)]; exact hx.cell c111, by rw [World.cell?_setCell_other _ _ _ _ (by intro e; injection e with e1 e2; exact hne3 e1), World.cell?_setCell_other _ _ _ _ (by intro e; injection e with e1 e2; exact hne3 e1)]; exact hx.cell c112, by rw [World.cell?_setCell_other _ _ _ _ (by intro e; injection e with e1 e2; exact hne1 e1), World.cell?_setCell_other _ _ _ _ (by intro e; injection e with e1 e2; exact hne1 e1)]; exact hx.cell c51, by rw [World.cell?_setCell_other _ _ _ _ (by intro e; injection e with e1 e2; exact hne1 e1), World.cell?_setCell_other _ _ _ _ (by intro e; injection e with e1 e2; exact hne1 e1)]; exact hx.cell c52⟩))
                            go_upto_region 27 with (fail)
                            have HKeepd := Lib.hid (fun (w' : World) (hx : Ext wb w') => (show w'.cell? ⟨g, i, none⟩ = some (.slice (some ⟨h i, 0, none⟩) n (cp i)) ∧ w'.cell? ⟨b9, 0, none⟩ = some (.bool n9) ∧ w'.cell? ⟨b9, 1, none⟩ = some (.slice A9 k9 c9) ∧ w'.cell? ⟨b11, 0, none⟩ = some (.bool n11) ∧ w'.cell? ⟨b11, 1, none⟩ = some (.slice A11 k11 c11) ∧ w'.cell? ⟨bl, 0, none⟩ = some (.bool n5) ∧ w'.cell? ⟨bl, 1, none⟩ = some (.slice A5 k5 c5) from ⟨hx.cell cI, hx.cell c91, hx.cell c92, hx.cell c111, hx.cell c112, hx.cell c51, hx.cell c52⟩))
                            go_region_held3 (fun w' => w'.cell? ⟨g, i, none⟩ = some (.slice (some ⟨h i, 0, none⟩) n (cp i)) ∧ w'.cell? ⟨b9, 0, none⟩ = some (.bool n9) ∧ w'.cell? ⟨b9, 1, none⟩ = some (.slice A9 k9 c9) ∧ w'.cell? ⟨b11, 0, none⟩ = some (.bool n11) ∧ w'.cell? ⟨b11, 1, none⟩ = some (.slice A11 k11 c11) ∧ w'.cell? ⟨bl, 0, none⟩ = some (.bool n5) ∧ w'.cell? ⟨bl, 1, none⟩ = some (.slice A5 k5 c5)) (first | exact HKeep2.out _ hxA _ _ | exact HKeepd.out _ hxA | exact HKeepd.out _ ((Ext.refl wb).drew))
                              (first
                                | (go_at_call 111; refine (HNeg.out _ (by repeat (first | exact Ext.refl _ | exact hxA | refine Ext.drew ?_ | refine Ext.drewN ?_ _ | refine Ext.setCell ?_ (by first | exact Nat.le_refl _ | (simp only []; omega)) _ | refine Ext.alloc ?_ _))).mono ?_; rintro e w4 ⟨nN, rfl, hiN, hx⟩; have hxA : Ext wb w4 := Ext.trans (by repeat (first | exact Ext.refl _ | exact hxA | refine Ext.drew ?_ | refine Ext.drewN ?_ _ | refine Ext.setCell ?_ (by first | exact Nat.le_refl _ | (simp only []; omega)) _ | refine Ext.alloc ?_ _)) hx; have HIN := Lib.hid hiN; clear hiN hx)
                                | (go_at_call 110; refine (HAdd.out _ hxA _ HIN.out).mono ?_; rintro e w5 ⟨nS, AS, kS, cS, rfl, hiS, hx⟩; have hxB := hxA.trans hx; clear hxA; have hxA := hxB; clear hxB; have HIS := Lib.hid hiS; clear hiS hx)
                                | (go_at_call 109; refine (HEx.out _ hxA _ _ _ _ HIS.out).mono ?_; rintro e w6 ⟨nx, Ax, kx, cx, rfl, hix, hx⟩; have hxB := hxA.trans hx; clear hxA; have hxA := hxB; clear hxB; have HIx := Lib.hid hix; clear hix; have q1 := hxA.cell cik1; have q2 := hxA.cell cik2; have q3 := hxA.free fik1 (lt_of_cell cik1); have q4 := hxA.free fik2 (lt_of_cell cik2)))
                            all_goals
                              have HMe : Hid (MatR ((w6.setCell ⟨h i, k * 2, none⟩ (.bool nx)).setCell ⟨h i, k * 2 + 1, none⟩ (.slice Ax kx cx)) W0.heap.size g n h cp (fun a b => if a = i ∧ b = k then dmin f (j + 1) i k else mk a b)) := (HMd.out.ext hxA).set_ hin hkn HIx.out
                              have HBe : Hid (RRow ((w6.setCell ⟨h i, k * 2, none⟩ (.bool nx)).setCell ⟨h i, k * 2 + 1, none⟩ (.slice Ax kx cx)) bl 1 (fun _ => det j f)) := (HBd.out.ext hxA).far hne1 q1 q2
                              have HXe : Hid (Ext W0 ((w6.setCell ⟨h i, k * 2, none⟩ (.bool nx)).setCell ⟨h i, k * 2 + 1, none⟩ (.slice Ax kx cx))) := setRI_ext ((HXk.out.trans HXb.out).trans hxA) (HMd.out.low i hin)
                              have HCe := Lib.hid (HCk.out.step hji hjk)
                              clear HIx hxA q1 q2 q3 q4 HMd HBd HXb HCk
                              go_wp2
                              go_roundg (gk - 1)
                              case measure => omega
                              case rel => exact ⟨k + 1, _, by omega, by omega, by go_num, HMe, HCe, HBe, HXe⟩
                      · obtain rfl : n = k := by omega
                        obtain ⟨nir, Air, kir, cir, cir1, cir2, iir⟩ := (HMk.out.row i hin).cells j hjn
                        have fik := (HMk.out.row i hin).free
                        have fik1 := fik (j * 2)
                        have fik2 := fik (j * 2 + 1)
                        have hne1 : h i ≠ bl := HNe.out i hin
                        have HMe : Hid (MatR ((wr.setCell ⟨h i, j * 2, none⟩ (.bool false)).setCell ⟨h i, j * 2 + 1, none⟩ (.slice none 0 0)) W0.heap.size g n h cp (fun a b => if a = i ∧ b = j then 0 else mk a b)) := HMk.out.set_ hin hjn (isRI_zero _)
                        have HBe : Hid (RRow ((wr.setCell ⟨h i, j * 2, none⟩ (.bool false)).setCell ⟨h i, j * 2 + 1, none⟩ (.slice none 0 0)) bl 1 (fun _ => det j f)) := HBk.out.far hne1 cir1 cir2
                        have HXe : Hid (Ext W0 ((wr.setCell ⟨h i, j * 2, none⟩ (.bool false)).setCell ⟨h i, j * 2 + 1, none⟩ (.slice none 0 0))) := setRI_ext HXk.out (HMk.out.low i hin)
                        have HRe := Lib.hid (HCk.out.done hji 0)
                        clear fik iir HMk HBk HXk HCk
                        go_wp2
                        go_roundg (n - (i + 1))
                        case measure => omega
                        case rel => exact ⟨i + 1, _, by omega, by omega, by go_num, HMe, HRe, HBe, HXe⟩
                  · obtain rfl : n = i := by omega
                    obtain ⟨nrr, Arr, krr, crr, crr1, crr2, irr⟩ := (HMi.out.row j hjn).cells j hjn
                    rw [HRi.out.2 j j (by omega) (by omega) hjn (by omega) hjn, dmin_corner] at irr
                    have cR := HMi.out.rows j hjn
                    have cpR := HMi.out.cap j hjn
                    obtain ⟨n5, A5, k5, c5, c51, c52, i5⟩ := HBi.out.one
                    have f51 := HBi.out.free 0
                    have f52 := HBi.out.free 1
                    have HIrr := Lib.hid irr
                    have HP : Hid (StInv W0 ((wr.setCell ⟨bl, 0, none⟩ (.bool nrr)).setCell ⟨bl, 1, none⟩ (.slice Arr krr crr)) W0.heap.size n (j + 1) g bl h cp f) := by
                      refine ⟨⟨mi, ⟨fun a ha => ?_, HMi.out.cap, fun a ha => ?_, HMi.out.inj, HMi.out.low, HMi.out.glow, (HMi.out.typ.set_ _ _).set_ _ _⟩, HRi.out.done⟩, RRow.put1 HIrr.out c51 c52 ⟨HBi.out.typ, HBi.out.free⟩, HNe.out, HLw.out, setRI_ext HXi.out HLw.out⟩
                      · have hgb : g ≠ bl := HMi.out.typ.ne HBi.out.typ (by decide)
                        rw [World.cell?_setCell_other _ _ _ _ (by intro e; injection e with e1 e2; exact hgb e1.symm), World.cell?_setCell_other _ _ _ _ (by intro e; injection e with e1 e2; exact hgb e1.symm)]
                        exact HMi.out.rows a ha
                      · exact (HMi.out.row a ha).far (fun e => HNe.out a ha e.symm) c51 c52
                    clear irr i5 HMi HRi HBi HXi HIrr
                    go_wp2
                    go_roundg (n - (j + 1))
                    case measure => omega
                    case rel => exact ⟨j + 1, j + 1, by omega, rfl, by go_num, by go_num, HP, Or.inl rfl⟩
          · obtain rfl : n = j := by omega
            go_wp2_with fail
            refine HCo.out.mono ?_
            rintro e w3 ⟨rfl, hx⟩
            have HS3 := Lib.hid (HS.out.next hx)
            clear hx HS HCo
            have hx3 : Ext w w3 := HX.out.trans HS3.out.ext
            have hs3 : w.heap.size < w3.heap.size := by have := HS3.out.ext.size; omega
            have k3 := HS3.out.ext.cell c0a
            have k4 := HS3.out.ext.cell c0b
            have k5 := HS3.out.ext.free f0a (lt_of_cell c0a)
            have k6 := HS3.out.ext.free f0b (lt_of_cell c0b)
            have HXe := Lib.hid hx3
            clear hx3
            rcases HD.out with h | h
            · obtain rfl : n = r := h
              obtain ⟨n5, A5, k5', c5, c51, c52, i5⟩ := HS3.out.box.one
              have HI5 := Lib.hid i5
              have hnb : w.heap.size ≠ bl := by have := HS3.out.low; omega
              clear i5 HS3 HD
              go_wp2
              go_region
              all_goals
                go_wp2
                have y1 : (w3.setCell ⟨w.heap.size, 0, none⟩ (.bool n5)).cell? ⟨w.heap.size, 1, none⟩ = some (.slice none 0 0) := by
                  rw [World.cell?_setCell_other _ _ _ _ (by simp)]; exact k4
                exact bodyPost_ret (v := .tuple #[.int .i64 (n : Int), .agg #[.bool n5, .slice A5 k5' c5]]) (by simp [results, Tryz.results86, go_sem, k3, k4]) rfl ⟨n, n5, A5, k5', c5, rfl, by first | exact (HI5.out.setBool k3 _).setBox y1 _ | exact ((HI5.out.setBool k3 _).setBox y1 _).ext (Ext.refl _).drew, (by repeat (first | exact HXe.out | refine Ext.drew ?_ | refine Ext.drewN ?_ _ | refine Ext.setCell ?_ (by first | exact Nat.le_refl _ | (simp only []; omega)) _ | refine Ext.alloc ?_ _))⟩
            · obtain ⟨_, hr, hd⟩ := h
              have HZ := Lib.hid hd
              have hrn : r < n := by omega
              clear HS3 HD hd
              go_wp2
              exact bodyPost_ret (v := .tuple #[.int .i64 (r : Int), .agg #[.bool false, .slice none 0 0]]) (by simp [results, Tryz.results86, go_sem, k3, k4]) rfl ⟨r, false, none, 0, 0, rfl, by rw [HZ.out]; exact isRI_zero _, (by repeat (first | exact HXe.out | refine Ext.drew ?_ | refine Ext.drewN ?_ _ | refine Ext.setCell ?_ (by first | exact Nat.le_refl _ | (simp only []; omega)) _ | refine Ext.alloc ?_ _))⟩
end Go.Proofs.YtiihnoelclnahaaGreatDoor
namespace Go.Proofs.YtiihnoelclnahaaGreatDoor
open Go.RowKit Go.Proofs.YtiihnoelclnahaaGreatDoorW.PrintWords Go.Proofs.YtiihnoelclnahaaGreatDoor.Ref
set_option linter.unusedVariables false
set_option linter.unusedSimpArgs false
set_option maxHeartbeats 1000000 in
set_option maxRecDepth 100000 in
theorem rdet_any (A : Option Addr) (n c : Nat) (f : Nat → Nat → Int) (w : World) (hn1 : 1 ≤ n) (hn8 : n ≤ 8) (hin : InR w A n f) (hsm : SmallM n f) (hp : ∀ r, r + 1 < n → det (r + 1) f ≠ 0) :
    Calls Tryz.prog 63 #[.slice A n c] w fun e w' => ∃ (neg : Bool) (B : Option Addr) (k cc : Nat), e = .returned (.agg #[.bool neg, .slice B k cc]) ∧ IsRI w' neg B k cc (det n f) ∧ Ext w w' := by
  obtain ⟨W0, hWW0⟩ : ∃ W0 : World, w.alloc (.cells #[.bool false, .slice none 0 0] 82) = W0 := ⟨_, rfl⟩
  have hXW0 : Ext w W0 := by rw [← hWW0]; exact ((Ext.refl w).alloc _)
  have hsW0 : w.heap.size + 1 ≤ W0.heap.size := by rw [← hWW0]; simp only [World.size_alloc]; omega
  have c0a : W0.cell? ⟨w.heap.size, 0, none⟩ = some (.bool false) := by rw [← hWW0]; simp [go_sem]
  have f0a : W0.frozen? ⟨w.heap.size, 0, none⟩ = false := by rw [← hWW0]; simp [go_sem]
  have c0b : W0.cell? ⟨w.heap.size, 1, none⟩ = some (.slice none 0 0) := by rw [← hWW0]; simp [go_sem]
  have f0b : W0.frozen? ⟨w.heap.size, 1, none⟩ = false := by rw [← hWW0]; simp [go_sem]
  have HWW0 := Lib.hid hWW0
  clear hWW0
  have HX := Lib.hid hXW0
  have HC := Lib.hid (fun W (hx : Ext W0 W) => steps_any A n c f W hn1 hn8 ((hin.ext hXW0).ext hx) hsm hp)
  clear hXW0 hin hsm hp
  go_enter Tryz.func63, Tryz.ntmps63
  go_wp2_with fail
  rw [HWW0.out]
  refine (HC.out _ (Ext.refl _)).mono ?_
  rintro e w1 ⟨r, neg, B, k, cc, rfl, hi, hx⟩
  replace f0a := hx.free f0a (lt_of_cell c0a)
  replace c0a := hx.cell c0a
  replace f0b := hx.free f0b (lt_of_cell c0b)
  replace c0b := hx.cell c0b
  have hX := Lib.hid (HX.out.trans hx)
  have HI := Lib.hid hi
  have hs1 : w.heap.size + 1 ≤ w1.heap.size := Nat.le_trans hsW0 hx.size
  clear hx hi HC HX HWW0
  have l0 : w.heap.size < w1.heap.size := by omega
  go_wp2
  have y1 : (w1.setCell ⟨w.heap.size, 0, none⟩ (.bool neg)).cell? ⟨w.heap.size, 1, none⟩ = some (.slice none 0 0) := by
    rw [World.cell?_setCell_other _ _ _ _ (by simp)]; exact c0b
  exact bodyPost_ret (v := .agg #[.bool neg, .slice B k cc]) (by simp [results, Tryz.results63, go_sem, c0a, c0b, l0]) rfl ⟨neg, B, k, cc, rfl, ((HI.out.setBool c0a _).setBox y1 _).ext ((Ext.refl _).alloc _), (by repeat (first | exact hX.out | refine Ext.drew ?_ | refine Ext.drewN ?_ _ | refine Ext.setCell ?_ (by first | exact Nat.le_refl _ | (simp only []; omega)) _ | refine Ext.alloc ?_ _))⟩
/-- The entries of a corner, as the reference's numbers. -/
def cornerL (f : Nat → Nat → Int) (k : Nat) : List (List S82) := (List.range k).map fun i => (List.range k).map fun j => ⟨decide (f i j < 0), digR (f i j).natAbs⟩
theorem rof_ev {z : Int} (h0 : -9223372036854775808 ≤ z) (h1 : z ≤ 9223372036854775807) : Evl (fun k => parquetref05_Of.f k z) (decide (z < 0), digR z.natAbs) := by
  obtain ⟨K, hK⟩ := of_ev (n := z.natAbs) (by omega)
  refine ⟨K, fun k hk => ?_⟩
  have hK2 : parquetref01_Of.f k (z.natAbs : Int) = some (digR z.natAbs) := hK k hk
  show parquetref05_Of.f k z = _
  unfold parquetref05_Of.f
  by_cases h : z < 0
  · have e1 : IntKind.u64.wrap z = 18446744073709551616 - (z.natAbs : Int) := by show z % 18446744073709551616 = _; omega
    have e2 : IntKind.u64.wrap (-(IntKind.u64.wrap z)) = (z.natAbs : Int) := by rw [e1]; show (-(18446744073709551616 - (z.natAbs : Int))) % 18446744073709551616 = _; omega
    rw [if_pos h, e2, hK2]; rfl
  · have e1 : IntKind.u64.wrap z = (z.natAbs : Int) := by show z % 18446744073709551616 = _; omega
    rw [if_neg h, e1, hK2]; rfl
theorem corner_l1 {rows : List (List Int)} {k : Nat} (hk : k ≤ 8) (hr : k ≤ rows.length) (hl : ∀ l ∈ rows, k ≤ l.length) (hf : Fit64 rows) {res : List (List S82)} {i : Nat} (hi : i < k) {out : List (List S82)} (ho : out.length ≤ 100)
    (hnext : Evl (fun q => parquetref07_corner.l0 q rows k (out ++ [(List.range k).map fun j => ⟨decide (entry rows i j < 0), digR (entry rows i j).natAbs⟩]) ((i + 1 : Nat) : Int)) res) :
    ∀ (d j : Nat), k - j = d → j ≤ k → Evl (fun q => parquetref07_corner.l1 q rows k out i ((List.range j).map fun j => ⟨decide (entry rows i j < 0), digR (entry rows i j).natAbs⟩) j) res := by
  intro d
  induction d with
  | zero =>
    intro j hd hj
    obtain rfl : j = k := by omega
    refine hnext.step fun q => ?_
    rw [parquetref07_corner.l1, if_neg (by omega), if_pos (by omega), wr (by omega) (by omega)]; rfl
  | succ d ih =>
    intro j hd hj
    obtain ⟨l, hll⟩ : ∃ l, rows[i]? = some l := ⟨_, List.getElem?_eq_getElem (by omega)⟩
    have hlk : k ≤ l.length := hl l (by obtain ⟨h1, rfl⟩ := List.getElem?_eq_some_iff.1 hll; exact List.getElem_mem h1)
    obtain ⟨z, hz⟩ : ∃ z, l[j]? = some z := ⟨_, List.getElem?_eq_getElem (by omega)⟩
    obtain ⟨z0, z1⟩ := hf.at_ hll hz
    have e1 : rd_L7 rows (i : Int) = l := by unfold rd_L7; rw [Int.toNat_natCast, List.getD_eq_getElem?_getD, hll]; rfl
    have e2 : rd l (j : Int) = z := by unfold rd; rw [Int.toNat_natCast, List.getD_eq_getElem?_getD, hz]; rfl
    have e3 : entry rows i j = z := by unfold entry; rw [hll, Option.getD_some, hz, Option.getD_some]
    have h2 := ih (j + 1) (by omega) (by omega)
    rw [List.range_succ, List.map_append] at h2
    simp only [List.map_cons, List.map_nil, e3] at h2
    refine ((rof_ev z0 z1).bind (f := fun q t => parquetref07_corner.l1 q rows k out i (((List.range j).map fun j => (⟨decide (entry rows i j < 0), digR (entry rows i j).natAbs⟩ : S82)) ++ [⟨t.1, t.2⟩]) ((j + 1 : Nat) : Int)) h2).step fun q => ?_
    rw [parquetref07_corner.l1, if_pos (by omega), if_pos (by omega), if_pos (by omega), if_pos (by omega), e1, if_pos (by omega), e2]
    congr 1
    funext t
    rw [if_pos (by simp; omega), wr (by omega) (by omega)]; rfl
theorem corner_ev {rows : List (List Int)} {k : Nat} (hk : k ≤ 8) (hr : k ≤ rows.length) (hl : ∀ l ∈ rows, k ≤ l.length) (hf : Fit64 rows) : Evl (fun q => parquetref07_corner.f q rows k) (cornerL (entry rows) k) := by
  have key : ∀ (d i : Nat), k - i = d → i ≤ k → Evl (fun q => parquetref07_corner.l0 q rows k ((List.range i).map fun i => (List.range k).map fun j => ⟨decide (entry rows i j < 0), digR (entry rows i j).natAbs⟩) i) (cornerL (entry rows) k) := by
    intro d
    induction d with
    | zero =>
      intro i hd hi
      obtain rfl : i = k := by omega
      refine (Evl.const _).step fun q => ?_
      rw [parquetref07_corner.l0, if_neg (by omega)]; rfl
    | succ d ih =>
      intro i hd hi
      have h2 := ih (i + 1) (by omega) (by omega)
      rw [List.range_succ, List.map_append] at h2
      have h1 := corner_l1 hk hr hl hf (i := i) (by omega) (by simp; omega) h2 k 0 (by omega) (by omega)
      refine h1.step fun q => ?_
      rw [parquetref07_corner.l0, if_pos (by omega)]; rfl
  exact key k 0 (by omega) (by omega)
theorem rows_C {w : World} {A : Option Addr} {rows : List (List Int)} (h : IsRows w A rows) (hf : Fit64 rows) : Kd.C (Kd.slice 38 (Kd.int .i64)) w A rows.length rows := by
  refine ⟨rfl, by have := hf.1; omega, fun hn => ?_⟩
  obtain ⟨b, off, e, hb, hc⟩ := h hn
  refine ⟨⟨b, off, none⟩, e, fun j p hj => ?_⟩
  obtain ⟨R, c, h1, h2, h3⟩ := hc j p hj
  refine ⟨[.slice R p.length c], rfl, ⟨R, c, rfl, h2, ?_⟩, fun i u hu => ?_⟩
  · refine Kd.C_of_reads (d := (0 : Int)) ⟨rfl, by have := (hf.row hj).1; omega, fun hp => ?_⟩
    obtain ⟨b2, o2, e2, _, hc2⟩ := h3 hp
    refine ⟨⟨b2, o2, none⟩, e2, fun q hq => ?_⟩
    have hz : p[q]? = some (p.getD q 0) := by rw [List.getD_eq_getElem?_getD, List.getElem?_eq_getElem hq]; rfl
    rw [← hc2 q _ hz]
    unfold Addr.add
    split
    · subst_vars; rfl
    · rfl
  · have : i = 0 := by have := (List.getElem?_eq_some_iff.1 hu).1; simpa using this
    subst this
    simp at hu
    subst hu
    rw [show (Kd.slice 38 (Kd.int .i64)).sz = 1 from rfl, Nat.mul_one, Nat.add_zero, ← h1]
    unfold Addr.add
    split
    · subst_vars; rfl
    · rfl
/-- A row of the call's own: its block, and each element's cells. -/
theorem own_get {α : Type} {d : Kd α} {e : Nat} {w : World} {base : Nat} {ok : Nat → Prop} {v : Value} {xs : List α} (h : Kd.R d e w base ok v xs) (hx : 0 < xs.length) :
    ∃ g cap, v = .slice (some ⟨g, 0, none⟩) xs.length cap ∧ xs.length ≤ cap ∧ ∀ j p, xs[j]? = some p → ∃ (ok' : Nat → Prop) (cs : List Value), d.M w base ok' p cs ∧ ∀ i u, cs[i]? = some u → w.cell? ⟨g, j * d.sz + i, none⟩ = some u := by
  obtain ⟨_, inner, ho, hr⟩ := h
  rcases ho.2 with ⟨_, h0⟩ | ⟨g, cap, cur, rfl, hg, hh, hnc, hcm, hcs, hct⟩
  · omega
  · refine ⟨g, cap, rfl, hnc, fun j p hj => ⟨_, _, hr.2 j p hj, fun i u hu => ?_⟩⟩
    have hjl := (List.getElem?_eq_some_iff.1 hj).1
    have hi : i < d.sz := by
      have := (List.getElem?_eq_some_iff.1 hu).1
      rw [List.length_take] at this
      omega
    rw [List.getElem?_take, if_pos hi, List.getElem?_drop] at hu
    have hlt : j * d.sz + i < xs.length * d.sz := by
      have h1 : (j + 1) * d.sz ≤ xs.length * d.sz := Nat.mul_le_mul_right _ hjl
      rw [Nat.add_mul, Nat.one_mul] at h1
      omega
    rw [ho.cellAt _ hlt]
    exact hu
theorem corner_in {w : World} {base : Nat} {ok : Nat → Prop} {v : Value} {f : Nat → Nat → Int} {k : Nat} (hk : 1 ≤ k) (h : Kd.R (Kd.slice 82 k82) 153 w base ok v (cornerL f k)) :
    ∃ A c, v = .slice A k c ∧ k ≤ c ∧ InR w A k f := by
  have hl : (cornerL f k).length = k := by unfold cornerL; rw [List.length_map, List.length_range]
  obtain ⟨g, cap, hv, hcap, hc⟩ := own_get h (by omega)
  rw [hl] at hv hcap
  refine ⟨_, cap, hv, hcap, ⟨fun i hi => ?_⟩⟩
  have h1 : (cornerL f k)[i]? = some ((List.range k).map fun j => (⟨decide (f i j < 0), digR (f i j).natAbs⟩ : S82)) := by
    unfold cornerL; rw [List.getElem?_map, List.getElem?_range hi]; rfl
  obtain ⟨ok', cs, ⟨v1, rfl, hR⟩, hcell⟩ := hc i _ h1
  have hl1 : ((List.range k).map fun j => (⟨decide (f i j < 0), digR (f i j).natAbs⟩ : S82)).length = k := by rw [List.length_map, List.length_range]
  obtain ⟨g1, cap1, hv1, hcap1, hc1⟩ := own_get hR (by omega)
  rw [hl1] at hv1 hcap1
  have h2 := hcell 0 v1 rfl
  rw [hv1, show (Kd.slice 82 k82).sz = 1 from rfl, Nat.mul_one, Nat.add_zero] at h2
  refine ⟨g, 0, _, cap1, rfl, by rw [Nat.zero_add]; exact h2, hcap1, fun j hj => ?_⟩
  have h3 : ((List.range k).map fun j => (⟨decide (f i j < 0), digR (f i j).natAbs⟩ : S82))[j]? = some ⟨decide (f i j < 0), digR (f i j).natAbs⟩ := by
    rw [List.getElem?_map, List.getElem?_range hj]; rfl
  obtain ⟨ok2, cs2, hM, hcell2⟩ := hc1 j _ h3
  obtain ⟨v2, rfl, hR2⟩ := k82_openM hM
  obtain ⟨B, kk, cc, rfl, hN⟩ := rn_R hR2
  have h4 := hcell2 0 _ rfl
  have h5 := hcell2 1 _ rfl
  rw [show k82.sz = 2 from rfl] at h4 h5
  exact ⟨g1, 0, _, B, kk, cc, rfl, by rw [Nat.zero_add]; exact h4, by rw [Nat.zero_add]; exact h5, ⟨hN, rfl⟩⟩
theorem corner_any (A : Option Addr) (n c k : Nat) (rows : List (List Int)) (w : World) (hn : n = rows.length) (hnc : n ≤ c) (hk1 : 1 ≤ k) (hk : k ≤ 8) (hkn : k ≤ n) (hl : ∀ l ∈ rows, k ≤ l.length) (hr : IsRows w A rows) (hf : Fit64 rows) :
    Calls Tryz.prog 64 #[.slice A n c, .int .i64 k] w fun e w' => ∃ A' c', e = .returned (.slice A' k c') ∧ k ≤ c' ∧ InR w' A' k (entry rows) ∧ Ext w w' := by
  obtain ⟨K, hK⟩ := (corner_ev hk (by omega) hl hf).one
  subst hn
  exact (parquetref07_corner.calls K A c rows k _ w (rows_C hr hf) hnc hK).mono fun e w' ⟨v, he, hR, hx⟩ => by
    obtain ⟨A', c', rfl, hc, hI⟩ := corner_in hk1 hR
    exact ⟨A', c', he, hc, hI, hx⟩
set_option maxHeartbeats 1000000 in
set_option maxRecDepth 100000 in
theorem minor_any (A : Option Addr) (n c k : Nat) (rows : List (List Int)) (w : World) (hn : n = rows.length) (hnc : n ≤ c) (hk1 : 1 ≤ k) (hk : k ≤ 8) (hkn : k ≤ n) (hl : ∀ l ∈ rows, k ≤ l.length) (hr : IsRows w A rows) (hf : Fit64 rows) (hsm : SmallM k (entry rows)) (hp : ∀ r, r + 1 < k → det (r + 1) (entry rows) ≠ 0) :
    Calls Tryz.prog 41 #[.slice A n c, .int .i64 k] w fun e w' => ∃ (neg : Bool) (B : Option Addr) (kk cc : Nat), e = .returned (.agg #[.bool neg, .slice B kk cc]) ∧ IsRI w' neg B kk cc (det k (entry rows)) ∧ Ext w w' := by
  obtain ⟨W0, hWW0⟩ : ∃ W0 : World, w.alloc (.cells #[.bool false, .slice none 0 0] 82) = W0 := ⟨_, rfl⟩
  have hXW0 : Ext w W0 := by rw [← hWW0]; exact ((Ext.refl w).alloc _)
  have hsW0 : w.heap.size + 1 ≤ W0.heap.size := by rw [← hWW0]; simp only [World.size_alloc]; omega
  have c0a : W0.cell? ⟨w.heap.size, 0, none⟩ = some (.bool false) := by rw [← hWW0]; simp [go_sem]
  have f0a : W0.frozen? ⟨w.heap.size, 0, none⟩ = false := by rw [← hWW0]; simp [go_sem]
  have c0b : W0.cell? ⟨w.heap.size, 1, none⟩ = some (.slice none 0 0) := by rw [← hWW0]; simp [go_sem]
  have f0b : W0.frozen? ⟨w.heap.size, 1, none⟩ = false := by rw [← hWW0]; simp [go_sem]
  have HWW0 := Lib.hid hWW0
  clear hWW0
  have HX := Lib.hid hXW0
  have HC := Lib.hid (fun W (hx : Ext W0 W) => corner_any A n c k rows W hn hnc hk1 hk hkn hl ((hr.ext hXW0).ext hx) hf)
  have HD := Lib.hid (fun A' c' W (h : InR W A' k (entry rows)) => rdet_any A' k c' (entry rows) W hk1 hk h hsm hp)
  clear hXW0 hr hf hsm hp hl hn
  go_enter Tryz.func41, Tryz.ntmps41
  go_wp2_with fail
  rw [HWW0.out]
  refine (HC.out _ (Ext.refl _)).mono ?_
  rintro e w1 ⟨A', c', rfl, hcc, hI, hx⟩
  replace f0a := hx.free f0a (lt_of_cell c0a)
  replace c0a := hx.cell c0a
  replace f0b := hx.free f0b (lt_of_cell c0b)
  replace c0b := hx.cell c0b
  have hX := Lib.hid (HX.out.trans hx)
  have HI := Lib.hid hI
  clear hx hI HC HX HWW0
  go_wp2_with fail
  refine (HD.out _ _ _ HI.out).mono ?_
  rintro e w2 ⟨neg, B, kk, cc, rfl, hi, hx⟩
  replace f0a := hx.free f0a (lt_of_cell c0a)
  replace c0a := hx.cell c0a
  replace f0b := hx.free f0b (lt_of_cell c0b)
  replace c0b := hx.cell c0b
  have hX2 := Lib.hid (hX.out.trans hx)
  have HI2 := Lib.hid hi
  have y1 : (w2.setCell ⟨w.heap.size, 0, none⟩ (.bool neg)).cell? ⟨w.heap.size, 1, none⟩ = some (.slice none 0 0) := by
    rw [World.cell?_setCell_other _ _ _ _ (by simp)]; exact c0b
  clear hx hi hX HI HD
  go_wp2
  exact bodyPost_ret (v := .agg #[.bool neg, .slice B kk cc]) (by simp [results, Tryz.results41, go_sem, c0a, c0b]) rfl ⟨neg, B, kk, cc, rfl, (HI2.out.setBool c0a _).setBox y1 _, (by repeat (first | exact hX2.out | refine Ext.drew ?_ | refine Ext.drewN ?_ _ | refine Ext.setCell ?_ (by first | exact Nat.le_refl _ | (simp only []; omega)) _ | refine Ext.alloc ?_ _))⟩
end Go.Proofs.YtiihnoelclnahaaGreatDoor
namespace Go.Proofs.YtiihnoelclnahaaGreatDoor
open Go.RowKit
set_option linter.unusedVariables false
set_option maxHeartbeats 4000000 in
set_option maxRecDepth 100000 in
theorem positive_any (A : Option Addr) (n c : Nat) (rows : List (List Int)) (w : World) (hn : n = rows.length) (hn1 : 1 ≤ n) (hn8 : n ≤ 100) (hr : IsRows w A rows) (hf : Fit64 rows) (hsq : ∀ l ∈ rows, l.length = n) :
    Calls Tryz.prog 37 #[.slice A n c] w fun e w' => e = .returned (.bool (posB n (entry rows))) ∧ Ext w w' := by
  obtain ⟨W0, hWW0⟩ : ∃ W0 : World, w.alloc (.cells #[.slice A n c] 39) = W0 := ⟨_, rfl⟩
  have hXW0 : Ext w W0 := by rw [← hWW0]; exact ((Ext.refl w).alloc _)
  have hsW0 : w.heap.size + 1 ≤ W0.heap.size := by rw [← hWW0]; simp only [World.size_alloc]; omega
  have c0 : W0.cell? ⟨w.heap.size, 0, none⟩ = some (.slice A n c) := by rw [← hWW0]; simp [go_sem]
  have f0 : W0.frozen? ⟨w.heap.size, 0, none⟩ = false := by rw [← hWW0]; simp [go_sem]
  have HWW0 := Lib.hid hWW0
  clear hWW0
  have HSq := Lib.hid (square_any A n c rows w.heap.size W0 hn hn1 hn8 c0 (hr.ext hXW0) hf hsq)
  have HX := Lib.hid hXW0
  have HOne := Lib.hid (fun W => zOf_pos 1 W (by omega) (by omega))
  have hmf : ∀ (fn : Fn) (first cap : Array Value) (w : World), (Instr.makeFunc fn first cap).run Tryz.prog w = .ok (.func fn first cap) w := fun _ _ _ _ => rfl
  clear hr hf hsq hn hXW0
  go_enter Tryz.func37, Tryz.ntmps37
  go_wp2_with fail
  rw [HWW0.out]
  refine HSq.out.mono ?_
  rintro e w1 ⟨g, cap, h, rfl, hnc, hM, hx⟩
  have HX1 := Lib.hid (HX.out.trans hx)
  have HM := Lib.hid hM
  clear hx hM HWW0 HSq HX c0 f0
  go_wp2_with fail
  refine (HOne.out _).mono ?_
  rintro e w2 ⟨A1, k1, rfl, hi, hx⟩
  have HX2 := Lib.hid (HX1.out.trans hx)
  have HM2 := Lib.hid (HM.out.ext hx)
  have HL2 := Lib.hid hi
  clear hx hi HX1 HM HOne
  go_wp2
  have hlow1 : w.heap.size + 1 ≤ W0.heap.size := hsW0
  obtain ⟨bl, hbl⟩ : ∃ bl, w2.heap.size = bl := ⟨_, rfl⟩
  obtain ⟨W3, hW3⟩ : ∃ W3, w2.alloc (.cells #[.bool false, .slice A1 k1 k1] 104) = W3 := ⟨_, rfl⟩
  have HP : Hid (PosInv w W3 W0.heap.size n 0 g bl h 1 (entry rows) (posB n (entry rows))) := by
    have hX3 : Ext w2 W3 := by rw [← hW3]; exact (Ext.refl w2).alloc _
    have hh := heap_new w2 (.cells #[.bool false, .slice A1 k1 k1] 104)
    rw [hW3, hbl] at hh
    refine ⟨HM2.out.ext hX3, ⟨fun j hj => ?_, fun o => ?_, ⟨_, _, hh⟩⟩, fun i hi => ?_, ?_, HX2.out.trans hX3, rfl⟩
    · obtain rfl : j = 0 := by omega
      exact ⟨false, A1, k1, by rw [cell_of_row _ _ _ _ _ _ hh]; rfl, by rw [cell_of_row _ _ _ _ _ _ hh]; rfl, HL2.out.ext hX3⟩
    · simp only [World.frozen?, hh]; rfl
    · have := (HM2.out.row i hi).lt; omega
    · have := HX2.out.size; omega
  rw [hW3, hbl]
  clear hW3 HL2 HM2 HX2 hbl
  go_loopg [22] n (fun kk rv wr => ∃ (r : Nat) (last : Int) (m : Nat → Nat → Int), kk + r = n ∧ rv = .int .i64 r ∧ Hid (PosInv w wr W0.heap.size n r g bl h last m (posB n (entry rows))))
  case atStart => exact ⟨0, 1, _, by omega, rfl, HP⟩
  case round =>
    clear HP
    obtain ⟨r, last, m, hkr, rfl, HI⟩ := hrel
    by_cases hrn : r < n
    · obtain ⟨nrr, Arr, krr, crr1, crr2, irr⟩ := (HI.out.mat.row r hrn).cells r hrn
      have cR := HI.out.mat.rows r hrn
      have HSg := Lib.hid (Sign_any nrr Arr krr (m r r) wr irr)
      obtain ⟨sg, hsg⟩ : ∃ sg, signZ (m r r) = sg := ⟨_, rfl⟩
      rw [hsg] at HSg
      have hsg2 : (sg ≤ 0 ↔ m r r ≤ 0) := by rw [← hsg]; unfold signZ; split <;> (try split) <;> omega
      have hpos := HI.out.pos
      rw [show n - r = (n - (r + 1)) + 1 by omega, barPos] at hpos
      by_cases hle : m r r ≤ 0
      · have hs0 : sg ≤ 0 := hsg2.2 hle
        rw [if_pos hle] at hpos
        have HPs := Lib.hid hpos
        have HXr := Lib.hid HI.out.ext
        clear hsg hsg2 hle hpos irr
        go_wp2_with fail
        refine HSg.out.mono ?_
        rintro e w3 ⟨rfl, hx⟩
        go_wp2
        go_ret
        rw [← HPs.out]
        exact ⟨rfl, HXr.out.trans hx⟩
      · have hs0 : 1 ≤ sg := by omega
        rw [if_neg hle] at hpos
        have HPs := Lib.hid hpos
        have HLe := Lib.hid hle
        clear hsg hsg2 hle hpos irr
        go_wp2_with fail
        refine HSg.out.mono ?_
        rintro e w3 ⟨rfl, hx⟩
        have HM3 := Lib.hid (HI.out.mat.ext hx)
        have HB3 := Lib.hid (HI.out.box.ext hx)
        have HX3 := Lib.hid (HI.out.ext.trans hx)
        have HNe := Lib.hid HI.out.ne
        have HLw := Lib.hid HI.out.low
        clear hx HSg HI crr1 crr2 cR
        go_wp2
        go_loopg [7] (n - (r + 1)) (fun kk iv wi => ∃ i : Nat, kk + i = n ∧ r < i ∧ iv = .int .i64 i ∧ Hid (MatZ wi W0.heap.size g n h (rowsTo n r i last m)) ∧ Hid (MRow wi bl 1 (fun _ => last)) ∧ Hid (Ext w wi))
        case atStart => exact ⟨r + 1, by omega, by omega, by go_num, by rw [rowsTo_start]; exact HM3, HB3, HX3⟩
        case round =>
          obtain ⟨i, hki, hri, rfl, HMi, HBi, HXi⟩ := hrel
          by_cases hin : i < n
          · go_wp2
            go_loopg [8] (n - (r + 1)) (fun kk kv wk => ∃ k : Nat, kk + k = n ∧ r < k ∧ kv = .int .i64 k ∧ Hid (MatZ wk W0.heap.size g n h (colsTo n r i k last m)) ∧ Hid (MRow wk bl 1 (fun _ => last)) ∧ Hid (Ext w wk))
            case atStart => exact ⟨r + 1, by omega, by omega, by go_num, by rw [colsTo_start]; exact HMi, HBi, HXi⟩
            case round =>
              obtain ⟨k, hkk, hrk, rfl, HMk, HBk, HXk⟩ := hrel
              by_cases hkn : k < n
              · have hreads := colsTo_reads n r i k last m hri hrk
                obtain ⟨nrr, Arr, krr, crr1, crr2, irr⟩ := (HMk.out.row r hrn).cells r hrn
                obtain ⟨nik, Aik, kik, cik1, cik2, iik⟩ := (HMk.out.row i hin).cells k hkn
                obtain ⟨nir, Air, kir, cir1, cir2, iir⟩ := (HMk.out.row i hin).cells r hrn
                obtain ⟨nrk, Ark, krk, crk1, crk2, irk⟩ := (HMk.out.row r hrn).cells k hkn
                rw [hreads.1] at irr
                rw [hreads.2.1] at iik
                rw [hreads.2.2.1] at iir
                rw [hreads.2.2.2] at irk
                have cR := HMk.out.rows r hrn
                have cI := HMk.out.rows i hin
                have HRR := Lib.hid irr
                have HIK := Lib.hid iik
                have HIR := Lib.hid iir
                have HRK := Lib.hid irk
                clear hreads irr iik iir irk
                have HMul1 := Lib.hid (fun W (hx : Ext wr W) => zMul_any nrr nik Arr Aik krr kik (m r r) (m i k) W (HRR.out.ext hx) (HIK.out.ext hx))
                go_upto_region 15 with (fail)
                go_cut [9] (fun s wx => ∃ bx, s = .pointer (some ⟨bx, 0, none⟩) ∧ wr.heap.size ≤ bx ∧ Hid (MRow wx bx 1 (fun _ => fitZ (m r r * m i k))) ∧ Hid (Ext wr wx))
                case first =>
                  have HKeep := Lib.hid (fun (w' : World) (hx : Ext wr w') => (show w'.cell? ⟨g, r, none⟩ = some (.slice (some ⟨h r, 0, none⟩) n n) ∧ w'.cell? ⟨g, i, none⟩ = some (.slice (some ⟨h i, 0, none⟩) n n) ∧ w'.cell? ⟨h r, r * 2, none⟩ = some (.bool nrr) ∧ w'.cell? ⟨h r, r * 2 + 1, none⟩ = some (.slice Arr krr krr) ∧ w'.cell? ⟨h i, k * 2, none⟩ = some (.bool nik) ∧ w'.cell? ⟨h i, k * 2 + 1, none⟩ = some (.slice Aik kik kik) from ⟨hx.cell cR, hx.cell cI, hx.cell crr1, hx.cell crr2, hx.cell cik1, hx.cell cik2⟩))
                  go_region_held3 (fun w' => w'.cell? ⟨g, r, none⟩ = some (.slice (some ⟨h r, 0, none⟩) n n) ∧ w'.cell? ⟨g, i, none⟩ = some (.slice (some ⟨h i, 0, none⟩) n n) ∧ w'.cell? ⟨h r, r * 2, none⟩ = some (.bool nrr) ∧ w'.cell? ⟨h r, r * 2 + 1, none⟩ = some (.slice Arr krr krr) ∧ w'.cell? ⟨h i, k * 2, none⟩ = some (.bool nik) ∧ w'.cell? ⟨h i, k * 2 + 1, none⟩ = some (.slice Aik kik kik)) (exact HKeep.out _ (by repeat (first | exact Ext.refl _ | exact hxA | refine Ext.drew ?_ | refine Ext.drewN ?_ _ | refine Ext.setCell ?_ (by first | exact Nat.le_refl _ | (simp only []; omega)) _ | refine Ext.alloc ?_ _)))
                    (first
                      | (go_at_call 52; refine (HMul1.out _ (by repeat (first | exact Ext.refl _ | exact hxA | refine Ext.drew ?_ | refine Ext.drewN ?_ _ | refine Ext.setCell ?_ (by first | exact Nat.le_refl _ | (simp only []; omega)) _ | refine Ext.alloc ?_ _))).mono ?_; rintro e w4 ⟨nx, Ax, kx, rfl, hix, hx⟩; have hxA : Ext wr w4 := Ext.trans (by repeat (first | exact Ext.refl _ | exact hxA | refine Ext.drew ?_ | refine Ext.drewN ?_ _ | refine Ext.setCell ?_ (by first | exact Nat.le_refl _ | (simp only []; omega)) _ | refine Ext.alloc ?_ _)) hx; have hsz := hxA.size; have HIx := Lib.hid hix; clear hix; try (have dd := newbox hx; obtain ⟨d1, d2, d3, d4, d5⟩ := dd)))
                  all_goals
                    go_wp2
                    go_meet
                    first
                    | exact ⟨w4.heap.size, rfl, hsz, MRow.new1 HIx.out, hxA.alloc _⟩
                    | exact ⟨wr.heap.size, rfl, Nat.le_refl _, MRow.put1 HIx.out d1 d2 d5, (hxA.setCell (p := ⟨_, 0, none⟩) (Nat.le_refl _) _).setCell (p := ⟨_, 1, none⟩) (Nat.le_refl _) _⟩
                case rest =>
                  obtain ⟨b9, rfl, hb9, HM9, HX9⟩ := hcut
                  obtain ⟨wa, hwa⟩ : ∃ wa, wc = wa := ⟨_, rfl⟩
                  rw [hwa] at HM9 HX9 ⊢
                  clear hwa wc HMul1 crr1 crr2 HRR
                  replace cR := HX9.out.cell cR
                  replace cI := HX9.out.cell cI
                  replace cir1 := HX9.out.cell cir1
                  replace cir2 := HX9.out.cell cir2
                  replace crk1 := HX9.out.cell crk1
                  replace crk2 := HX9.out.cell crk2
                  have HMul2 := Lib.hid (fun W (hx : Ext wa W) => zMul_any nir nrk Air Ark kir krk (m i r) (m r k) W ((HIR.out.ext HX9.out).ext hx) ((HRK.out.ext HX9.out).ext hx))
                  go_upto_region 16 with (fail)
                  go_cut [11] (fun s wx => ∃ bx, s = .pointer (some ⟨bx, 0, none⟩) ∧ wa.heap.size ≤ bx ∧ Hid (MRow wx bx 1 (fun _ => fitZ (m i r * m r k))) ∧ Hid (Ext wa wx))
                  case first =>
                    have HKeep := Lib.hid (fun (w' : World) (hx : Ext wa w') => (show w'.cell? ⟨g, r, none⟩ = some (.slice (some ⟨h r, 0, none⟩) n n) ∧ w'.cell? ⟨g, i, none⟩ = some (.slice (some ⟨h i, 0, none⟩) n n) ∧ w'.cell? ⟨h i, r * 2, none⟩ = some (.bool nir) ∧ w'.cell? ⟨h i, r * 2 + 1, none⟩ = some (.slice Air kir kir) ∧ w'.cell? ⟨h r, k * 2, none⟩ = some (.bool nrk) ∧ w'.cell? ⟨h r, k * 2 + 1, none⟩ = some (.slice Ark krk krk) from ⟨hx.cell cR, hx.cell cI, hx.cell cir1, hx.cell cir2, hx.cell crk1, hx.cell crk2⟩))
                    go_region_held3 (fun w' => w'.cell? ⟨g, r, none⟩ = some (.slice (some ⟨h r, 0, none⟩) n n) ∧ w'.cell? ⟨g, i, none⟩ = some (.slice (some ⟨h i, 0, none⟩) n n) ∧ w'.cell? ⟨h i, r * 2, none⟩ = some (.bool nir) ∧ w'.cell? ⟨h i, r * 2 + 1, none⟩ = some (.slice Air kir kir) ∧ w'.cell? ⟨h r, k * 2, none⟩ = some (.bool nrk) ∧ w'.cell? ⟨h r, k * 2 + 1, none⟩ = some (.slice Ark krk krk)) (exact HKeep.out _ (by repeat (first | exact Ext.refl _ | exact hxA | refine Ext.drew ?_ | refine Ext.drewN ?_ _ | refine Ext.setCell ?_ (by first | exact Nat.le_refl _ | (simp only []; omega)) _ | refine Ext.alloc ?_ _)))
                      (first
                        | (go_at_call 52; refine (HMul2.out _ (by repeat (first | exact Ext.refl _ | exact hxA | refine Ext.drew ?_ | refine Ext.drewN ?_ _ | refine Ext.setCell ?_ (by first | exact Nat.le_refl _ | (simp only []; omega)) _ | refine Ext.alloc ?_ _))).mono ?_; rintro e w4 ⟨nx, Ax, kx, rfl, hix, hx⟩; have hxA : Ext wa w4 := Ext.trans (by repeat (first | exact Ext.refl _ | exact hxA | refine Ext.drew ?_ | refine Ext.drewN ?_ _ | refine Ext.setCell ?_ (by first | exact Nat.le_refl _ | (simp only []; omega)) _ | refine Ext.alloc ?_ _)) hx; have hsz := hxA.size; have HIx := Lib.hid hix; clear hix; try (have dd := newbox hx; obtain ⟨d1, d2, d3, d4, d5⟩ := dd)))
                    all_goals
                      go_wp2
                      go_meet
                      first
                      | exact ⟨w4.heap.size, rfl, hsz, MRow.new1 HIx.out, hxA.alloc _⟩
                      | exact ⟨wa.heap.size, rfl, Nat.le_refl _, MRow.put1 HIx.out d1 d2 d5, (hxA.setCell (p := ⟨_, 0, none⟩) (Nat.le_refl _) _).setCell (p := ⟨_, 1, none⟩) (Nat.le_refl _) _⟩
                  case rest =>
                    obtain ⟨b11, rfl, hb11, HM11, HX11⟩ := hcut
                    obtain ⟨wb, hwb⟩ : ∃ wb, wc = wb := ⟨_, rfl⟩
                    rw [hwb] at HM11 HX11 ⊢
                    clear hwb wc HMul2 cir1 cir2 crk1 crk2 HIR HRK
                    obtain ⟨n9, A9, k9, c91, c92, i9⟩ := (HM9.out.ext HX11.out).one
                    obtain ⟨n11, A11, k11, c111, c112, i11⟩ := HM11.out.one
                    have HSub := Lib.hid (zSub_any n9 n11 A9 A11 k9 k11 _ _ wb i9 i11)
                    have HXb := Lib.hid (HX9.out.trans HX11.out)
                    clear i9 i11 cR cI cik1 cik2
                    go_wp2_with fail
                    refine HSub.out.mono ?_
                    rintro e w5 ⟨n13, A13, k13, rfl, hi13, hx5⟩
                    have HXc := Lib.hid (HXb.out.trans hx5)
                    have HI13 := Lib.hid hi13
                    clear hi13 hx5 HSub HXb HX11 c91 c92 c111 c112
                    go_upto_region 18 with (fail)
                    obtain ⟨b13, hb13⟩ : ∃ b13, w5.heap.size = b13 := ⟨_, rfl⟩
                    have hne2 : h i ≠ b13 := by have := (HMk.out.row i hin).lt; have := HXc.out.size; omega
                    obtain ⟨wd, hwd⟩ : ∃ wd, w5.alloc (.cells #[.bool n13, .slice A13 k13 k13] 104) = wd := ⟨_, rfl⟩
                    have HM13 := Lib.hid (MRow.new1 HI13.out)
                    have HXd := Lib.hid (HXc.out.alloc (.cells #[.bool n13, .slice A13 k13 k13] 104))
                    rw [hwd, hb13] at HM13
                    rw [hwd] at HXd
                    rw [hwd, hb13]
                    clear hwd HI13 HXc hb13
                    obtain ⟨n13', A13', k13', c131, c132, i13⟩ := HM13.out.one
                    obtain ⟨n5, A5, k5, c51, c52, i5⟩ := (HBk.out.ext HXd.out).one
                    have HMd := Lib.hid (HMk.out.ext HXd.out)
                    have HBd := Lib.hid (HBk.out.ext HXd.out)
                    obtain ⟨nik', Aik', kik', cik1, cik2, _⟩ := (HMd.out.row i hin).cells k hkn
                    have fik := (HMd.out.row i hin).free
                    have fik1 := fik (k * 2)
                    have fik2 := fik (k * 2 + 1)
                    have cI := HMd.out.rows i hin
                    have HEx := Lib.hid (fun W (hx : Ext wd W) => zExact_any n13' n5 A13' A5 k13' k5 _ _ W (i13.ext hx) (i5.ext hx))
                    clear fik i13 i5
                    have hne0 : h i ≠ g := HMd.out.ne hin
                    have hne1 : h i ≠ bl := HNe.out i hin
                    have HKeep2 := Lib.hid (fun (w' : World) (hx : Ext wd w') (u v : Value) => (show ((w'.setCell ⟨h i, k * 2, none⟩ u).setCell ⟨h i, k * 2 + 1, none⟩ v).cell? ⟨g, i, none⟩ = some (.slice (some ⟨h i, 0, none⟩) n n) ∧ ((w'.setCell ⟨h i, k * 2, none⟩ u).setCell ⟨h i, k * 2 + 1, none⟩ v).cell? ⟨b13, 0, none⟩ = some (.bool n13') ∧ ((w'.setCell ⟨h i, k * 2, none⟩ u).setCell ⟨h i, k * 2 + 1, none⟩ v).cell? ⟨b13, 1, none⟩ = some (.slice A13' k13' k13') ∧ ((w'.setCell ⟨h i, k * 2, none⟩ u).setCell ⟨h i, k * 2 + 1, none⟩ v).cell? ⟨bl, 0, none⟩ = some (.bool n5) ∧ ((w'.setCell ⟨h i, k * 2, none⟩ u).setCell ⟨h i, k * 2 + 1, none⟩ v).cell? ⟨bl, 1, none⟩ = some (.slice A5 k5 k5) from ⟨by rw [World.cell?_setCell_other _ _ _ _ (by intro e; injection e with e1 e2; exact hne0 e1), World.cell?_setCell_other _ _ _ _ (by intro e; injection e with e1 e2; exact hne0 e1)]; exact hx.cell cI, by rw [World.cell?_setCell_other _ _ _ _ (by intro e; injection e with e1 e2; exact hne2 e1), World.cell?_setCell_other _ _ _ _ (by intro e; injection e with e1 e2; exact hne2 e1)]; exact hx.cell c131, by rw [World.cell?_setCell_other _ _ _ _ (by intro e; injection e with e1 e2; exact hne2 e1), World.cell?_setCell_other _ _ _ _ (by intro e; injection e with e1 e2; exact hne2 e1)]; exact hx.cell c132, by rw [World.cell?_setCell_other _ _ _ _ (by intro e; injection e with e1 e2; exact hne1 e1), World.cell?_setCell_other _ _ _ _ (by intro e; injection e with e1 e2; exact hne1 e1)]; exact hx.cell c51, by rw [World.cell?_setCell_other _ _ _ _ (by intro e; injection e with e1 e2; exact hne1 e1), World.cell?_setCell_other _ _ _ _ (by intro e; injection e with e1 e2; exact hne1 e1)]; exact hx.cell c52⟩))
                    have HKeepd := Lib.hid (fun (w' : World) (hx : Ext wd w') => (show w'.cell? ⟨g, i, none⟩ = some (.slice (some ⟨h i, 0, none⟩) n n) ∧ w'.cell? ⟨b13, 0, none⟩ = some (.bool n13') ∧ w'.cell? ⟨b13, 1, none⟩ = some (.slice A13' k13' k13') ∧ w'.cell? ⟨bl, 0, none⟩ = some (.bool n5) ∧ w'.cell? ⟨bl, 1, none⟩ = some (.slice A5 k5 k5) from ⟨hx.cell cI, hx.cell c131, hx.cell c132, hx.cell c51, hx.cell c52⟩))
                    go_region_held3 (fun w' => w'.cell? ⟨g, i, none⟩ = some (.slice (some ⟨h i, 0, none⟩) n n) ∧ w'.cell? ⟨b13, 0, none⟩ = some (.bool n13') ∧ w'.cell? ⟨b13, 1, none⟩ = some (.slice A13' k13' k13') ∧ w'.cell? ⟨bl, 0, none⟩ = some (.bool n5) ∧ w'.cell? ⟨bl, 1, none⟩ = some (.slice A5 k5 k5)) (first | exact HKeep2.out _ hxA _ _ | exact HKeepd.out _ hxA | exact HKeepd.out _ ((Ext.refl wd).drew))
                      (first
                        | (go_at_call 54; refine (HEx.out _ (by repeat (first | exact Ext.refl _ | exact hxA | refine Ext.drew ?_ | refine Ext.drewN ?_ _ | refine Ext.setCell ?_ (by first | exact Nat.le_refl _ | (simp only []; omega)) _ | refine Ext.alloc ?_ _))).mono ?_; rintro e w4 ⟨nx, Ax, kx, rfl, hix, hx⟩; have hxA : Ext wd w4 := Ext.trans (by repeat (first | exact Ext.refl _ | exact hxA | refine Ext.drew ?_ | refine Ext.drewN ?_ _ | refine Ext.setCell ?_ (by first | exact Nat.le_refl _ | (simp only []; omega)) _ | refine Ext.alloc ?_ _)) hx; have hsz := hxA.size; have HIx := Lib.hid hix; clear hix; have q1 := hxA.cell cik1; have q2 := hxA.cell cik2; have q3 := hxA.free fik1 (lt_of_cell cik1); have q4 := hxA.free fik2 (lt_of_cell cik2)))
                    all_goals
                      have HMe : Hid (MatZ ((w4.setCell ⟨h i, k * 2, none⟩ (.bool nx)).setCell ⟨h i, k * 2 + 1, none⟩ (.slice Ax kx kx)) W0.heap.size g n h (colsTo n r i (k + 1) last m)) :=
                        ((HMd.out.ext hxA).set_ hin hkn HIx.out).congr fun a b _ _ => colsTo_step n r i k last m hrk a b
                      have HBe : Hid (MRow ((w4.setCell ⟨h i, k * 2, none⟩ (.bool nx)).setCell ⟨h i, k * 2 + 1, none⟩ (.slice Ax kx kx)) bl 1 (fun _ => last)) := (HBd.out.ext hxA).far hne1 q1 q2
                      have HXe : Hid (Ext w ((w4.setCell ⟨h i, k * 2, none⟩ (.bool nx)).setCell ⟨h i, k * 2 + 1, none⟩ (.slice Ax kx kx))) := setInt_ext ((HXk.out.trans HXd.out).trans hxA) (by have := HMd.out.low i hin; omega)
                      clear HIx hx hxA hsz q1 q2 q3 q4 HMd HBd HXd
                      go_wp2
                      go_roundg (gk - 1)
                      case measure => omega
                      case rel => exact ⟨k + 1, by omega, by omega, by go_num, HMe, HBe, HXe⟩
              · obtain rfl : n = k := by omega
                have HMe : Hid (MatZ wr W0.heap.size g n h (rowsTo n r (i + 1) last m)) := HMk.out.congr fun a b _ hb => colsTo_end n r i last m hri a b hb
                clear HMk
                go_wp2
                go_roundg (n - (i + 1))
                case measure => omega
                case rel => exact ⟨i + 1, by omega, by omega, by go_num, HMe, HBk, HXk⟩
          · obtain rfl : n = i := by omega
            have HMe : Hid (MatZ wr W0.heap.size g n h (barStep n r last m)) := by have := HMi.out; rwa [rowsTo_end] at this
            have hst : barStep n r last m r r = m r r := by unfold barStep; rw [if_neg (by omega)]
            obtain ⟨nrr, Arr, krr, crr1, crr2, irr⟩ := (HMe.out.row r hrn).cells r hrn
            rw [hst] at irr
            have cR := HMe.out.rows r hrn
            obtain ⟨n5, A5, k5, c51, c52, i5⟩ := HBi.out.one
            have f51 := HBi.out.free 0
            have f52 := HBi.out.free 1
            have HIrr := Lib.hid irr
            clear HMi hst irr i5
            go_wp2
            have HP : Hid (PosInv w ((wr.setCell ⟨bl, 0, none⟩ (.bool nrr)).setCell ⟨bl, 1, none⟩ (.slice Arr krr krr)) W0.heap.size n (r + 1) g bl h (m r r) (barStep n r last m) (posB n (entry rows))) := by
              refine ⟨⟨fun a ha => ?_, fun a ha => ?_, HMe.out.inj, HMe.out.low, HMe.out.glow, (HMe.out.typ.set_ _ _).set_ _ _⟩, MRow.put1 HIrr.out c51 c52 ⟨HBi.out.typ, HBi.out.free⟩, HNe.out, HLw.out, setInt_ext HXi.out HLw.out, HPs.out⟩
              · have hgb : g ≠ bl := HMe.out.typ.ne HBi.out.typ (by decide)
                rw [World.cell?_setCell_other _ _ _ _ (by intro e; injection e with e1 e2; exact hgb e1.symm), World.cell?_setCell_other _ _ _ _ (by intro e; injection e with e1 e2; exact hgb e1.symm)]
                exact HMe.out.rows a ha
              · exact (HMe.out.row a ha).far (fun e => HNe.out a ha e.symm) c51 c52
            clear crr1 crr2 cR c51 c52 f51 f52 HIrr
            go_wp2
            go_roundg (n - (r + 1))
            case measure => omega
            case rel => exact ⟨r + 1, _, _, by omega, by go_num, HP⟩
    · obtain rfl : n = r := by omega
      have hpos := HI.out.pos
      rw [Nat.sub_self] at hpos
      have HPs : Hid (true = posB n (entry rows)) := hpos
      have HX := Lib.hid HI.out.ext
      clear hpos HI
      go_wp2
      go_ret
      rw [← HPs.out]; exact ⟨rfl, HX.out⟩
end Go.Proofs.YtiihnoelclnahaaGreatDoor
namespace Go.Proofs.YtiihnoelclnahaaGreatDoor
open Go.RowKit
set_option linter.unusedVariables false
/-- What Check tells of a list of rows. -/
def chk (rows : List (List Int)) : Int :=
  if rows.length < 1 ∨ 8 < rows.length then 5
  else if ∃ l ∈ rows, l.length ≠ rows.length then 5
  else if eachB smallP rows = false then 3
  else if eachB (mirrorB rows) rows = false then 6
  else if posB rows.length (entry rows) = false then 6
  else 0
theorem check_size (A : Option Addr) (n c : Nat) (w : World) (hn : n < 1 ∨ 8 < n) (hm : n ≤ 140737488351232) :
    Calls Tryz.prog 15 #[.slice A n c] w fun e w' => e = .returned (.int .i64 5) ∧ Ext w w' := by
  rcases Nat.eq_zero_or_pos n with h0 | h0
  · subst h0
    go_enter Tryz.func15, Tryz.ntmps15
    go_wp2
    go_ret
    exact ⟨rfl, (Ext.refl w).alloc _⟩
  · have h8 : 8 < n := by omega
    have d1 : decide ((n : Int) < 1) = false := by simp; omega
    have d2 : decide ((8 : Int) < n) = true := by simp; omega
    clear hn
    go_enter Tryz.func15, Tryz.ntmps15
    go_wp2
    go_ret
    exact ⟨rfl, (Ext.refl w).alloc _⟩
set_option maxHeartbeats 1000000 in
theorem check_rest (A : Option Addr) (n c : Nat) (rows : List (List Int)) (w : World) (hn : n = rows.length) (hn1 : 1 ≤ n) (hn8 : n ≤ 8) (hr : IsRows w A rows) (hf : Fit64 rows) :
    Calls Tryz.prog 15 #[.slice A n c] w fun e w' => e = .returned (.int .i64 (chk rows)) ∧ Ext w w' := by
  have d1 : decide ((n : Int) < 1) = false := by simp; omega
  have d2 : decide ((8 : Int) < n) = false := by simp; omega
  obtain ⟨W0, hWW0⟩ : ∃ W0 : World, w.alloc (.cells #[.slice A n c] 39) = W0 := ⟨_, rfl⟩
  have hXW0 : Ext w W0 := by rw [← hWW0]; exact ((Ext.refl w).alloc _)
  have hsW0 : w.heap.size + 1 ≤ W0.heap.size := by rw [← hWW0]; simp only [World.size_alloc]; omega
  have c0 : W0.cell? ⟨w.heap.size, 0, none⟩ = some (.slice A n c) := by rw [← hWW0]; simp [go_sem]
  have f0 : W0.frozen? ⟨w.heap.size, 0, none⟩ = false := by rw [← hWW0]; simp [go_sem]
  have HWW0 := Lib.hid hWW0
  clear hWW0
  have HN := Lib.hid hn
  have HR := Lib.hid (hr.ext hXW0)
  have HF := Lib.hid hf
  have HX := Lib.hid hXW0
  have hmf : ∀ (fn : Fn) (first cap : Array Value) (w : World), (Instr.makeFunc fn first cap).run Tryz.prog w = .ok (.func fn first cap) w := fun _ _ _ _ => rfl
  clear hn hr hf hXW0
  go_enter Tryz.func15, Tryz.ntmps15
  go_wp2
  rw [HWW0.out]
  go_loopg [15] n (fun kk iv wr => ∃ i : Nat, kk + i = n ∧ iv = .int .i64 i ∧ W0 = wr ∧ Hid (∀ i' l, i' < i → rows[i']? = some l → l.length = n))
  case atStart => exact ⟨0, by omega, rfl, rfl, fun i' l h => by omega⟩
  case round =>
    obtain ⟨i, hki, rfl, rfl, HA⟩ := hrel
    by_cases hin : i < n
    · obtain ⟨l, hl⟩ : ∃ l, rows[i]? = some l := ⟨_, List.getElem?_eq_getElem (by have := HN.out; omega)⟩
      obtain ⟨b, off, R, c', rfl, hb, h1, h2, h3⟩ := HR.out.at_ hl
      have HL := Lib.hid hl
      clear hl h3
      by_cases hne : l.length = n
      · have HE := Lib.hid hne
        have hb1 : ((l.length : Int) != n) = false := by rw [bne_eq_false_iff_eq]; omega
        obtain ⟨len, hlen⟩ : ∃ len, l.length = len := ⟨_, rfl⟩
        rw [hlen] at h1 h2 hb1
        clear hne hlen
        go_wp2
        go_roundg (gk - 1)
        case measure => omega
        case rel => exact ⟨i + 1, by omega, by go_num, rfl, fun i' l' hi' hl' => by
          rcases Nat.lt_or_ge i' i with h | h
          · exact HA.out i' l' h hl'
          · obtain rfl : i' = i := by omega
            have e : l' = l := by have := HL.out; rw [hl'] at this; exact Option.some.inj this
            rw [e]; exact HE.out⟩
      · have HC : Hid (chk rows = 5) := by
          unfold chk Hid
          rw [if_neg (by have := HN.out; omega), if_pos]
          exact ⟨l, by obtain ⟨q, rfl⟩ := List.getElem?_eq_some_iff.1 HL.out; exact List.getElem_mem q, by rw [← HN.out]; exact hne⟩
        have hb1 : ((l.length : Int) != n) = true := by rw [bne_iff_ne]; omega
        obtain ⟨len, hlen⟩ : ∃ len, l.length = len := ⟨_, rfl⟩
        rw [hlen] at h1 h2 hb1
        clear hne hlen
        go_wp2
        go_ret
        rw [HC.out]; exact ⟨rfl, HX.out⟩
    · obtain rfl : n = i := by omega
      have hsq : ∀ l ∈ rows, l.length = n := by
        intro l hl
        obtain ⟨q, hq, rfl⟩ := List.getElem_of_mem hl
        exact HA.out q _ (by have := HN.out; omega) (List.getElem?_eq_getElem hq)
      have HSq := Lib.hid hsq
      have H1 := Lib.hid (each1_any A n c rows W0 HN.out HR.out HF.out)
      have HC0 : Hid (chk rows = if eachB smallP rows = false then 3 else if eachB (mirrorB rows) rows = false then 6 else if posB n (entry rows) = false then 6 else 0) := by
        unfold chk Hid
        rw [if_neg (by have := HN.out; omega), if_neg (by rintro ⟨l, hl, h⟩; exact h (by rw [← HN.out]; exact hsq l hl)), ← HN.out]
      clear hsq HA
      cases h1 : eachB smallP rows
      · rw [h1] at H1 HC0
        have HC := HC0.out
        rw [if_pos rfl] at HC
        have HCC := Lib.hid HC
        clear h1 HC HC0
        go_wp2_with fail
        refine H1.out.mono ?_
        rintro e w' ⟨rfl, rfl⟩
        go_wp2
        go_ret
        rw [HCC.out]; exact ⟨rfl, HX.out⟩
      · rw [h1] at H1 HC0
        have HC := HC0.out
        rw [if_neg (by simp)] at HC
        have HCC := Lib.hid HC
        have H2 := Lib.hid (each2_any A n c rows w.heap.size W0 HN.out HR.out HF.out c0 (by omega) HSq.out)
        clear h1 HC HC0
        go_wp2_with fail
        refine H1.out.mono ?_
        rintro e w' ⟨rfl, rfl⟩
        clear H1
        cases h2 : eachB (mirrorB rows) rows
        · rw [h2] at H2 HCC
          have HC := HCC.out
          rw [if_pos rfl] at HC
          have HCD := Lib.hid HC
          clear h2 HC HCC
          go_wp2_with fail
          refine H2.out.mono ?_
          rintro e w' ⟨rfl, rfl⟩
          go_wp2
          go_ret
          rw [HCD.out]; exact ⟨rfl, HX.out⟩
        · rw [h2] at H2 HCC
          have HC := HCC.out
          rw [if_neg (by simp)] at HC
          have HCD := Lib.hid HC
          have H3 := Lib.hid (positive_any A n c rows W0 HN.out hn1 (by omega) HR.out HF.out HSq.out)
          clear h2 HC HCC
          go_wp2_with fail
          refine H2.out.mono ?_
          rintro e w' ⟨rfl, rfl⟩
          clear H2
          cases h3 : posB n (entry rows)
          · rw [h3] at H3 HCD
            have HC := HCD.out
            rw [if_pos rfl] at HC
            have HCE := Lib.hid HC
            clear h3 HC HCD
            go_wp2_with fail
            refine H3.out.mono ?_
            rintro e w3 ⟨rfl, hx⟩
            have hX3 := Lib.hid (HX.out.trans hx)
            clear hx
            go_wp2
            go_ret
            rw [HCE.out]; exact ⟨rfl, hX3.out⟩
          · rw [h3] at H3 HCD
            have HC := HCD.out
            rw [if_neg (by simp)] at HC
            have HCE := Lib.hid HC
            clear h3 HC HCD
            go_wp2_with fail
            refine H3.out.mono ?_
            rintro e w3 ⟨rfl, hx⟩
            have hX3 := Lib.hid (HX.out.trans hx)
            clear hx
            go_wp2
            go_ret
            rw [HCE.out]; exact ⟨rfl, hX3.out⟩
theorem check_any (A : Option Addr) (n c : Nat) (rows : List (List Int)) (w : World) (hn : n = rows.length) (hr : IsRows w A rows) (hf : Fit64 rows) :
    Calls Tryz.prog 15 #[.slice A n c] w fun e w' => e = .returned (.int .i64 (chk rows)) ∧ Ext w w' := by
  by_cases h : n < 1 ∨ 8 < n
  · have e : chk rows = 5 := by unfold chk; rw [if_pos (by omega)]
    rw [e]; exact check_size A n c w h (by rw [hn]; exact hf.1)
  · exact check_rest A n c rows w hn (by omega) (by omega) hr hf
end Go.Proofs.YtiihnoelclnahaaGreatDoor
namespace Go.Proofs.YtiihnoelclnahaaGreatDoor
open Go.RowKit Go.Proofs.YtiihnoelclnahaaGreatDoorW.PrintWords Go.Proofs.YtiihnoelclnahaaGreatDoor.Ref
set_option linter.unusedVariables false
set_option linter.unusedSimpArgs false
theorem rcheck_size (A : Option Addr) (n c : Nat) (w : World) (hn : n < 1 ∨ 8 < n) (hm : n ≤ 140737488351232) :
    Calls Tryz.prog 18 #[.slice A n c] w fun e w' => e = .returned (.int .i64 5) ∧ Ext w w' := by
  rcases Nat.eq_zero_or_pos n with h0 | h0
  · subst h0
    go_enter Tryz.func18, Tryz.ntmps18
    go_wp2
    go_ret
    exact ⟨rfl, Ext.refl w⟩
  · have h8 : 8 < n := by omega
    have d1 : decide ((n : Int) < 1) = false := by simp; omega
    have d2 : decide ((8 : Int) < n) = true := by simp; omega
    clear hn
    go_enter Tryz.func18, Tryz.ntmps18
    go_wp2
    go_ret
    exact ⟨rfl, Ext.refl w⟩
theorem chk_sq {rows : List (List Int)} {n : Nat} (hn : n = rows.length) (h1 : 1 ≤ n) (h8 : n ≤ 8) (hsq : ∀ l ∈ rows, l.length = n) : chk rows = if eachB smallP rows = false then 3 else if eachB (mirrorB rows) rows = false then 6 else if posB n (entry rows) = false then 6 else 0 := by
  unfold chk
  rw [if_neg (by omega), if_neg (by rintro ⟨l, hl, h⟩; exact h (by rw [← hn]; exact hsq l hl)), ← hn]
theorem chk_len {rows : List (List Int)} {n : Nat} (hn : n = rows.length) (h1 : 1 ≤ n) (h8 : n ≤ 8) {i : Nat} {l : List Int} (hl : rows[i]? = some l) (hne : l.length ≠ n) : chk rows = 5 := by
  unfold chk
  rw [if_neg (by omega), if_pos]
  exact ⟨l, by obtain ⟨q, rfl⟩ := List.getElem?_eq_some_iff.1 hl; exact List.getElem_mem q, by rw [← hn]; exact hne⟩
theorem small_entry {rows : List (List Int)} {n : Nat} (hn : n = rows.length) (hsq : ∀ l ∈ rows, l.length = n) (hs : eachB smallP rows = true) : SmallM n (entry rows) := by
  intro i j hi hj
  obtain ⟨l, hl⟩ : ∃ l, rows[i]? = some l := ⟨_, List.getElem?_eq_getElem (by omega)⟩
  have hll : l.length = n := by obtain ⟨h1, rfl⟩ := List.getElem?_eq_some_iff.1 hl; exact hsq _ (List.getElem_mem h1)
  obtain ⟨z, hz⟩ : ∃ z, l[j]? = some z := ⟨_, List.getElem?_eq_getElem (by omega)⟩
  have e3 : entry rows i j = z := by unfold entry; rw [hl, Option.getD_some, hz, Option.getD_some]
  have := eachB_true.1 hs i l hl j z hz
  unfold smallP smallB at this
  rw [Bool.and_eq_true, decide_eq_true_eq, decide_eq_true_eq] at this
  rw [e3]; omega
/-- A row and an entry of a square list of rows. -/
theorem sq_at {rows : List (List Int)} {n : Nat} (hn : n = rows.length) (hsq : ∀ l ∈ rows, l.length = n) {i j : Nat} (hi : i < n) (hj : j < n) : ∃ l, rows[i]? = some l ∧ l.length = n ∧ l[j]? = some (entry rows i j) := by
  obtain ⟨l, hl⟩ : ∃ l, rows[i]? = some l := ⟨_, List.getElem?_eq_getElem (by omega)⟩
  have hll : l.length = n := by obtain ⟨h1, rfl⟩ := List.getElem?_eq_some_iff.1 hl; exact hsq _ (List.getElem_mem h1)
  obtain ⟨z, hz⟩ : ∃ z, l[j]? = some z := ⟨_, List.getElem?_eq_getElem (by omega)⟩
  exact ⟨l, hl, hll, by unfold entry; rw [hl, Option.getD_some, hz, Option.getD_some]⟩
theorem small_all {rows : List (List Int)} {n : Nat} (hn : n = rows.length) (hsq : ∀ l ∈ rows, l.length = n) (h : ∀ i j, i < n → j < n → -16384 ≤ entry rows i j ∧ entry rows i j ≤ 16384) : eachB smallP rows = true := by
  refine eachB_true.2 fun i l hl j z hz => ?_
  have hi : i < n := by have := (List.getElem?_eq_some_iff.1 hl).1; omega
  have hll : l.length = n := by obtain ⟨h1, rfl⟩ := List.getElem?_eq_some_iff.1 hl; exact hsq _ (List.getElem_mem h1)
  have hj : j < n := by have := (List.getElem?_eq_some_iff.1 hz).1; omega
  have e3 : entry rows i j = z := by unfold entry; rw [hl, Option.getD_some, hz, Option.getD_some]
  have := h i j hi hj
  unfold smallP smallB
  rw [Bool.and_eq_true, decide_eq_true_eq, decide_eq_true_eq]
  rw [e3] at this; exact this
theorem small_not {rows : List (List Int)} {n : Nat} (hn : n = rows.length) (hsq : ∀ l ∈ rows, l.length = n) {i j : Nat} (hi : i < n) (hj : j < n) (h : entry rows i j < -16384 ∨ 16384 < entry rows i j) : eachB smallP rows = false := by
  obtain ⟨l, hl, hll, hz⟩ := sq_at hn hsq hi hj
  refine eachB_false hl hz ?_
  unfold smallP smallB
  rw [Bool.and_eq_false_iff, decide_eq_false_iff_not, decide_eq_false_iff_not]; omega
theorem mirror_all {rows : List (List Int)} {n : Nat} (hn : n = rows.length) (hsq : ∀ l ∈ rows, l.length = n) (h : ∀ i j, i < n → j < i → entry rows i j = entry rows j i) : eachB (mirrorB rows) rows = true := by
  refine eachB_true.2 fun i l hl j z hz => ?_
  have hi : i < n := by have := (List.getElem?_eq_some_iff.1 hl).1; omega
  have hll : l.length = n := by obtain ⟨h1, rfl⟩ := List.getElem?_eq_some_iff.1 hl; exact hsq _ (List.getElem_mem h1)
  have hj : j < n := by have := (List.getElem?_eq_some_iff.1 hz).1; omega
  have e3 : entry rows i j = z := by unfold entry; rw [hl, Option.getD_some, hz, Option.getD_some]
  unfold mirrorB
  rw [beq_iff_eq, ← e3]
  show entry rows i j = entry rows j i
  rcases Nat.lt_trichotomy i j with q | q | q
  · exact (h j i hj q).symm
  · subst q; rfl
  · exact h i j hi q
theorem mirror_not {rows : List (List Int)} {n : Nat} (hn : n = rows.length) (hsq : ∀ l ∈ rows, l.length = n) {i j : Nat} (hi : i < n) (hj : j < n) (h : entry rows i j ≠ entry rows j i) : eachB (mirrorB rows) rows = false := by
  obtain ⟨l, hl, hll, hz⟩ := sq_at hn hsq hi hj
  refine eachB_false hl hz ?_
  unfold mirrorB
  rw [beq_eq_false_iff_ne]; exact h
set_option maxHeartbeats 4000000 in
set_option maxRecDepth 100000 in
theorem rcheck_rest (A : Option Addr) (n c : Nat) (rows : List (List Int)) (w : World) (hn : n = rows.length) (hnc : n ≤ c) (hn1 : 1 ≤ n) (hn8 : n ≤ 8) (hr : IsRows w A rows) (hf : Fit64 rows) :
    Calls Tryz.prog 18 #[.slice A n c] w fun e w' => e = .returned (.int .i64 (chk rows)) ∧ Ext w w' := by
  have d1 : decide ((n : Int) < 1) = false := by simp; omega
  have d2 : decide ((8 : Int) < n) = false := by simp; omega
  have HN := Lib.hid hn
  have HR := Lib.hid hr
  have HF := Lib.hid hf
  clear hn hr hf
  go_enter Tryz.func18, Tryz.ntmps18
  go_wp2
  go_loopg [3] n (fun kk iv wr => ∃ i : Nat, kk + i = n ∧ iv = .int .i64 i ∧ w = wr ∧ Hid (∀ i' l, i' < i → rows[i']? = some l → l.length = n))
  case atStart => exact ⟨0, by omega, rfl, rfl, fun i' l h => by omega⟩
  case round =>
    obtain ⟨i, hki, rfl, rfl, HA⟩ := hrel
    by_cases hin : i < n
    · obtain ⟨l, hl⟩ : ∃ l, rows[i]? = some l := ⟨_, List.getElem?_eq_getElem (by have := HN.out; omega)⟩
      obtain ⟨b, off, R, c', rfl, hb, h1, h2, h3⟩ := HR.out.at_ hl
      have HL := Lib.hid hl
      clear hl h3
      by_cases hne : l.length = n
      · have HE := Lib.hid hne
        have hb1 : ((l.length : Int) != n) = false := by rw [bne_eq_false_iff_eq]; omega
        obtain ⟨len, hlen⟩ : ∃ len, l.length = len := ⟨_, rfl⟩
        rw [hlen] at h1 h2 hb1
        clear hne hlen
        go_wp2
        go_roundg (gk - 1)
        case measure => omega
        case rel => exact ⟨i + 1, by omega, by go_num, rfl, fun i' l' hi' hl' => by
          rcases Nat.lt_or_ge i' i with h | h
          · exact HA.out i' l' h hl'
          · obtain rfl : i' = i := by omega
            have e : l' = l := by have := HL.out; rw [hl'] at this; exact Option.some.inj this
            rw [e]; exact HE.out⟩
      · have HC := Lib.hid (chk_len HN.out hn1 hn8 HL.out hne)
        have hb1 : ((l.length : Int) != n) = true := by rw [bne_iff_ne]; omega
        obtain ⟨len, hlen⟩ : ∃ len, l.length = len := ⟨_, rfl⟩
        rw [hlen] at h1 h2 hb1
        clear hne hlen
        go_wp2
        go_ret
        rw [HC.out]; exact ⟨rfl, Ext.refl w⟩
    · obtain rfl : n = i := by omega
      have hsq : ∀ l ∈ rows, l.length = n := by
        intro l hl
        obtain ⟨q, hq, rfl⟩ := List.getElem_of_mem hl
        exact HA.out q _ (by have := HN.out; omega) (List.getElem?_eq_getElem hq)
      have HSq := Lib.hid hsq
      have HC := Lib.hid (chk_sq HN.out hn1 hn8 hsq)
      clear hsq HA
      go_wp2
      go_loopg [4] n (fun kk iv wr => ∃ i : Nat, kk + i = n ∧ iv = .int .i64 i ∧ w = wr ∧ Hid (∀ a b, a < i → b < n → -16384 ≤ entry rows a b ∧ entry rows a b ≤ 16384))
      case atStart => exact ⟨0, by omega, rfl, rfl, fun a b h => by omega⟩
      case round =>
        obtain ⟨i, hki, rfl, rfl, HA⟩ := hrel
        by_cases hin : i < n
        · go_wp2
          go_loopg [5] n (fun kk jv wi => ∃ j : Nat, kk + j = n ∧ jv = .int .i64 j ∧ w = wi ∧ Hid (∀ b, b < j → -16384 ≤ entry rows i b ∧ entry rows i b ≤ 16384))
          case atStart => exact ⟨0, by omega, rfl, rfl, fun b h => by omega⟩
          case round =>
            obtain ⟨j, hkj, rfl, rfl, HB⟩ := hrel
            by_cases hjn : j < n
            · obtain ⟨l, hl, hll, hz⟩ := sq_at HN.out HSq.out hin hjn
              obtain ⟨b, off, R, c', rfl, hb, h1, h2, h3⟩ := HR.out.at_ hl
              obtain ⟨b2, off2, rfl, hb2, h4⟩ := h3.at_ hz
              rw [hll] at h1 h2
              have HBad := Lib.hid (fun h => small_not HN.out HSq.out hin hjn h)
              have hzz : ∃ z, entry rows i j = z := ⟨_, rfl⟩
              obtain ⟨z, hzz⟩ := hzz
              rw [hzz] at h4 HBad
              have HZ := Lib.hid hzz
              clear hl hll hz h3 hzz
              by_cases g1 : 16384 < z
              · have HBad2 := Lib.hid (HBad.out (Or.inr g1))
                go_wp2
                go_ret
                rw [HC.out, HBad2.out, if_pos rfl]; exact ⟨rfl, Ext.refl w⟩
              · by_cases g2 : z < -16384
                · have HBad2 := Lib.hid (HBad.out (Or.inl g2))
                  have g3 : decide ((16384 : Int) < z) = false := by simp; omega
                  go_wp2
                  go_ret
                  rw [HC.out, HBad2.out, if_pos rfl]; exact ⟨rfl, Ext.refl w⟩
                · have g3 : decide ((16384 : Int) < z) = false := by simp; omega
                  have g4 : decide (z < (-16384 : Int)) = false := by simp; omega
                  have HG := Lib.hid (show -16384 ≤ z ∧ z ≤ 16384 from ⟨by omega, by omega⟩)
                  clear g1 g2
                  go_wp2
                  go_roundg (gk - 1)
                  case measure => omega
                  case rel => exact ⟨j + 1, by omega, by go_num, rfl, fun b hb => by
                    rcases Nat.lt_or_ge b j with h | h
                    · exact HB.out b h
                    · obtain rfl : b = j := by omega
                      rw [HZ.out]; exact HG.out⟩
            · obtain rfl : n = j := by omega
              go_wp2
              go_roundg (n - (i + 1))
              case measure => omega
              case rel => exact ⟨i + 1, by omega, by go_num, rfl, fun a b ha hb => by
                rcases Nat.lt_or_ge a i with h | h
                · exact HA.out a b h hb
                · obtain rfl : a = i := by omega
                  exact HB.out b hb⟩
        · obtain rfl : n = i := by omega
          have HSm := Lib.hid (small_all HN.out HSq.out fun a b ha hb => HA.out a b ha hb)
          clear HA
          go_wp2
          go_loopg [6] n (fun kk iv wr => ∃ i : Nat, kk + i = n ∧ iv = .int .i64 i ∧ (∃ q, wr = w.drewN q) ∧ Hid (∀ a b, a < i → b < a → entry rows a b = entry rows b a))
          case atStart => exact ⟨0, by omega, rfl, ⟨0, rfl⟩, fun a b h => by omega⟩
          case round =>
            obtain ⟨i, hki, rfl, ⟨q, rfl⟩, HA⟩ := hrel
            by_cases hin : i < n
            · go_wp2
              go_loopg [7] n (fun kk jv wi => ∃ j : Nat, kk + j = n ∧ j ≤ i ∧ jv = .int .i64 j ∧ (∃ q, wi = w.drewN q) ∧ Hid (∀ b, b < j → entry rows i b = entry rows b i))
              case atStart => exact ⟨0, by omega, by omega, rfl, ⟨q, rfl⟩, fun b h => by omega⟩
              case round =>
                clear q
                obtain ⟨j, hkj, hji, rfl, ⟨q, rfl⟩, HB⟩ := hrel
                by_cases hjn : j < i
                · obtain ⟨l, hl, hll, hz⟩ := sq_at HN.out HSq.out hin (show j < n by omega)
                  obtain ⟨l', hl', hll', hz'⟩ := sq_at HN.out HSq.out (show j < n by omega) hin
                  obtain ⟨b, off, R, c', rfl, hb, h1, h2, h3⟩ := HR.out.at_ hl
                  obtain ⟨b2, off2, rfl, hb2, h4⟩ := h3.at_ hz
                  obtain ⟨b', off', R', c2', e', hb', h1', h2', h3'⟩ := HR.out.at_ hl'
                  injection e' with e'
                  injection e' with e1' e2'
                  subst e1'; subst e2'
                  obtain ⟨b2', off2', rfl, hb2', h4'⟩ := h3'.at_ hz'
                  rw [hll] at h1 h2
                  rw [hll'] at h1' h2'
                  have HBad := Lib.hid (fun h => mirror_not HN.out HSq.out hin (show j < n by omega) h)
                  obtain ⟨z, hzz⟩ : ∃ z, entry rows i j = z := ⟨_, rfl⟩
                  obtain ⟨z', hzz'⟩ : ∃ z, entry rows j i = z := ⟨_, rfl⟩
                  rw [hzz] at h4 HBad
                  rw [hzz'] at h4' HBad
                  have HZ := Lib.hid hzz
                  have HZ' := Lib.hid hzz'
                  have hjn2 : j < n := by omega
                  clear hl hll hz h3 hzz hl' hll' hz' h3' hzz' hb'
                  by_cases g1 : z = z'
                  · have HG := Lib.hid g1
                    have g3 : (z != z') = false := by rw [bne_eq_false_iff_eq]; exact g1
                    clear g1
                    go_wp2
                    go_quiet (fail)
                    go_wp2
                    go_roundg (gk - 1)
                    case measure => omega
                    case rel => exact ⟨j + 1, by omega, by omega, by go_num, ⟨_, rfl⟩, fun b hb => by
                      rcases Nat.lt_or_ge b j with h | h
                      · exact HB.out b h
                      · obtain rfl : b = j := by omega
                        rw [HZ.out, HZ'.out]; exact HG.out⟩
                  · have HBad2 := Lib.hid (HBad.out g1)
                    have g3 : (z != z') = true := by rw [bne_iff_ne]; exact g1
                    clear g1
                    go_wp2
                    go_quiet (fail)
                    go_wp2
                    go_ret
                    rw [HC.out, HSm.out, HBad2.out, if_neg (by decide), if_pos rfl]
                    exact ⟨rfl, ((Ext.refl w).drewN _).drewN _⟩
                · obtain rfl : j = i := by omega
                  go_wp2
                  go_roundg (n - (j + 1))
                  case measure => omega
                  case rel => exact ⟨j + 1, by omega, by go_num, ⟨_, rfl⟩, fun a b ha hb => by
                    rcases Nat.lt_or_ge a j with h | h
                    · exact HA.out a b h hb
                    · obtain rfl : a = j := by omega
                      exact HB.out b hb⟩
            · obtain rfl : n = i := by omega
              have HMr := Lib.hid (mirror_all HN.out HSq.out fun a b ha hb => HA.out a b ha hb)
              have HSE := Lib.hid (small_entry HN.out HSq.out HSm.out)
              have HPD := Lib.hid (posB_det HSE.out hn8)
              obtain ⟨W1, hW1⟩ : ∃ W1, w.drewN q = W1 := ⟨_, rfl⟩
              have HX1 : Hid (Ext w W1) := by unfold Hid; rw [← hW1]; exact (Ext.refl w).drewN q
              rw [hW1]
              clear HA hW1 q
              go_wp2
              go_loopg [8] n (fun kk kv wr => ∃ k : Nat, kk + k = n + 1 ∧ 1 ≤ k ∧ kv = .int .i64 k ∧ Hid (Ext w wr) ∧ Hid (∀ r, r + 1 < k → 0 < det (r + 1) (entry rows)))
              case atStart => exact ⟨1, by omega, by omega, rfl, HX1, fun r h => by omega⟩
              case round =>
                obtain ⟨k, hkk, hk1, rfl, HX, HA⟩ := hrel
                by_cases hkn : k ≤ n
                · have HMi := Lib.hid (minor_any A n c k rows wr HN.out hnc hk1 (by omega) hkn (fun l hl => by rw [HSq.out l hl]; exact hkn) (HR.out.ext HX.out) HF.out (fun i j hi hj => HSE.out i j (by omega) (by omega)) (fun r hr => by have := HA.out r hr; omega))
                  go_wp2_with fail
                  refine HMi.out.mono ?_
                  rintro e w2 ⟨neg, B, kk', cc, rfl, hi, hx⟩
                  have hX2 := Lib.hid (HX.out.trans hx)
                  have hk0 := hi.nat.k0
                  have hsg := hi.sign
                  by_cases hp : 0 < det k (entry rows)
                  · obtain rfl : neg = false := by rw [hsg]; simp; omega
                    have hb1 : ((kk' : Int) == 0) = false := by rw [beq_eq_false_iff_ne]; intro e; have := hk0.1 (by omega); omega
                    have HP := Lib.hid hp
                    clear hx hi hk0 hsg hp
                    go_wp2
                    go_roundg (n - k)
                    case measure => omega
                    case rel => exact ⟨k + 1, by omega, by omega, by go_num, hX2.out.alloc _, fun r hr => by
                      rcases Nat.lt_or_ge (r + 1) k with h | h
                      · exact HA.out r h
                      · obtain rfl : k = r + 1 := by omega
                        exact HP.out⟩
                  · have HBad : Hid (posB n (entry rows) = false) := by
                      unfold Hid
                      cases hb : posB n (entry rows) with
                      | false => rfl
                      | true =>
                        have := HPD.out.1 hb (k - 1) (by omega)
                        rw [show k - 1 + 1 = k by omega] at this
                        exact absurd this hp
                    cases neg with
                    | true =>
                      clear hx hi hk0 hsg hp
                      go_wp2
                      go_ret
                      rw [HC.out, HSm.out, HMr.out, HBad.out, if_neg (by decide), if_neg (by decide), if_pos rfl]
                      exact ⟨rfl, hX2.out.alloc _⟩
                    | false =>
                      have h0 : det k (entry rows) = 0 := by
                        have : ¬ det k (entry rows) < 0 := by simpa using hsg.symm
                        omega
                      obtain rfl : kk' = 0 := hk0.2 (by rw [h0]; rfl)
                      clear hx hi hk0 hsg hp
                      go_wp2
                      go_ret
                      rw [HC.out, HSm.out, HMr.out, HBad.out, if_neg (by decide), if_neg (by decide), if_pos rfl]
                      exact ⟨rfl, hX2.out.alloc _⟩
                · have HGood : Hid (posB n (entry rows) = true) := HPD.out.2 fun q hq => HA.out q (by omega)
                  obtain rfl : k = n + 1 := by omega
                  go_wp2
                  go_ret
                  rw [HC.out, HSm.out, HMr.out, HGood.out, if_neg (by decide), if_neg (by decide), if_neg (by decide)]
                  exact ⟨rfl, HX.out⟩
theorem rcheck_any (A : Option Addr) (n c : Nat) (rows : List (List Int)) (w : World) (hn : n = rows.length) (hnc : n ≤ c) (hr : IsRows w A rows) (hf : Fit64 rows) :
    Calls Tryz.prog 18 #[.slice A n c] w fun e w' => e = .returned (.int .i64 (chk rows)) ∧ Ext w w' := by
  by_cases h : n < 1 ∨ 8 < n
  · have e : chk rows = 5 := by unfold chk; rw [if_pos (by omega)]
    rw [e]; exact rcheck_size A n c w h (by rw [hn]; exact hf.1)
  · exact rcheck_rest A n c rows w hn hnc (by omega) (by omega) hr hf
end Go.Proofs.YtiihnoelclnahaaGreatDoor
namespace Go.Proofs.YtiihnoelclnahaaGreatDoor
open Go.RowKit
set_option linter.unusedVariables false
/-- One byte more. -/
def fnvStep (n : Nat) (b : UInt8) : Nat := ((n ^^^ b.toNat) * 1099511628211) % 18446744073709551616
def fnvFrom (n : Nat) (l : List UInt8) : Nat := l.foldl fnvStep n
def fnv (l : List UInt8) : Nat := fnvFrom 14695981039346656037 l
theorem fnvStep_lt (n : Nat) (b : UInt8) : fnvStep n b < 18446744073709551616 := Nat.mod_lt _ (by omega)
theorem fnvFrom_lt (n : Nat) (l : List UInt8) (h : n < 18446744073709551616) : fnvFrom n l < 18446744073709551616 := by
  induction l generalizing n with
  | nil => exact h
  | cons b l ih => exact ih _ (fnvStep_lt n b)
theorem fnv_lt (l : List UInt8) : fnv l < 18446744073709551616 := fnvFrom_lt _ l (by omega)
theorem fnv_snoc (l : List UInt8) (b : UInt8) : fnv (l ++ [b]) = fnvStep (fnv l) b := by unfold fnv fnvFrom; rw [List.foldl_append, List.foldl_cons, List.foldl_nil]
theorem bits_xor_nat (k : IntKind) (j : Nat) (hj : j ≤ k.bits) (hk : ∀ n : Int, 0 ≤ n → n < 2 ^ j → k.wrap n = n) (a b : Nat) (ha : a < 2 ^ j) (hb : b < 2 ^ j) : bits .xor k a b = ((a ^^^ b : Nat) : Int) := by
  have hp : 2 ^ j ≤ 2 ^ k.bits := Nat.pow_le_pow_right (by decide) hj
  have ha' : a % 2 ^ k.bits = a := Nat.mod_eq_of_lt (Nat.lt_of_lt_of_le ha hp)
  have hb' : b % 2 ^ k.bits = b := Nat.mod_eq_of_lt (Nat.lt_of_lt_of_le hb hp)
  have cast : ∀ n : Nat, n < 2 ^ j → ((n : Nat) : Int) < 2 ^ j := fun n h => by exact_mod_cast h
  simp only [bits, BitVec.ofInt_natCast, BitVec.toNat_xor, BitVec.toNat_ofNat, ha', hb']
  exact hk _ (Int.natCast_nonneg _) (cast _ (Nat.xor_lt_two_pow ha hb))
theorem bits_xor (a b : Nat) (ha : a < 2 ^ 64) (hb : b < 2 ^ 64) : bits .xor .u64 (a : Int) (b : Int) = ((a ^^^ b : Nat) : Int) :=
  bits_xor_nat .u64 64 (by decide) wraps_u64 a b ha hb
theorem sum_names (n : Nat) (b : UInt8) (hn : n < 18446744073709551616) : ∃ x y : Nat, bits .xor .u64 (n : Int) (b.toNat : Int) = (x : Int) ∧ IntKind.u64.wrap ((x : Int) * 1099511628211) = (y : Int) ∧ Hid (y = fnvStep n b) := by
  refine ⟨n ^^^ b.toNat, fnvStep n b, bits_xor _ _ (by omega) (by have := b.toNat_lt; omega), ?_, rfl⟩
  show ((n ^^^ b.toNat : Nat) : Int) * 1099511628211 % 18446744073709551616 = _
  unfold fnvStep
  simp
theorem Sum_any (s : ByteArray) (w : World) (hs : s.size ≤ 140737488355328) :
    Calls Tryz.prog 8 #[.string s] w fun e w' => e = .returned (.int .u64 (fnv s.data.toList : Nat)) ∧ w = w' := by
  go_enter Tryz.func8, Tryz.ntmps8
  go_wp2
  go_loopg [3, 7] s.size (fun kk nv iv wr => ∃ i n : Nat, kk + i = s.size ∧ iv = .int .i64 i ∧ nv = .int .u64 n ∧ w = wr ∧ n < 18446744073709551616 ∧ Hid (n = fnv (s.data.toList.take i)))
  case atStart => exact ⟨0, 14695981039346656037, by omega, rfl, rfl, rfl, by omega, rfl⟩
  case round =>
    obtain ⟨i, n, hki, rfl, rfl, rfl, hn, HN⟩ := hrel
    by_cases hin : i < s.size
    · obtain ⟨x, y, h1, h2, HY⟩ := sum_names n s[i] hn
      have HS : Hid (y = fnv (s.data.toList.take (i + 1))) := by
        have hl : i < s.data.toList.length := by simpa using hin
        rw [List.take_succ_eq_append_getElem hl, fnv_snoc, ← HN.out]
        exact HY.out
      have hyl : y < 18446744073709551616 := by rw [HY.out]; exact fnvStep_lt _ _
      have hw : IntKind.u64.wrap (s[i].toNat : Int) = (s[i].toNat : Int) := wraps_u64 _ (by omega) (by have := s[i].toNat_lt; omega)
      go_wp2
      go_roundg (gk - 1)
      case measure => omega
      case rel => exact ⟨i + 1, y, by omega, by go_num, rfl, rfl, hyl, HS⟩
    · obtain rfl : i = s.size := by omega
      have HF : Hid (n = fnv s.data.toList) := by have := HN.out; rwa [List.take_of_length_le (by simp)] at this
      go_wp2
      go_ret
      exact ⟨ret_int (by rw [← HF.out]), rfl⟩
end Go.Proofs.YtiihnoelclnahaaGreatDoor
namespace Go.Proofs.YtiihnoelclnahaaGreatDoor
open Go.RowKit
set_option linter.unusedVariables false
/-- The table of the library's own initialiser. -/
def deb64 : List Int := [0, 1, 56, 2, 57, 49, 28, 3, 61, 58, 42, 50, 38, 29, 17, 4, 62, 47, 59, 36, 45, 43, 51, 22, 53, 39, 33, 30, 24, 18, 12, 5, 63, 55, 48, 27, 60, 41, 37, 16, 46, 35, 44, 21, 52, 32, 23, 11, 54, 26, 40, 15, 34, 20, 31, 10, 25, 14, 19, 9, 13, 8, 7, 6]
theorem Tryz.glob64 : Tryz.prog.globalNamed "math/bits.deBruijn64tab" = some 6 := by kernel_rfl
theorem var_ext {w w' : World} {name : String} {cs : Array Value} (h : w.var? Tryz.prog name = some cs) (hx : Ext w w') : w'.var? Tryz.prog name = some cs := by
  unfold World.var? at h ⊢
  cases hg : Tryz.prog.globalNamed name with
  | none => rw [hg] at h; cases h
  | some g =>
    rw [hg] at h
    simp only [Option.bind_some] at h ⊢
    have hlt : g < w.heap.size := by
      rcases Nat.lt_or_ge g w.heap.size with h1 | h1
      · exact h1
      · rw [Array.getElem?_eq_none h1] at h; cases h
    rw [Below.block hx g hlt]; exact h
theorem tabIs_ext {w w' : World} {name : String} {k : IntKind} {zs : List Int} (h : Lib.TabIs Tryz.prog w name k zs) (hx : Ext w w') : Lib.TabIs Tryz.prog w' name k zs := var_ext h hx
theorem tz64_any (w : World) (htab : Lib.TabIs Tryz.prog w "math/bits.deBruijn64tab" .u8 deb64) :
    Calls Tryz.prog 114 #[.int .u64 16] w fun e w' => e = .returned (.int .i64 4) ∧ w = w' := by
  have hc : w.cell? ⟨6, 15, none⟩ = some (.int .u8 4) := htab.cell Tryz.glob64 15 (by decide)
  have e2 : bits .and .u64 16 (IntKind.u64.wrap (-16)) = 16 := by kernel_rfl
  have e3 : IntKind.u64.wrap (16 * 285870213051353865) = 4573923408821661840 := by kernel_rfl
  have e4 : (4573923408821661840 : Int) / 288230376151711744 = 15 := by kernel_rfl
  clear htab
  go_enter Tryz.func114, Tryz.ntmps114
  go_wp2
  go_ret
  exact ⟨rfl, rfl⟩
theorem tz_any (w : World) (htab : Lib.TabIs Tryz.prog w "math/bits.deBruijn64tab" .u8 deb64) :
    Calls Tryz.prog 96 #[.int .u64 16] w fun e w' => e = .returned (.int .i64 4) ∧ w = w' := by
  have H := Lib.hid (tz64_any w htab)
  clear htab
  go_enter Tryz.func96, Tryz.ntmps96
  go_wp2_with fail
  refine H.out.mono ?_
  rintro e w' ⟨rfl, rfl⟩
  go_wp2
  go_ret
  exact ⟨rfl, rfl⟩
theorem pow2_any (w : World) :
    Calls Tryz.prog 95 #[.int .i64 16] w fun e w' => e = .returned (.bool true) ∧ w = w' := by
  have e2 : bits .and .i64 16 15 = 0 := by kernel_rfl
  go_enter Tryz.func95, Tryz.ntmps95
  go_wp2
  go_ret
  exact ⟨rfl, rfl⟩
/-- A hexadecimal digit. -/
def hexc (n : Nat) : UInt8 := if n < 10 then UInt8.ofNat (48 + n) else UInt8.ofNat (87 + n)
def hexN (u : Nat) : List UInt8 := if h : u < 16 then [hexc u] else hexN (u / 16) ++ [hexc (u % 16)]
  termination_by u
  decreasing_by omega
theorem hexN_small {u : Nat} (h : u < 16) : hexN u = [hexc u] := by rw [hexN, dif_pos h]
theorem hexN_big {u : Nat} (h : ¬ u < 16) : hexN u = hexN (u / 16) ++ [hexc (u % 16)] := by rw [hexN, dif_neg h]
/-- A block of bytes: z ahead, these bytes behind. -/
def BTail (w : World) (g : Nat) (z : List Value) (d : List UInt8) : Prop := w.heap[g]? = some (.cells (z ++ Lib.byteCells d).toArray 164 (0, 0))
theorem BTail.cell {w : World} {g : Nat} {z : List Value} {v : Value} {d : List UInt8} (h : BTail w g (z ++ [v]) d) : w.cell? ⟨g, z.length, none⟩ = some v := by
  unfold BTail at h
  rw [cell_of_row _ _ _ _ _ _ h]
  simp
theorem BTail.free {w : World} {g : Nat} {z : List Value} {d : List UInt8} (h : BTail w g z d) (o : Nat) : w.frozen? ⟨g, o, none⟩ = false := by
  unfold BTail at h
  simp only [World.frozen?, h]; rfl
theorem BTail.put {w : World} {g : Nat} {z : List Value} {v : Value} {d : List UInt8} (h : BTail w g (z ++ [v]) d) (c : UInt8) : BTail (w.setCell ⟨g, z.length, none⟩ (.int .u8 c.toNat)) g z (c :: d) := by
  unfold BTail at h ⊢
  simp [World.setCell, Array.getElem?_modify, h, Lib.byteCells]
theorem dig36 (r : Nat) (h : r < (⟨#[48, 49, 50, 51, 52, 53, 54, 55, 56, 57, 97, 98, 99, 100, 101, 102, 103, 104, 105, 106, 107, 108, 109, 110, 111, 112, 113, 114, 115, 116, 117, 118, 119, 120, 121, 122]⟩ : ByteArray).size) (h16 : r < 16) : (⟨#[48, 49, 50, 51, 52, 53, 54, 55, 56, 57, 97, 98, 99, 100, 101, 102, 103, 104, 105, 106, 107, 108, 109, 110, 111, 112, 113, 114, 115, 116, 117, 118, 119, 120, 121, 122]⟩ : ByteArray)[r] = hexc r := by
  have H : ∀ q : Fin 16, (⟨#[48, 49, 50, 51, 52, 53, 54, 55, 56, 57, 97, 98, 99, 100, 101, 102, 103, 104, 105, 106, 107, 108, 109, 110, 111, 112, 113, 114, 115, 116, 117, 118, 119, 120, 121, 122]⟩ : ByteArray)[q.val]'(Nat.lt_of_lt_of_le q.isLt (by decide)) = hexc q.val := by decide
  exact H ⟨r, h16⟩
theorem hex_step (u gk : Nat) (d : List UInt8) (h16 : 16 ≤ gk) (h1 : gk * 16 ^ d.length ≤ u) (h2 : hexN gk ++ d = hexN u) : (gk / 16) * 16 ^ (hexc (gk % 16) :: d).length ≤ u ∧ hexN (gk / 16) ++ (hexc (gk % 16) :: d) = hexN u := by
  refine ⟨?_, ?_⟩
  · rw [List.length_cons, Nat.pow_succ]
    refine Nat.le_trans ?_ h1
    rw [Nat.mul_comm (16 ^ d.length), ← Nat.mul_assoc]
    exact Nat.mul_le_mul_right _ (Nat.div_mul_le_self _ _)
  · rw [← h2, hexN_big (u := gk) (by omega), List.append_assoc]; rfl
theorem hexN_pos (u : Nat) : 1 ≤ (hexN u).length := by
  by_cases h : u < 16
  · rw [hexN_small h]; simp
  · rw [hexN_big h]; simp
theorem hexN_le (k : Nat) : ∀ u, u < 16 ^ (k + 1) → (hexN u).length ≤ k + 1 := by
  induction k with
  | zero => intro u hu; rw [hexN_small (by omega)]; simp
  | succ k ih =>
    intro u hu
    by_cases h : u < 16
    · rw [hexN_small h]; simp
    · rw [hexN_big h, List.length_append]
      have := ih (u / 16) (Nat.div_lt_of_lt_mul (by rw [Nat.pow_succ] at hu; omega))
      simp; omega
theorem hexN_len (u : Nat) (h : u < 18446744073709551616) : (hexN u).length ≤ 16 := hexN_le 15 u (by
  have h4 : (16 : Nat) ^ (15 + 1) = 18446744073709551616 := by decide
  omega)
theorem hex_len (u gk n : Nat) (hu : u < 18446744073709551616) (h16 : 16 ≤ gk) (h1 : gk * 16 ^ n ≤ u) : n < 15 := by
  rcases Nat.lt_or_ge n 15 with h | h
  · exact h
  · have h2 : 16 ^ 15 ≤ 16 ^ n := Nat.pow_le_pow_right (by omega) h
    have h3 : 16 * 16 ^ 15 ≤ gk * 16 ^ n := Nat.mul_le_mul h16 h2
    have h4 : (16 : Nat) * 16 ^ 15 = 18446744073709551616 := by decide
    omega
theorem and15 (u : Nat) (h : u < 18446744073709551616) : bits .and .u64 (u : Int) 15 = ((u % 16 : Nat) : Int) := by
  have := (bits_nat .u64 64 (by decide) wraps_u64 u 15 (by omega) (by omega)).1
  rw [show ((15 : Nat) : Int) = 15 from rfl] at this
  rw [this, show (15 : Nat) = 2 ^ 4 - 1 from rfl, Nat.and_two_pow_sub_one_eq_mod]
set_option maxRecDepth 100000 in
theorem formatBits_any (u : Nat) (w : World) (hu : u < 18446744073709551616) (htab : Lib.TabIs Tryz.prog w "math/bits.deBruijn64tab" .u8 deb64) :
    Calls Tryz.prog 73 #[.slice none 0 0, .int .u64 u, .int .i64 16, .bool false, .bool false] w fun e w' => e = .returned (.tuple #[.slice none 0 0, .string ⟨(hexN u).toArray⟩]) ∧ Ext w w' := by
  have HT := Lib.hid htab
  clear htab
  have HU := Lib.hid hu
  clear hu
  go_enter Tryz.func73, Tryz.ntmps73
  go_wp2_with fail
  refine (pow2_any _).mono ?_
  rintro e w' ⟨rfl, rfl⟩
  go_wp2_with fail
  have HT2 : Hid (Lib.TabIs Tryz.prog (w.alloc (.cells Tryz.zeroCells164 164)) "math/bits.deBruijn64tab" .u8 deb64) := by
    exact tabIs_ext HT.out ((Ext.refl w).alloc _)
  refine (tz_any _ HT2.out).mono ?_
  rintro e w' ⟨rfl, rfl⟩
  go_wp2
  obtain ⟨W0, hW0⟩ : ∃ W0, w.alloc (.cells Tryz.zeroCells164 164) = W0 := ⟨_, rfl⟩
  have HX0 : Hid (Ext w W0) := by rw [← hW0]; exact (Ext.refl w).alloc _
  have HB0 : Hid (BTail W0 w.heap.size Tryz.zeroCells164.toList []) := by
    have := heap_new w (.cells Tryz.zeroCells164 164)
    rw [hW0] at this
    unfold BTail Hid
    rw [this]; simp [Lib.byteCells]
  rw [hW0]
  clear hW0 HT2
  have hlen : Tryz.zeroCells164.toList.length = 65 := by kernel_rfl
  go_loopg [1, 13] u (fun kk uv iv wr => ∃ (i : Nat) (z : List Value) (d : List UInt8), uv = .int .u64 kk ∧ iv = .int .i64 i ∧ i ≤ 65 ∧ kk < 18446744073709551616 ∧ Hid (z.length = i ∧ i + d.length = 65 ∧ kk * 16 ^ d.length ≤ u ∧ hexN kk ++ d = hexN u) ∧ Hid (BTail wr w.heap.size z d) ∧ Hid (Ext w wr))
  case atStart => exact ⟨65, _, [], rfl, rfl, by omega, HU.out, ⟨hlen, by simp, by simp, by simp⟩, HB0, HX0⟩
  case round =>
    clear HB0 HX0
    obtain ⟨i, z, d, rfl, rfl, hi, hkk, HI, HB, HX⟩ := hrel
    by_cases h16 : 16 ≤ gk
    · have hi1 : 17 ≤ i := by have := hex_len u gk _ HU.out h16 HI.out.2.2.1; have := HI.out.2.1; omega
      have e1 := and15 gk hkk
      obtain ⟨r, hr⟩ : ∃ r, gk % 16 = r := ⟨_, rfl⟩
      have hr16 : r < 16 := by omega
      rw [hr] at e1
      have HR := Lib.hid hr
      clear hr
      obtain ⟨z', v, rfl⟩ : ∃ z' v, z = z' ++ [v] := ⟨z.dropLast, z.getLast (by intro e; have := HI.out.1; rw [e] at this; simp at this; omega), (List.dropLast_concat_getLast _).symm⟩
      have hzl : z'.length = i - 1 := by have := HI.out.1; simp at this; omega
      have c1 := HB.out.cell
      have f1 := HB.out.free (i - 1)
      rw [hzl] at c1
      have HZ := Lib.hid hzl
      clear hzl
      have HB2 : Hid (BTail (wr.setCell ⟨w.heap.size, i - 1, none⟩ (.int .u8 (hexc r).toNat)) w.heap.size z' (hexc r :: d)) := by have := HB.out.put (hexc r); rwa [HZ.out] at this
      have HX2 : Hid (Ext w (wr.setCell ⟨w.heap.size, i - 1, none⟩ (.int .u8 (hexc r).toNat))) := HX.out.setCell (p := ⟨w.heap.size, i - 1, none⟩) (Nat.le_refl _) _
      have HSt := hex_step u gk d h16 HI.out.2.2.1 HI.out.2.2.2
      rw [HR.out] at HSt
      have HS := Lib.hid HSt
      clear HSt
      go_wp2
      rw [dig36 r _ hr16]
      go_roundg (gk / 16)
      case measure => omega
      case rel => exact ⟨i - 1, z', hexc r :: d, by go_num, by go_num, by omega, by omega, ⟨HZ.out, by have := HI.out.2.1; simp; omega, HS.out.1, HS.out.2⟩, HB2, HX2⟩
    · have hi1 : 1 ≤ i := by
        have h3 := HI.out.2.2.1
        have h4 := HI.out.2.1
        rcases Nat.eq_zero_or_pos i with h | h
        · exfalso
          have h5 : d.length = 65 := by omega
          have h6 := HI.out.2.2.2
          have h7 := congrArg List.length h6
          have h8 := hexN_len u HU.out
          have h9 := hexN_pos gk
          simp at h7; omega
        · exact h
      obtain ⟨z', v, rfl⟩ : ∃ z' v, z = z' ++ [v] := ⟨z.dropLast, z.getLast (by intro e; have := HI.out.1; rw [e] at this; simp at this; omega), (List.dropLast_concat_getLast _).symm⟩
      have hzl : z'.length = i - 1 := by have := HI.out.1; simp at this; omega
      have c1 := HB.out.cell
      have f1 := HB.out.free (i - 1)
      rw [hzl] at c1
      have HZ := Lib.hid hzl
      have h16' : gk < 16 := by omega
      have HB2 : Hid (BTail (wr.setCell ⟨w.heap.size, i - 1, none⟩ (.int .u8 (hexc gk).toNat)) w.heap.size z' (hexN u)) := by
        have := HB.out.put (hexc gk)
        have e := HI.out.2.2.2
        rw [hexN_small h16'] at e
        rw [HZ.out] at this
        rw [← e]; exact this
      have HX2 : Hid (Ext w (wr.setCell ⟨w.heap.size, i - 1, none⟩ (.int .u8 (hexc gk).toNat))) := HX.out.setCell (p := ⟨w.heap.size, i - 1, none⟩) (Nat.le_refl _) _
      have hln : (hexN u).length = 65 - (i - 1) := by
        have e := congrArg List.length HI.out.2.2.2
        rw [hexN_small h16'] at e
        have := HI.out.2.1
        simp at e; omega
      have hsl : ∀ W, (Instr.sliceAt 164 (.pointer (some ⟨w.heap.size, 0, none⟩)) (some (.int .i64 ((i : Int) - 1))) none none).run Tryz.prog W = .ok (.slice (some ⟨w.heap.size, i - 1, none⟩) (hexN u).length (hexN u).length) W := by
        intro W
        rw [hln, run_sliceAt_array_l (P := Tryz.prog) W 164 ⟨w.heap.size, 0, none⟩ Tryz.underlying164 .i64 ((i : Int) - 1) (by omega) (by rw [show Tryz.prog.arrayLen 164 = 65 by kernel_rfl]; omega)]
        have hsz : (sizeOf (Tryz.prog.elem 164)).run Tryz.prog W = .ok 1 W := by kernel_rfl
        rw [hsz]
        simp only [Result.andThen_ok, slicedAt, show Tryz.prog.arrayLen 164 = 65 by kernel_rfl]
        rw [show ((i : Int) - 1).toNat = i - 1 by omega, if_neg (by omega)]
        congr 3
        unfold Addr.add
        split
        · rename_i h; rw [Nat.mul_one] at h; rw [h]
        · simp
      have hcv : ∀ W, W = (wr.setCell ⟨w.heap.size, i - 1, none⟩ (.int .u8 (hexc gk).toNat)) → (convert 36 9 (.slice (some ⟨w.heap.size, i - 1, none⟩) (hexN u).length (hexN u).length)).run Tryz.prog W = .ok (.string ⟨(hexN u).toArray⟩) W := by
        rintro W rfl
        refine run_convert_bytes_back (P := Tryz.prog) _ 36 9 5 ⟨w.heap.size, i - 1, none⟩ _ (hexN u) Tryz.underlying36 Tryz.underlying5 Tryz.underlying9 fun j hj => ?_
        have h1 := HB2.out
        unfold BTail at h1
        have ea : (⟨w.heap.size, i - 1, none⟩ : Addr).add j = ⟨w.heap.size, i - 1 + j, none⟩ := by
          unfold Addr.add
          split
          · rename_i h; rw [h]; rfl
          · rfl
        rw [ea, cell_of_row _ _ _ _ _ _ h1, List.getElem?_toArray, List.getElem?_append_right (by rw [HZ.out]; omega), HZ.out, Nat.add_sub_cancel_left]
        simp [Lib.byteCells, hj]
      have hcw := hcv _ rfl
      clear hzl h16 hln hcv
      go_wp2
      rw [dig36 gk _ h16', hcw]
      go_wp2
      go_ret2
      exact ⟨rfl, HX2.out⟩
theorem intFormatUint_any (u : Nat) (w : World) (hu : u < 18446744073709551616) (htab : Lib.TabIs Tryz.prog w "math/bits.deBruijn64tab" .u8 deb64) :
    Calls Tryz.prog 56 #[.int .u64 u, .int .i64 16] w fun e w' => e = .returned (.string ⟨(hexN u).toArray⟩) ∧ Ext w w' := by
  have H := Lib.hid (formatBits_any u w hu htab)
  clear htab hu
  go_enter Tryz.func56, Tryz.ntmps56
  go_wp2_with fail
  refine H.out.mono ?_
  rintro e w1 ⟨rfl, hx⟩
  have HX := Lib.hid hx
  clear hx
  go_wp2
  go_ret
  exact ⟨rfl, HX.out⟩
theorem FormatUint_any (u : Nat) (w : World) (hu : u < 18446744073709551616) (htab : Lib.TabIs Tryz.prog w "math/bits.deBruijn64tab" .u8 deb64) :
    Calls Tryz.prog 39 #[.int .u64 u, .int .i64 16] w fun e w' => e = .returned (.string ⟨(hexN u).toArray⟩) ∧ Ext w w' := by
  have H := Lib.hid (intFormatUint_any u w hu htab)
  clear htab hu
  go_enter Tryz.func39, Tryz.ntmps39
  go_wp2_with fail
  refine H.out.mono ?_
  rintro e w1 ⟨rfl, hx⟩
  have HX := Lib.hid hx
  clear hx
  go_wp2
  go_ret
  exact ⟨rfl, HX.out⟩
/-- Sixteen digits. -/
def hex16 (u : Nat) : List UInt8 := List.replicate (16 - (hexN u).length) 48 ++ hexN u
theorem repeatL_one (c : UInt8) (n : Nat) : Lib.repeatL [c] n = List.replicate n c := by
  induction n with
  | zero => rfl
  | succ n ih => rw [Lib.repeatL, ih]; rfl
theorem ba_append (a b : List UInt8) : (⟨a.toArray⟩ : ByteArray) ++ ⟨b.toArray⟩ = ⟨(a ++ b).toArray⟩ := by
  apply ByteArray.ext; simp
theorem digits_any (u : Nat) (w : World) (hu : u < 18446744073709551616) (htab : Lib.TabIs Tryz.prog w "math/bits.deBruijn64tab" .u8 deb64) :
    Calls Tryz.prog 17 #[.int .u64 u] w fun e w' => e = .returned (.string ⟨(hex16 u).toArray⟩) ∧ Ext w w' := by
  have H := Lib.hid (FormatUint_any u w hu htab)
  have hl := hexN_len u hu
  obtain ⟨n, hn⟩ : ∃ n, (hexN u).length = n := ⟨_, rfl⟩
  have HR := Lib.hid (fun W => Tryz.strings_Repeat ⟨#[48]⟩ (16 - n) W (by omega) (by
    have : (⟨#[48]⟩ : ByteArray).size = 1 := rfl
    rw [this]; omega))
  have HN := Lib.hid hn
  rw [hn] at hl
  clear htab hu
  go_enter Tryz.func17, Tryz.ntmps17
  go_wp2_with fail
  refine H.out.mono ?_
  rintro e w1 ⟨rfl, hx⟩
  have HX := Lib.hid hx
  clear hx
  go_wp2_with fail
  rw [show (16 : Int) - (n : Int) = ((16 - n : Nat) : Int) by omega]
  refine (HR.out _).mono ?_
  rintro e w2 ⟨rfl, hx⟩
  have HX2 := Lib.hid (HX.out.trans hx)
  have e2 : (⟨(Lib.repeatL (⟨#[48]⟩ : ByteArray).data.toList (16 - n)).toArray⟩ : ByteArray) = ⟨(List.replicate (16 - n) 48).toArray⟩ := by
    rw [show (⟨#[48]⟩ : ByteArray).data.toList = [48] from rfl, repeatL_one]
  rw [e2]
  clear hx HX HR H e2 hn
  have hl2 : (hexN u).length ≤ 16 := by have := HN.out; omega
  go_wp2
  go_ret
  refine ⟨?_, HX2.out⟩
  have e : (⟨Array.replicate (16 - n) 48⟩ : ByteArray) ++ ⟨(hexN u).toArray⟩ = ⟨(hex16 u).toArray⟩ := by
    rw [show (Array.replicate (16 - n) (48 : UInt8)) = (List.replicate (16 - n) 48).toArray by simp, ba_append]
    unfold hex16
    rw [HN.out]
  show Ending.returned (.string ((⟨Array.replicate (16 - n) 48⟩ : ByteArray) ++ ⟨(hexN u).toArray⟩)) = _
  rw [e]
end Go.Proofs.YtiihnoelclnahaaGreatDoor
namespace Go.Proofs.YtiihnoelclnahaaGreatDoor
open Go.RowKit Go.Proofs.YtiihnoelclnahaaGreatDoorW.PrintWords Go.Proofs.YtiihnoelclnahaaGreatDoor.Ref
set_option linter.unusedVariables false
set_option linter.unusedSimpArgs false
theorem rSum_any (s : ByteArray) (w : World) (hs : s.size ≤ 140737488355328) :
    Calls Tryz.prog 9 #[.string s] w fun e w' => e = .returned (.int .u64 (fnv s.data.toList : Nat)) ∧ w = w' := by
  go_enter Tryz.func9, Tryz.ntmps9
  go_wp2
  go_loopg [3, 4] s.size (fun kk nv iv wr => ∃ i n : Nat, kk + i = s.size ∧ iv = .int .i64 i ∧ nv = .int .u64 n ∧ w = wr ∧ n < 18446744073709551616 ∧ Hid (n = fnv (s.data.toList.take i)))
  case atStart => exact ⟨0, 14695981039346656037, by omega, rfl, rfl, rfl, by omega, rfl⟩
  case round =>
    obtain ⟨i, n, hki, rfl, rfl, rfl, hn, HN⟩ := hrel
    by_cases hin : i < s.size
    · obtain ⟨x, y, h1, h2, HY⟩ := sum_names n s[i] hn
      have HS : Hid (y = fnv (s.data.toList.take (i + 1))) := by
        have hl : i < s.data.toList.length := by simpa using hin
        rw [List.take_succ_eq_append_getElem hl, fnv_snoc, ← HN.out]
        exact HY.out
      have hyl : y < 18446744073709551616 := by rw [HY.out]; exact fnvStep_lt _ _
      have hw : IntKind.u64.wrap (s[i].toNat : Int) = (s[i].toNat : Int) := wraps_u64 _ (by omega) (by have := s[i].toNat_lt; omega)
      go_wp2
      go_roundg (gk - 1)
      case measure => omega
      case rel => exact ⟨i + 1, y, by omega, by go_num, rfl, rfl, hyl, HS⟩
    · obtain rfl : i = s.size := by omega
      have HF : Hid (n = fnv s.data.toList) := by have := HN.out; rwa [List.take_of_length_le (by simp)] at this
      go_wp2
      go_ret
      exact ⟨ret_int (by rw [← HF.out]), rfl⟩
/-- So many digits to the base 16. -/
def hdig : Nat → Nat → List UInt8
  | 0, _ => []
  | k + 1, n => hdig k (n / 16) ++ [hexc (n % 16)]
theorem hdig_zero (k : Nat) : hdig k 0 = List.replicate k 48 := by
  induction k with
  | zero => rfl
  | succ k ih => simp only [hdig]; rw [show 0 / 16 = 0 from rfl, ih, List.replicate_succ']; rfl
theorem hdig_hexN (k : Nat) : ∀ n, n < 16 ^ (k + 1) → hdig (k + 1) n = List.replicate (k + 1 - (hexN n).length) 48 ++ hexN n := by
  induction k with
  | zero =>
    intro n hn
    have h : n < 16 := by simpa using hn
    rw [hexN_small h]; simp only [hdig]; rw [Nat.mod_eq_of_lt h]; rfl
  | succ k ih =>
    intro n hn
    by_cases h : n < 16
    · rw [hexN_small h]
      show hdig (k + 1) (n / 16) ++ [hexc (n % 16)] = _
      rw [Nat.div_eq_of_lt h, hdig_zero, Nat.mod_eq_of_lt h]; rfl
    · rw [hexN_big h]
      show hdig (k + 1) (n / 16) ++ [hexc (n % 16)] = _
      rw [ih (n / 16) (Nat.div_lt_of_lt_mul (by rw [Nat.pow_succ] at hn; omega)), List.append_assoc, List.length_append, List.length_singleton]
      rw [show k + 1 + 1 - ((hexN (n / 16)).length + 1) = k + 1 - (hexN (n / 16)).length by omega]
theorem hex16_hdig {n : Nat} (h : n < 18446744073709551616) : hdig 16 n = hex16 n := by
  have h4 : (16 : Nat) ^ (15 + 1) = 18446744073709551616 := by decide
  rw [hdig_hexN 15 n (by omega)]; rfl
theorem bt_hex {r : Nat} (h : r < 16) : bt (⟨#[48, 49, 50, 51, 52, 53, 54, 55, 56, 57, 97, 98, 99, 100, 101, 102]⟩ : ByteArray) (r : Int) = ((hexc r).toNat : Int) := by
  have : r = 0 ∨ r = 1 ∨ r = 2 ∨ r = 3 ∨ r = 4 ∨ r = 5 ∨ r = 6 ∨ r = 7 ∨ r = 8 ∨ r = 9 ∨ r = 10 ∨ r = 11 ∨ r = 12 ∨ r = 13 ∨ r = 14 ∨ r = 15 := by omega
  rcases this with rfl | rfl | rfl | rfl | rfl | rfl | rfl | rfl | rfl | rfl | rfl | rfl | rfl | rfl | rfl | rfl <;> rfl
theorem hex_l0 : ∀ (m n : Nat) (D : List UInt8), m ≤ 16 → n < 18446744073709551616 → Evl (fun k => parquetref28_hex.l0 k n (List.replicate m 0 ++ D.map fun b => (b.toNat : Int)) ((m : Int) - 1)) ⟨(hdig m n ++ D).toArray⟩ := by
  intro m
  induction m with
  | zero =>
    intro n D _ _
    refine (Evl.const _).step fun k => ?_
    rw [parquetref28_hex.l0, if_neg (by omega)]
    simp [strOfNums, hdig, Function.comp_def]
  | succ m ih =>
    intro n D hm hn
    have hx : ((m + 1 : Nat) : Int) - 1 = (m : Int) := by omega
    have e1 : Int.tmod (n : Int) 16 = ((n % 16 : Nat) : Int) := by rw [Int.tmod_eq_emod_of_nonneg (by omega)]; omega
    have e2 : IntKind.u64.wrap (Int.tdiv (n : Int) 16) = ((n / 16 : Nat) : Int) := by
      rw [Int.tdiv_eq_ediv_of_nonneg (by omega)]; show (n : Int) / 16 % 18446744073709551616 = _; omega
    have e3 : (List.replicate (m + 1) (0 : Int) ++ D.map fun b => (b.toNat : Int)).set m ((hexc (n % 16)).toNat : Int) = List.replicate m 0 ++ (hexc (n % 16) :: D).map fun b => (b.toNat : Int) := by
      rw [List.replicate_succ', List.append_assoc, List.set_append_right _ _ (by simp)]
      simp
    have h2 := ih (n / 16) (hexc (n % 16) :: D) (by omega) (by omega)
    rw [hx]
    simp only [hdig, List.append_assoc, List.cons_append, List.nil_append]
    refine h2.step fun k => ?_
    rw [parquetref28_hex.l0, if_pos (by omega), e1, if_pos (by omega), if_pos (by omega), if_pos (by omega), if_pos (by simp; omega), bt_hex (by omega), e2, wr (by omega) (by omega), Int.toNat_natCast, e3]
theorem rHex_any (n : Nat) (w : World) (hn : n < 18446744073709551616) :
    Calls Tryz.prog 20 #[.int .u64 n] w fun e w' => e = .returned (.string ⟨(hex16 n).toArray⟩) ∧ Ext w w' := by
  obtain ⟨K, hK⟩ := (hex_l0 16 n [] (Nat.le_refl _) hn).one
  rw [hex16_hdig hn, List.append_nil] at hK
  refine (parquetref28_hex.calls K n ⟨(hex16 n).toArray⟩ w ?_).mono fun e w' ⟨he, hx⟩ => ⟨he, hx⟩
  unfold parquetref28_hex.f
  rw [if_pos (by decide)]
  exact hK
end Go.Proofs.YtiihnoelclnahaaGreatDoor
namespace Go.Proofs.YtiihnoelclnahaaGreatDoor
open Go.RowKit
set_option linter.unusedVariables false
/-- The cells from A on hold these lists of rows. -/
def IsForms (w : World) (A : Option Addr) (ls : List (List (List Int))) : Prop :=
  0 < ls.length → ∃ b off : Nat, A = some ⟨b, off, none⟩ ∧ b < w.heap.size ∧ ∀ (i : Nat) (rows : List (List Int)), ls[i]? = some rows → ∃ R c, w.cell? ⟨b, off + i, none⟩ = some (.slice R rows.length c) ∧ rows.length ≤ c ∧ IsRows w R rows
def FitForms (ls : List (List (List Int))) : Prop := ls.length ≤ 140737488351232 ∧ ∀ rows ∈ ls, Fit64 rows
theorem IsForms.ext {w w' : World} {A : Option Addr} {ls : List (List (List Int))} (h : IsForms w A ls) (hb : Ext w w') : IsForms w' A ls := by
  intro hl
  obtain ⟨b, off, e, hlt, hc⟩ := h hl
  refine ⟨b, off, e, Nat.lt_of_lt_of_le hlt hb.size, fun i l hi => ?_⟩
  obtain ⟨R, c, h1, h2, h3⟩ := hc i l hi
  exact ⟨R, c, hb.cell h1, h2, h3.ext hb⟩
theorem IsForms.at_ {w : World} {A : Option Addr} {ls : List (List (List Int))} (h : IsForms w A ls) {i : Nat} {rows : List (List Int)} (hi : ls[i]? = some rows) :
    ∃ (b off : Nat) (R : Option Addr) (c : Nat), A = some ⟨b, off, none⟩ ∧ b < w.heap.size ∧ w.cell? ⟨b, off + i, none⟩ = some (.slice R rows.length c) ∧ rows.length ≤ c ∧ IsRows w R rows := by
  obtain ⟨b, off, e, hlt, hc⟩ := h (by have := (List.getElem?_eq_some_iff.1 hi).1; omega)
  obtain ⟨R, c, h1, h2, h3⟩ := hc i rows hi
  exact ⟨b, off, R, c, e, hlt, h1, h2, h3⟩
def rowText (l : List Int) (k : Nat) : List UInt8 := (l.take k).flatMap fun x => 32 :: Lib.itoa x
def rowsText (rows : List (List Int)) (i : Nat) : List UInt8 := (List.range i).flatMap fun r => rowText ((rows[r]?).getD []) (r + 1)
def lineOf (rows : List (List Int)) : List UInt8 := Lib.itoa rows.length ++ rowsText rows rows.length ++ [10]
/-- "parquet ". -/
def headW : List UInt8 := [112, 97, 114, 113, 117, 101, 116, 32]
/-- "sum ". -/
def sumW : List UInt8 := [115, 117, 109, 32]
def bodyTo (ls : List (List (List Int))) (k : Nat) : List UInt8 := headW ++ Lib.itoa ls.length ++ [10] ++ (ls.take k).flatMap lineOf
def bodyOf (ls : List (List (List Int))) : List UInt8 := bodyTo ls ls.length
def textOf (ls : List (List (List Int))) : List UInt8 := bodyOf ls ++ sumW ++ hex16 (fnv (bodyOf ls)) ++ [10]
/-- The first code that is none. -/
def firstBad : List (List (List Int)) → Int
  | [] => 0
  | rows :: ls => if chk rows = 0 then firstBad ls else chk rows
def codeW (ls : List (List (List Int))) : Int := if 64 < ls.length then 9 else firstBad ls
def textW (ls : List (List (List Int))) : List UInt8 := if codeW ls = 0 then textOf ls else []
theorem rowText_succ (l : List Int) (k : Nat) (x : Int) (h : l[k]? = some x) : rowText l (k + 1) = rowText l k ++ (32 :: Lib.itoa x) := by
  obtain ⟨h1, rfl⟩ := List.getElem?_eq_some_iff.1 h
  unfold rowText
  rw [List.take_succ_eq_append_getElem h1, List.flatMap_append]; simp
theorem rowsText_succ (rows : List (List Int)) (i : Nat) (l : List Int) (h : rows[i]? = some l) : rowsText rows (i + 1) = rowsText rows i ++ rowText l (i + 1) := by
  unfold rowsText
  rw [List.range_succ, List.flatMap_append]; simp [h]
theorem bodyTo_succ (ls : List (List (List Int))) (k : Nat) (rows : List (List Int)) (h : ls[k]? = some rows) : bodyTo ls (k + 1) = bodyTo ls k ++ lineOf rows := by
  obtain ⟨h1, rfl⟩ := List.getElem?_eq_some_iff.1 h
  unfold bodyTo
  rw [List.take_succ_eq_append_getElem h1, List.flatMap_append, ← List.append_assoc]; simp
theorem firstBad_ok {ls : List (List (List Int))} (h : ∀ (i : Nat) (rows : List (List Int)), ls[i]? = some rows → chk rows = 0) : firstBad ls = 0 := by
  induction ls with
  | nil => rfl
  | cons r ls ih =>
    rw [firstBad, if_pos (h 0 r rfl)]
    exact ih fun i rows hi => h (i + 1) rows hi
theorem firstBad_at {ls : List (List (List Int))} {k : Nat} {rows : List (List Int)} (hk : ls[k]? = some rows) (hb : ∀ (i : Nat) (r : List (List Int)), i < k → ls[i]? = some r → chk r = 0) (hc : chk rows ≠ 0) : firstBad ls = chk rows := by
  induction ls generalizing k with
  | nil => simp at hk
  | cons r ls ih =>
    cases k with
    | zero =>
      simp at hk; subst hk
      rw [firstBad, if_neg hc]
    | succ k =>
      rw [firstBad, if_pos (hb 0 r (by omega) rfl)]
      exact ih hk fun i r' hi hr => hb (i + 1) r' (by omega) hr
/-- What a list of rows is that Check lets in. -/
theorem chk_ok {rows : List (List Int)} (h : chk rows = 0) : 1 ≤ rows.length ∧ rows.length ≤ 8 ∧ (∀ l ∈ rows, l.length = rows.length) ∧ eachB smallP rows = true ∧ eachB (mirrorB rows) rows = true ∧ posB rows.length (entry rows) = true := by
  unfold chk at h
  split at h
  · omega
  · split at h
    · omega
    · split at h
      · omega
      · split at h
        · omega
        · split at h
          · omega
          · rename_i h1 h2 h3 h4 h5
            refine ⟨by omega, by omega, fun l hl => ?_, by simpa using h3, by simpa using h4, by simpa using h5⟩
            rcases Nat.decEq l.length rows.length with h | h
            · exact absurd ⟨l, hl, h⟩ h2
            · exact h
theorem rowText_len (l : List Int) (k : Nat) (hl : ∀ z ∈ l, -9223372036854775808 ≤ z ∧ z ≤ 9223372036854775807) : (rowText l k).length ≤ 22 * k := by
  induction k with
  | zero => simp [rowText]
  | succ k ih =>
    cases hx : l[k]? with
    | none =>
      have h1 := List.getElem?_eq_none_iff.1 hx
      have e : rowText l (k + 1) = rowText l k := by unfold rowText; rw [List.take_of_length_le (by omega), List.take_of_length_le (by omega)]
      rw [e]; omega
    | some x =>
      rw [rowText_succ l k x hx, List.length_append, List.length_cons]
      obtain ⟨q, rfl⟩ := List.getElem?_eq_some_iff.1 hx
      have := Lib.itoa_length_le l[k] (hl _ (List.getElem_mem q)).1 (hl _ (List.getElem_mem q)).2
      omega
theorem rowsText_len (rows : List (List Int)) (i : Nat) (hf : Fit64 rows) (hi : i ≤ 8) : (rowsText rows i).length ≤ 176 * i := by
  induction i with
  | zero => simp [rowsText]
  | succ i ih =>
    have ih := ih (by omega)
    cases hx : rows[i]? with
    | none =>
      have e : rowsText rows (i + 1) = rowsText rows i := by
        unfold rowsText
        rw [List.range_succ, List.flatMap_append]; simp [hx, rowText]
      rw [e]; omega
    | some l =>
      rw [rowsText_succ rows i l hx, List.length_append]
      have := rowText_len l (i + 1) (hf.row hx).2
      omega
theorem hex16_len {u : Nat} (h : u < 18446744073709551616) : (hex16 u).length = 16 := by
  unfold hex16
  have := hexN_len u h
  simp only [List.length_append, List.length_replicate]; omega
theorem itoa_pos (n : Int) : 1 ≤ (Lib.itoa n).length := by
  unfold Lib.itoa
  split
  · simp
  · rw [Lib.decDigits_length]; exact Lib.nDigits_pos _
/-- What the program's variables hold. -/
structure Vars (w : World) : Prop where
  pow : Lib.TabIs Tryz.prog w "internal/strconv.uint64pow10" .u64 Lib.pow10Tab
  deb : Lib.TabIs Tryz.prog w "math/bits.deBruijn64tab" .u8 deb64
  syn : ∃ tp p, w.var? Tryz.prog "strconv.ErrSyntax" = some #[.iface tp p]
  rng : ∃ tp p, w.var? Tryz.prog "strconv.ErrRange" = some #[.iface tp p]
  ety : w.cell? ⟨0, 0, none⟩ = some (.iface 86 (.agg #[.pointer (some ⟨7, 32, none⟩)]))
theorem Vars.ext {w w' : World} (h : Vars w) (hx : Ext w w') : Vars w' :=
  ⟨tabIs_ext h.pow hx, tabIs_ext h.deb hx, let ⟨tp, p, e⟩ := h.syn; ⟨tp, p, var_ext e hx⟩, let ⟨tp, p, e⟩ := h.rng; ⟨tp, p, var_ext e hx⟩, hx.cell h.ety⟩
theorem Vars.below {w : World} (h : Vars w) : Lib.TabBelow Tryz.prog w.heap.size w "internal/strconv.uint64pow10" .u64 Lib.pow10Tab := fun w' hb => tabIs_ext h.pow hb
theorem own_ext {w w' : World} {base : Nat} {e : TypeId} {size n : Nat} {v : Value} {xs : List Value} (h : w.ownsRow base e size v n xs) (hx : Ext w w') : w'.ownsRow base e size v n xs :=
  h.kept (row := none) ⟨Below.os hx, Below.tape hx, Below.output hx, Below.size hx, fun k hk _ => Below.block hx k hk⟩ (by cases v.ownBlock <;> simp)
theorem Tryz.infoU8 : (Tryz.prog.info? 5).map (fun i => (i.zero, i.size, i.bytes)) = some (some (.int .u8 0), 1, 1) := by kernel_rfl
theorem Itoa_any (n : Int) (w : World) (h0 : -9223372036854775808 ≤ n) (h1 : n ≤ 9223372036854775807) (hv : Vars w) :
    Calls Tryz.prog 14 #[.int .i64 n] w fun e w' => e = .returned (.string ⟨(Lib.itoa n).toArray⟩) ∧ Ext w w' :=
  (Tryz.strconv_Itoa n h0 h1 w hv.pow).mono fun e w' ⟨he, k, os, hw⟩ => ⟨he, by rw [hw]; exact Lib.below_grow w.heap.size w (Nat.le_refl _) k os⟩
theorem FormatInt_any (n : Int) (w : World) (h0 : -9223372036854775808 ≤ n) (h1 : n ≤ 9223372036854775807) (hv : Vars w) :
    Calls Tryz.prog 26 #[.int .i64 n, .int .i64 10] w fun e w' => e = .returned (.string ⟨(Lib.itoa n).toArray⟩) ∧ Ext w w' :=
  (Tryz.strconv_FormatInt_10 n h0 h1 w hv.pow).mono fun e w' ⟨he, k, os, hw⟩ => ⟨he, by rw [hw]; exact Lib.below_grow w.heap.size w (Nat.le_refl _) k os⟩
end Go.Proofs.YtiihnoelclnahaaGreatDoor
namespace Go.Proofs.YtiihnoelclnahaaGreatDoor
set_option linter.unusedSimpArgs false
open Go.RowKit
set_option linter.unusedVariables false
/-- A row of bytes that the call made. -/
def Buf (w : World) (B : Nat) (v : Value) (l : List UInt8) : Prop := w.ownsRow B 5 1 v l.length (Lib.byteCells l)
theorem Buf.ext {w w' : World} {B : Nat} {v : Value} {l : List UInt8} (h : Buf w B v l) (hx : Ext w w') : Buf w' B v l := own_ext h hx
theorem byteCells_append (a b : List UInt8) : Lib.byteCells (a ++ b) = Lib.byteCells a ++ Lib.byteCells b := by simp [Lib.byteCells]
theorem Buf.slice {w : World} {B : Nat} {v : Value} {l : List UInt8} (h : Buf w B v l) (h0 : 0 < l.length) :
    ∃ g cap, v = .slice (some ⟨g, 0, none⟩) l.length cap ∧ B ≤ g ∧ ∀ j, j < l.length → w.cell? ⟨g, j, none⟩ = some (.int .u8 (l[j]!).toNat) := by
  obtain ⟨hl, h1 | ⟨g, cap, cur, hv, hb, hh, r1, r2, r3, r4⟩⟩ := h
  · omega
  · refine ⟨g, cap, hv, hb, fun j hj => ?_⟩
    rw [cell_of_row _ _ _ _ _ _ hh]
    have e := congrArg (fun q : List Value => q[j]?) r4
    simp only [List.getElem?_take, Nat.mul_one, hj, if_true, Array.getElem?_toList] at e
    rw [e]
    simp [Lib.byteCells, hj]
/-- string(b). -/
theorem Buf.text {w : World} {B : Nat} {v : Value} {l : List UInt8} (h : Buf w B v l) (h0 : 0 < l.length) : (convert 36 9 v).run Tryz.prog w = .ok (.string ⟨l.toArray⟩) w := by
  obtain ⟨g, cap, rfl, _, hc⟩ := h.slice h0
  refine run_convert_bytes_back (P := Tryz.prog) _ 36 9 5 ⟨g, 0, none⟩ _ l Tryz.underlying36 Tryz.underlying5 Tryz.underlying9 fun j hj => ?_
  have ea : (⟨g, 0, none⟩ : Addr).add j = ⟨g, j, none⟩ := by
    unfold Addr.add
    split
    · rename_i h; rw [h]
    · simp
  rw [ea, hc j hj]
  simp [hj]
theorem grown_below {B : Nat} {w w' : World} {v : Value} {l : List UInt8} (h : Buf w B v l) (hg : w.grownBy w' v.ownBlock) (hB : B ≤ w.heap.size) : Below B w w' :=
  Below.grown (Below.refl _ _) hg hB fun k hk => (h.lt k hk).1
/-- append(b, c). -/
theorem wpList_append_byte {w : World} {ops : Array Oper} {rest : List Oper} {o : Oper} {a : Act} {Q : Exit → Act → World → Prop} (hgd : o.guard = none) (s x : Operand)
    (ho : o.op = .call { callee := .builtin .append, args := #[s, x], argTypes := #[36, 36] })
    (B : Nat) (v : Value) (l : List UInt8) (hs : a.eval s = v) (hB : Buf w B v l) (g cap : Nat) (c : UInt8) (hx : a.eval x = .slice (some ⟨g, 0, none⟩) 1 cap) (hc : w.cell? ⟨g, 0, none⟩ = some (.int .u8 c.toNat))
    (hl : l.length ≤ 1099511627776) (hbase : B ≤ w.heap.size)
    (h : ∀ v' w', Hid (Buf w' B v' (l ++ [c])) → Hid (Below B w w') → wpList Tryz.prog ops Q rest (a.put o.dst v') w') : wpList Tryz.prog ops Q (o :: rest) a w := by
  obtain ⟨i0, hi, hz0, hz1, hz2⟩ := info_parts Tryz.infoU8
  refine wpList_append_own (P := Tryz.prog) w hgd s x 36 ho B 5 i0 (.int .u8 0) 1 1 Tryz.underlying36 hi hz0 hz1 hz2 rfl (by decide) v l.length (Lib.byteCells l) hs hB ⟨g, 0, none⟩ 1 cap [.int .u8 c.toNat] hx rfl ?_ ?_ (by unfold maxLen; omega) (by omega) hbase ?_
  · intro j u hj
    match j, hj with
    | 0, hj =>
      simp at hj; subst hj
      have ea : (⟨g, 0, none⟩ : Addr).add 0 = ⟨g, 0, none⟩ := by unfold Addr.add; simp
      rw [ea]; exact hc
  · intro u hu; simp at hu; subst hu; rfl
  · intro v' w' hv hg _
    refine h v' w' ?_ (grown_below hB hg hbase)
    unfold Buf Hid
    rw [List.length_append, byteCells_append]
    exact hv
/-- append(b, c), the one byte lying in a new block. -/
theorem wpList_append_lit {W : World} {ops : Array Oper} {rest : List Oper} {o : Oper} {a : Act} {Q : Exit → Act → World → Prop} (hgd : o.guard = none) (s x : Operand)
    (ho : o.op = .call { callee := .builtin .append, args := #[s, x], argTypes := #[36, 36] })
    (B : Nat) (v : Value) (l : List UInt8) (hs : a.eval s = v) (hB : Buf W B v l) (c : UInt8) (q : Int) (hq : q = c.toNat) (hx : a.eval x = .slice (some ⟨W.heap.size, 0, none⟩) 1 1)
    (hl : l.length ≤ 1099511627776) (hbase : B ≤ W.heap.size)
    (h : ∀ v' w', Hid (Buf w' B v' (l ++ [c])) → Hid (Below B W w') → wpList Tryz.prog ops Q rest (a.put o.dst v') w') : wpList Tryz.prog ops Q (o :: rest) a (W.alloc (.cells #[.int .u8 q] 5)) := by
  subst hq
  have hx1 : Ext W (W.alloc (.cells #[.int .u8 (c.toNat : Int)] 5)) := (Ext.refl W).alloc _
  refine wpList_append_byte hgd s x ho B v l hs (hB.ext hx1) W.heap.size 1 c hx ?_ hl (Nat.le_trans hbase hx1.size) fun v' w' h1 h2 => h v' w' h1 ?_
  · rw [cell_of_row _ _ _ _ _ _ (heap_new W _)]; rfl
  · exact Below.trans (Below.mono hx1 hbase) h2.out
/-- append([]byte("parquet "), s...): there is no room. -/
theorem wpList_append_first {w : World} {ops : Array Oper} {rest : List Oper} {o : Oper} {a : Act} {Q : Exit → Act → World → Prop} (hgd : o.guard = none) (s x : Operand)
    (ho : o.op = .call { callee := .builtin .append, args := #[s, x], argTypes := #[36, 9] })
    (B g : Nat) (l t : List UInt8) (k : Nat) (hs : a.eval s = .slice (some ⟨g, 0, none⟩) k k) (hk : k = l.length) (hc : ∀ (j : Nat) (u : UInt8), l[j]? = some u → w.cell? ⟨g, j, none⟩ = some (.int .u8 u.toNat))
    (hx : a.eval x = .string ⟨t.toArray⟩) (h0 : 0 < t.length) (hl : l.length + t.length ≤ 1099511627776) (hbase : B ≤ w.heap.size)
    (h : ∀ v' w', Hid (Buf w' B v' (l ++ t)) → Hid (Ext w w') → wpList Tryz.prog ops Q rest (a.put o.dst v') w') : wpList Tryz.prog ops Q (o :: rest) a w := by
  subst hk
  obtain ⟨i0, hi, hz0, hz1, hz2⟩ := info_parts Tryz.infoU8
  have hsz : (⟨t.toArray⟩ : ByteArray).size = t.length := by simp [ByteArray.size]
  have hr := Lib.run_append_grow_string (P := Tryz.prog) w 36 9 o.type 5 i0 (.int .u8 0) Tryz.underlying36 Tryz.underlying9 hi hz0 ⟨g, 0, none⟩ l.length l.length (Lib.byteCells l) (by rw [hz1]; simp [Lib.byteCells]) (by
    intro j v hj
    have ea : (⟨g, 0, none⟩ : Addr).add j = ⟨g, j, none⟩ := by
      unfold Addr.add
      split
      · rename_i h; rw [h]
      · simp
    rw [ea]
    simp only [Lib.byteCells, List.getElem?_map] at hj
    cases hh : l[j]? with
    | none => rw [hh] at hj; cases hj
    | some u =>
      rw [hh] at hj
      simp only [Option.map_some, Option.some.injEq] at hj
      subst hj
      exact hc j u hh) ⟨t.toArray⟩ (by omega) (by omega) (by rw [hsz, hz2]; exact growslice_fits (by omega) (by omega))
  refine wpList_plain hgd fun K hK => ?_
  unfold Oper.wp execOp
  simp only [ho, resolve, invoke, builtin, Sem.run_bind, Sem.run_pure, Result.andThen_ok, List.map_toArray, List.map_cons, List.map_nil, hs, hx, hr]
  refine hK _ _ (h _ _ ?_ ?_)
  · have hge := grownCap_ge w (l.length + t.length) l.length 5
    have hle := grownCap_le_maxLen w (l.length + t.length) l.length 5 (by unfold maxLen; omega)
    have hcz : (Value.int IntKind.u8 0).cells.size = 1 := rfl
    rw [hsz]
    refine ⟨by rw [Lib.byteCells_length]; omega, .inr ⟨w.heap.size, grownCap w (l.length + t.length) l.length 5, _, ?_, hbase, heap_new w.drew _, ?_, hle, ?_, ?_⟩⟩
    · rw [List.length_append]
    · rw [List.length_append]; exact hge
    · simp only [Array.size_append, size_zeroCells, hcz, Lib.strCells_toArray, List.size_toArray, Lib.byteCells_length]; omega
    · simp only [Lib.strCells_toArray, Array.toList_append, List.toList_toArray, Nat.mul_one, ← byteCells_append]
      rw [List.take_append_of_le_length (by rw [Lib.byteCells_length]; omega), List.take_of_length_le (by rw [Lib.byteCells_length]; omega)]
  · exact Ext.alloc (Ext.drew (Ext.refl w)) _
end Go.Proofs.YtiihnoelclnahaaGreatDoor
namespace Go.Proofs.YtiihnoelclnahaaGreatDoor
open Go.RowKit
set_option linter.unusedVariables false
theorem line_len (rows : List (List Int)) (hf : Fit64 rows) (h8 : rows.length ≤ 8) : (lineOf rows).length ≤ 1440 := by
  unfold lineOf
  have h1 := rowsText_len rows rows.length hf h8
  have h2 := Lib.itoa_length_le (rows.length : Int) (by omega) (by omega)
  simp only [List.length_append, List.length_cons, List.length_nil]; omega
theorem bodyTo_len (ls : List (List (List Int))) (k : Nat) (hf : FitForms ls) (hg : ∀ (i : Nat) (rows : List (List Int)), i < k → ls[i]? = some rows → chk rows = 0) : (bodyTo ls k).length ≤ 30 + 1440 * k := by
  induction k with
  | zero =>
    unfold bodyTo headW
    have h2 := Lib.itoa_length_le (ls.length : Int) (by omega) (by have := hf.1; omega)
    simp only [List.length_append, List.length_cons, List.length_nil, List.take_zero, List.flatMap_nil]; omega
  | succ k ih =>
    have ih := ih fun i rows hi => hg i rows (by omega)
    cases hx : ls[k]? with
    | none =>
      have h1 := List.getElem?_eq_none_iff.1 hx
      have e : bodyTo ls (k + 1) = bodyTo ls k := by unfold bodyTo; rw [List.take_of_length_le (by omega), List.take_of_length_le (by omega)]
      rw [e]; omega
    | some rows =>
      rw [bodyTo_succ ls k rows hx, List.length_append]
      have h8 := (chk_ok (hg k rows (by omega) hx)).2.1
      have := line_len rows (hf.2 _ (by obtain ⟨q, rfl⟩ := List.getElem?_eq_some_iff.1 hx; exact List.getElem_mem q)) h8
      omega
theorem Ext.trans' {a b c : World} (h : Ext a b) (k : Below a.heap.size b c) : Ext a c := Below.trans h k
theorem write_many (A : Option Addr) (n c : Nat) (w : World) (hn : 64 < n) (hm : n ≤ 140737488351232) :
    Calls Tryz.prog 6 #[.slice A n c] w fun e w' => e = .returned (.tuple #[.string ⟨#[]⟩, .int .i64 9]) ∧ Ext w w' := by
  have d1 : decide ((64 : Int) < n) = true := by simp; omega
  go_enter Tryz.func6, Tryz.ntmps6
  go_wp2
  go_ret2
  exact ⟨rfl, Ext.refl w⟩
set_option maxHeartbeats 2000000 in
set_option maxRecDepth 100000 in
theorem write_rest (A : Option Addr) (n c : Nat) (ls : List (List (List Int))) (w : World) (hn : n = ls.length) (hn64 : n ≤ 64) (hr : IsForms w A ls) (hf : FitForms ls) (hv : Vars w) :
    Calls Tryz.prog 6 #[.slice A n c] w fun e w' => e = .returned (.tuple #[.string ⟨(textW ls).toArray⟩, .int .i64 (codeW ls)]) ∧ Ext w w' := by
  have d1 : decide ((64 : Int) < n) = false := by simp; omega
  have HN := Lib.hid hn
  have HR := Lib.hid hr
  have HF := Lib.hid hf
  have HV := Lib.hid hv
  have kc := fun (w : World) (C : Array Value) (n c : Nat) => Lib.run_convert_bytes_const (P := Tryz.prog) w 36 5 C n c Tryz.underlying36 Tryz.underlying5
  obtain ⟨il, hil⟩ : ∃ il, Lib.itoa (n : Int) = il := ⟨_, rfl⟩
  have hil0 : 0 < il.length := by rw [← hil]; exact itoa_pos _
  have hil1 : il.length ≤ 21 := by rw [← hil]; exact Lib.itoa_length_le _ (by omega) (by omega)
  have HIt := Lib.hid (fun W (hV : Vars W) => Itoa_any (n : Int) W (by omega) (by omega) hV)
  rw [hil] at HIt
  have HIL := Lib.hid hil
  clear hn hr hf hv hil
  go_enter Tryz.func6, Tryz.ntmps6
  go_wp2_with fail
  obtain ⟨W0, hW0⟩ : ∃ W0, w.alloc (.cells #[.int .u8 112, .int .u8 97, .int .u8 114, .int .u8 113, .int .u8 117, .int .u8 101, .int .u8 116, .int .u8 32] 5 (8, 9)) = W0 := ⟨_, rfl⟩
  have hX0 : Ext w W0 := by rw [← hW0]; exact (Ext.refl w).alloc _
  have hh := heap_new w (.cells #[.int .u8 112, .int .u8 97, .int .u8 114, .int .u8 113, .int .u8 117, .int .u8 101, .int .u8 116, .int .u8 32] 5 (8, 9))
  rw [hW0] at hh ⊢
  have HC0 : Hid (∀ (j : Nat) (u : UInt8), headW[j]? = some u → W0.cell? ⟨w.heap.size, j, none⟩ = some (.int .u8 u.toNat)) := by
    intro j u hj
    rw [cell_of_row _ _ _ _ _ _ hh]
    match j, hj with
    | 0, hj => simp [headW] at hj; subst hj; rfl
    | 1, hj => simp [headW] at hj; subst hj; rfl
    | 2, hj => simp [headW] at hj; subst hj; rfl
    | 3, hj => simp [headW] at hj; subst hj; rfl
    | 4, hj => simp [headW] at hj; subst hj; rfl
    | 5, hj => simp [headW] at hj; subst hj; rfl
    | 6, hj => simp [headW] at hj; subst hj; rfl
    | 7, hj => simp [headW] at hj; subst hj; rfl
    | j + 8, hj => simp [headW] at hj
  have HX0 := Lib.hid hX0
  clear hW0 hX0 hh
  refine (HIt.out _ (HV.out.ext HX0.out)).mono ?_
  rintro e w1 ⟨rfl, hx⟩
  have HX1 := Lib.hid (HX0.out.trans hx)
  have HC1 : Hid (∀ (j : Nat) (u : UInt8), headW[j]? = some u → w1.cell? ⟨w.heap.size, j, none⟩ = some (.int .u8 u.toNat)) := fun j u hj => hx.cell (HC0.out j u hj)
  have hz1 : w.heap.size ≤ w1.heap.size := HX1.out.size
  clear hx HX0 HC0 HIt
  have HK8 : Hid (8 = headW.length) := rfl
  have hsum : headW.length + il.length ≤ 1099511627776 := by have : headW.length = 8 := rfl; omega
  go_wp2_with (with_reducible refine wpList_append_first rfl (.tmp 15) (.tmp 18) rfl w.heap.size w.heap.size headW il 8 rfl HK8.out HC1.out rfl hil0 hsum hz1 ?_)
  intro v2 w2 HB2 HX12
  have HX2 := Lib.hid (HX1.out.trans HX12.out)
  have hz2 : w.heap.size ≤ w2.heap.size := HX2.out.size
  clear HC1 HX1 HX12
  have hlen2 : (headW ++ il).length ≤ 1099511627776 := by rw [List.length_append]; exact hsum
  have hq10 : Hid ((10 : Int) = (10 : UInt8).toNat) := rfl
  have hq32 : Hid ((32 : Int) = (32 : UInt8).toNat) := rfl
  go_wp2_with (with_reducible refine wpList_append_lit rfl (.tmp 20) (.tmp 21) rfl w.heap.size v2 (headW ++ il) rfl HB2.out 10 10 hq10.out rfl hlen2 hz2 ?_)
  intro v3 w3 HB3 HX23
  have HX3 : Hid (Ext w w3) := HX2.out.trans' HX23.out
  have HB3' : Hid (Buf w3 w.heap.size v3 (bodyTo ls 0)) := by
    have e : bodyTo ls 0 = headW ++ il ++ [10] := by unfold bodyTo; rw [← HIL.out, HN.out]; simp
    unfold Hid; rw [e]; exact HB3.out
  clear HB2 HX2 HB3 HX23 hlen2 hsum
  go_wp2
  go_loopg [4, 25] n (fun kk bv iv wr => ∃ k : Nat, kk + k = n ∧ iv = .int .i64 k ∧ Hid (Buf wr w.heap.size bv (bodyTo ls k)) ∧ Hid (∀ (i : Nat) (rows : List (List Int)), i < k → ls[i]? = some rows → chk rows = 0) ∧ Hid (Ext w wr))
  case atStart => exact ⟨0, by omega, rfl, HB3', fun i rows h => by omega, HX3⟩
  case round =>
    clear HB3' HX3
    obtain ⟨k, hkk, rfl, HB, HG, HX⟩ := hrel
    have hzr : w.heap.size ≤ wr.heap.size := HX.out.size
    have hlk : (bodyTo ls k).length ≤ 30 + 1440 * k := bodyTo_len ls k HF.out HG.out
    by_cases hkn : k < n
    · obtain ⟨rows, hrows⟩ : ∃ rows, ls[k]? = some rows := ⟨_, List.getElem?_eq_getElem (by have := HN.out; omega)⟩
      obtain ⟨b, off, R, c', rfl, hb, h1, h2, h3⟩ := HR.out.at_ hrows
      replace h1 := HX.out.cell h1
      have HRw := Lib.hid hrows
      have H3 := Lib.hid h3
      have hfr : Fit64 rows := HF.out.2 _ (by obtain ⟨q, rfl⟩ := List.getElem?_eq_some_iff.1 hrows; exact List.getElem_mem q)
      have HFr := Lib.hid hfr
      obtain ⟨m, hm⟩ : ∃ m, rows.length = m := ⟨_, rfl⟩
      have hm64 : m ≤ 140737488351232 := by rw [← hm]; exact hfr.1
      rw [hm] at h1 h2
      have HCk := Lib.hid (check_any R m c' rows wr hm.symm (h3.ext HX.out) hfr)
      obtain ⟨cc, hcc⟩ : ∃ cc, chk rows = cc := ⟨_, rfl⟩
      rw [hcc] at HCk
      have HM := Lib.hid hm
      have HCC := Lib.hid hcc
      clear hrows h3 hfr hm hcc
      by_cases hc0 : cc = 0
      · subst hc0
        have hck := chk_ok HCC.out
        have hm8 : m ≤ 8 := by rw [← HM.out]; exact hck.2.1
        have HSq := Lib.hid hck.2.2.1
        clear hck
        go_wp2_with fail
        refine HCk.out.mono ?_
        rintro e w3 ⟨rfl, hx3⟩
        have HX3 := Lib.hid (HX.out.trans hx3)
        have HB3 := Lib.hid (HB.out.ext hx3)
        have hz3 : w.heap.size ≤ w3.heap.size := HX3.out.size
        clear hx3 HCk HB HX hzr h1
        go_wp2_with fail
        refine (Tryz.strconv_AppendInt_10 w.heap.size _ (m : Int) (by omega) (by omega) _ _ w3 HB3.out hz3 (by omega) (HV.out.below.on HX3.out)).mono ?_
        rintro e w4 ⟨v4, rfl, hown, hbel, _⟩
        have HB4 : Hid (Buf w4 w.heap.size v4 (bodyTo ls k ++ Lib.itoa m)) := by unfold Buf Hid; rw [List.length_append, byteCells_append]; exact hown
        have HX4 := Lib.hid (HX3.out.trans' hbel)
        have hlm : (Lib.itoa (m : Int)).length ≤ 21 := Lib.itoa_length_le _ (by omega) (by omega)
        clear hown hbel HB3 HX3 hz3
        go_wp2
        go_loopg [4, 40] m (fun kk bv iv wi => ∃ i : Nat, kk + i = m ∧ iv = .int .i64 i ∧ Hid (Buf wi w.heap.size bv (bodyTo ls k ++ Lib.itoa m ++ rowsText rows i)) ∧ Hid (Ext w wi))
        case atStart => exact ⟨0, by omega, rfl, by unfold rowsText; simpa using HB4, HX4⟩
        case round =>
          clear HB4 HX4
          obtain ⟨i, hki, rfl, HBi, HXi⟩ := hrel
          by_cases him : i < m
          · obtain ⟨l, hl⟩ : ∃ l, rows[i]? = some l := ⟨_, List.getElem?_eq_getElem (by have := HM.out; omega)⟩
            have hll : l.length = m := by
              obtain ⟨q, rfl⟩ := List.getElem?_eq_some_iff.1 hl
              rw [← HM.out]; exact HSq.out _ (List.getElem_mem q)
            obtain ⟨b2, off2, R2, c2, rfl, hb2, g1, g2, g3⟩ := H3.out.at_ hl
            replace g1 := HXi.out.cell g1
            have G3 := Lib.hid g3
            have HLf := Lib.hid (HFr.out.row hl).2
            have hrl : (rowsText rows i).length ≤ 176 * i := rowsText_len rows i HFr.out (by omega)
            rw [hll] at g1 g2
            have HL := Lib.hid hl
            have HLL := Lib.hid hll
            have hic : i + 1 ≤ c2 := by omega
            clear hl hll g3
            go_wp2
            go_loopg [4, 51] (i + 1) (fun kk bv jv wj => ∃ j : Nat, kk + j = i + 1 ∧ jv = .int .i64 j ∧ Hid (Buf wj w.heap.size bv (bodyTo ls k ++ Lib.itoa m ++ rowsText rows i ++ rowText l j)) ∧ Hid (Ext w wj))
            case atStart => exact ⟨0, by omega, rfl, by unfold rowText; simpa using HBi, HXi⟩
            case round =>
              clear HBi HXi g1
              obtain ⟨j, hkj, rfl, HBj, HXj⟩ := hrel
              by_cases hji : j < i + 1
              · obtain ⟨x, hx⟩ : ∃ x, l[j]? = some x := ⟨_, List.getElem?_eq_getElem (by have := HLL.out; omega)⟩
                obtain ⟨b3, off3, rfl, hb3, q1⟩ := G3.out.at_ hx
                replace q1 := HXj.out.cell q1
                have hxb : -9223372036854775808 ≤ x ∧ x ≤ 9223372036854775807 := HLf.out x (by obtain ⟨q, rfl⟩ := List.getElem?_eq_some_iff.1 hx; exact List.getElem_mem q)
                obtain ⟨hx0, hx1⟩ := hxb
                have hzj : w.heap.size ≤ wr.heap.size := HXj.out.size
                have hrj : (rowText l j).length ≤ 22 * j := rowText_len l j HLf.out
                have hlj : (bodyTo ls k ++ Lib.itoa (m : Int) ++ rowsText rows i ++ rowText l j).length ≤ 1000000 := by simp only [List.length_append]; omega
                have hlj2 : (bodyTo ls k ++ Lib.itoa (m : Int) ++ rowsText rows i ++ rowText l j).length ≤ 1099511627776 := by omega
                have HXx := Lib.hid hx
                obtain ⟨bf, hbf⟩ : ∃ bf, bodyTo ls k ++ Lib.itoa (m : Int) ++ rowsText rows i ++ rowText l j = bf := ⟨_, rfl⟩
                rw [hbf] at HBj hlj hlj2
                have HBF := Lib.hid hbf
                clear hx hbf
                go_wp2_with (with_reducible refine wpList_append_lit rfl (.tmp 55) (.tmp 56) rfl w.heap.size _ _ rfl HBj.out 32 32 hq32.out rfl hlj2 hzj ?_)
                intro v5 w5 HB5 HX5
                have HX5' := Lib.hid (HXj.out.trans' HX5.out)
                have hz5 : w.heap.size ≤ w5.heap.size := HX5'.out.size
                clear HX5 HBj HXj hzj q1
                go_wp2_with fail
                refine (Tryz.strconv_AppendInt_10 w.heap.size _ x hx0 hx1 _ _ w5 HB5.out hz5 (by rw [List.length_append, List.length_cons, List.length_nil]; omega) (HV.out.below.on HX5'.out)).mono ?_
                rintro e w6 ⟨v6, rfl, hown, hbel, _⟩
                have HB6 : Hid (Buf w6 w.heap.size v6 (bodyTo ls k ++ Lib.itoa m ++ rowsText rows i ++ rowText l (j + 1))) := by
                  have e : bodyTo ls k ++ Lib.itoa (m : Int) ++ rowsText rows i ++ rowText l (j + 1) = bodyTo ls k ++ Lib.itoa (m : Int) ++ rowsText rows i ++ rowText l j ++ [32] ++ Lib.itoa x := by rw [rowText_succ l j x HXx.out]; simp
                  unfold Buf Hid; rw [e, HBF.out, List.length_append (bs := Lib.itoa x), byteCells_append _ (Lib.itoa x)]; exact hown
                have HX6 := Lib.hid (HX5'.out.trans' hbel)
                clear hown hbel HB5 HX5'
                go_wp2
                go_roundg (i - j)
                case measure => omega
                case rel => exact ⟨j + 1, by omega, by go_num, HB6, HX6⟩
              · obtain rfl : j = i + 1 := by omega
                go_wp2
                go_roundg (m - (i + 1))
                case measure => omega
                case rel => exact ⟨i + 1, by omega, by go_num, by
                  have e : bodyTo ls k ++ Lib.itoa (m : Int) ++ rowsText rows (i + 1) = bodyTo ls k ++ Lib.itoa (m : Int) ++ rowsText rows i ++ rowText l (i + 1) := by rw [rowsText_succ rows i l HL.out, List.append_assoc _ (rowsText rows i)]
                  rw [e]; exact HBj, HXj⟩
          · obtain rfl : i = m := by omega
            have hzi : w.heap.size ≤ wr.heap.size := HXi.out.size
            have hrl : (rowsText rows i).length ≤ 176 * i := rowsText_len rows i HFr.out (by omega)
            have hli : (bodyTo ls k ++ Lib.itoa (i : Int) ++ rowsText rows i).length ≤ 1099511627776 := by simp only [List.length_append]; omega
            obtain ⟨bf, hbf⟩ : ∃ bf, bodyTo ls k ++ Lib.itoa (i : Int) ++ rowsText rows i = bf := ⟨_, rfl⟩
            rw [hbf] at HBi hli
            have HBF := Lib.hid hbf
            clear hbf
            go_wp2_with (with_reducible refine wpList_append_lit rfl (.tmp 63) (.tmp 64) rfl w.heap.size _ _ rfl HBi.out 10 10 hq10.out rfl hli hzi ?_)
            intro v5 w5 HB5 HX5
            have HX5' := Lib.hid (HXi.out.trans' HX5.out)
            have HB5' : Hid (Buf w5 w.heap.size v5 (bodyTo ls (k + 1))) := by
              have e : bodyTo ls (k + 1) = bodyTo ls k ++ Lib.itoa (i : Int) ++ rowsText rows i ++ [10] := by
                rw [bodyTo_succ ls k rows HRw.out]; unfold lineOf; rw [HM.out]; simp
              rw [e, HBF.out]; exact HB5
            clear HX5 HB5 HBi HXi
            go_wp2
            go_roundg (n - (k + 1))
            case measure => omega
            case rel => exact ⟨k + 1, by omega, by go_num, HB5', fun i' r hi' hr' => by
              rcases Nat.lt_or_ge i' k with h | h
              · exact HG.out i' r h hr'
              · obtain rfl : i' = k := by omega
                have e : r = rows := by have := HRw.out; rw [hr'] at this; exact Option.some.inj this
                rw [e]; exact HCC.out, HX5'⟩
      · have hcb : (cc != 0) = true := by rw [bne_iff_ne]; exact hc0
        have HCd : Hid (codeW ls = cc ∧ textW ls = []) := by
          have e : codeW ls = cc := by
            unfold codeW
            rw [if_neg (by have := HN.out; omega), firstBad_at HRw.out HG.out (by rw [HCC.out]; exact hc0), HCC.out]
          refine ⟨e, ?_⟩
          unfold textW
          rw [e, if_neg hc0]
        clear hc0
        go_wp2_with fail
        refine HCk.out.mono ?_
        rintro e w3 ⟨rfl, hx3⟩
        have HX3 := Lib.hid (HX.out.trans hx3)
        clear hx3
        go_wp2
        go_ret2
        rw [HCd.out.1, HCd.out.2]
        exact ⟨rfl, HX3.out⟩
    · obtain rfl : k = n := by omega
      have hcd : codeW ls = 0 ∧ textW ls = textOf ls := by
        have e : codeW ls = 0 := by
          unfold codeW
          rw [if_neg (by have := HN.out; omega)]
          exact firstBad_ok fun i rows hi => HG.out i rows (by have := HN.out; have := (List.getElem?_eq_some_iff.1 hi).1; omega) hi
        refine ⟨e, ?_⟩
        unfold textW
        rw [if_pos e]
      have e1 : bodyTo ls k = bodyOf ls := by unfold bodyOf; rw [← HN.out]
      have h0 : 0 < (bodyOf ls).length := by rw [← e1]; unfold bodyTo headW; simp
      rw [e1] at HB hlk
      obtain ⟨bl, hbl⟩ : ∃ bl, bodyOf ls = bl := ⟨_, rfl⟩
      have e2 : textOf ls = bl ++ sumW ++ hex16 (fnv bl) ++ [10] := by unfold textOf; rw [hbl]
      rw [hbl] at HB hlk h0
      have HRes := hcd
      rw [e2] at HRes
      obtain ⟨hx, hhx⟩ : ∃ hx, hex16 (fnv bl) = hx := ⟨_, rfl⟩
      have HSm : Hid (∀ W, Calls Tryz.prog 8 #[.string ⟨bl.toArray⟩] W fun e w' => e = .returned (.int .u64 (fnv bl : Nat)) ∧ W = w') := fun W => by
        have h := Sum_any ⟨bl.toArray⟩ W (by have : (⟨bl.toArray⟩ : ByteArray).size = bl.length := by simp [ByteArray.size]
                                             omega)
        have e : (⟨bl.toArray⟩ : ByteArray).data.toList = bl := by simp
        rw [e] at h; exact h
      have HDg := Lib.hid (fun W (h : Ext w W) => digits_any (fnv bl) W (fnv_lt bl) (HV.out.ext h).deb)
      rw [hhx] at HDg HRes
      replace HRes := Lib.hid HRes
      have hhl : hx.length ≤ 16 := by rw [← hhx, hex16_len (fnv_lt bl)]; omega
      obtain ⟨fn, hfn⟩ : ∃ fn, fnv bl = fn := ⟨_, rfl⟩
      rw [hfn] at HDg HSm
      have hc0 := (HB.out.ext (Ext.refl wr).drew).text h0
      clear hcd e1 hbl e2 hhx hfn kc
      go_wp2_with fail
      go_region_with (first
        | (go_at_call 8; refine (HSm.out _).mono ?_; rintro e w' ⟨rfl, rfl⟩)
        | (go_at_call 17; refine (HDg.out _ HX.out.drew).mono ?_; rintro e w2 ⟨rfl, hx2⟩; have hc2 := (HB.out.ext (Ext.drew (Ext.refl wr) |>.trans hx2)).text h0; have HX2 := Lib.hid (HX.out.drew.trans hx2); clear hx2))
      all_goals
        go_wp2
        go_ret2
        rw [HRes.out.1, HRes.out.2]
        refine ⟨?_, HX2.out⟩
        have e : ((⟨bl.toArray⟩ : ByteArray) ++ ⟨#[115, 117, 109, 32]⟩ ++ ⟨hx.toArray⟩ ++ ⟨#[10]⟩) = ⟨(bl ++ sumW ++ hx ++ [10]).toArray⟩ := by
          apply ByteArray.ext; simp [sumW]
        rw [e]
        rfl
theorem Write_any (A : Option Addr) (n c : Nat) (ls : List (List (List Int))) (w : World) (hn : n = ls.length) (hr : IsForms w A ls) (hf : FitForms ls) (hv : Vars w) :
    Calls Tryz.prog 6 #[.slice A n c] w fun e w' => e = .returned (.tuple #[.string ⟨(textW ls).toArray⟩, .int .i64 (codeW ls)]) ∧ Ext w w' := by
  by_cases h : n ≤ 64
  · exact write_rest A n c ls w hn h hr hf hv
  · have e : codeW ls = 9 := by unfold codeW; rw [if_pos (by omega)]
    have e2 : textW ls = [] := by unfold textW; rw [e, if_neg (by decide)]
    rw [e, e2]; exact write_many A n c w (by omega) (by rw [hn]; exact hf.1)
end Go.Proofs.YtiihnoelclnahaaGreatDoor
