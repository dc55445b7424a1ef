/- zint.Exact. -/
import Derived.Test.YtiihnoelclnahaaGreatDoorZintQuoV
namespace Go.Proofs.YtiihnoelclnahaaGreatDoor
set_option linter.unusedSimpArgs false
open Go.RowKit
set_option linter.unusedVariables false

theorem zQuo_ok (na nb : Bool) (A B : Option Addr) (k m : Nat) (a b : Int) (w : World) (ha : IsInt w na A k a) (hb : IsInt w nb B m b) (hb0 : b ≠ 0) :
    Calls Tryz.prog 80 #[.agg #[.bool na, .slice A k k], .agg #[.bool nb, .slice B m m]] w fun e w' => ∃ n A' k' A2 k2, e = .returned (.tuple #[.agg #[.bool n, .slice A' k' k'], .agg #[.bool false, .slice A2 k2 k2], .int .i64 0]) ∧ IsInt w' n A' k' (a / b) ∧ IsInt w' false A2 k2 (a % b) ∧ Ext w w' := by
  cases na
  · exact zQuo_pos nb A B k m a b w ha hb hb0
  · by_cases h : a.natAbs % b.natAbs = 0
    · exact zQuo_negz nb A B k m a b w ha hb hb0 h
    · exact zQuo_negr nb A B k m a b w ha hb hb0 h

/-- What Exact tells: the quotient, where it is one. -/
def exactZ (a b : Int) : Int := if b = 0 then 0 else if a % b = 0 then a / b else 0
def codeX (a b : Int) : Int := if b = 0 then 11 else if a % b = 0 then 0 else 2

theorem isInt_zero (w : World) : IsInt w false none 0 0 := ⟨isNat_zero w, by simp, by decide⟩

theorem zExact_zero (na nb : Bool) (A B : Option Addr) (k m : Nat) (a : Int) (w : World) (ha : IsInt w na A k a) (hb : IsInt w nb B m 0) :
    Calls Tryz.prog 54 #[.agg #[.bool na, .slice A k k], .agg #[.bool nb, .slice B m m]] w fun e w' => e = .returned (.tuple #[.agg #[.bool false, .slice none 0 0], .int .i64 11]) ∧ Ext w w' := by
  obtain ⟨W0, hWW0⟩ : ∃ W0 : World, ((w.alloc (.cells #[.bool na, .slice A k k] 104)).alloc (.cells #[.bool nb, .slice B m m] 104)).alloc (.cells #[.bool false, .slice none 0 0] 104) = W0 := ⟨_, rfl⟩
  have hXW0 : Ext w W0 := by rw [← hWW0]; exact ((((Ext.refl w).alloc _).alloc _).alloc _)
  have hsW0 : w.heap.size + 3 ≤ W0.heap.size := by rw [← hWW0]; simp only [World.size_alloc]; omega
  have c0a : W0.cell? ⟨w.heap.size, 0, none⟩ = some (.bool na) := by rw [← hWW0]; simp [go_sem]
  have f0a : W0.frozen? ⟨w.heap.size, 0, none⟩ = false := by rw [← hWW0]; simp [go_sem]
  have c0b : W0.cell? ⟨w.heap.size, 1, none⟩ = some (.slice A k k) := by rw [← hWW0]; simp [go_sem]
  have f0b : W0.frozen? ⟨w.heap.size, 1, none⟩ = false := by rw [← hWW0]; simp [go_sem]
  have c1a : W0.cell? ⟨w.heap.size + 1, 0, none⟩ = some (.bool nb) := by rw [← hWW0]; simp [go_sem]
  have f1a : W0.frozen? ⟨w.heap.size + 1, 0, none⟩ = false := by rw [← hWW0]; simp [go_sem]
  have c1b : W0.cell? ⟨w.heap.size + 1, 1, none⟩ = some (.slice B m m) := by rw [← hWW0]; simp [go_sem]
  have f1b : W0.frozen? ⟨w.heap.size + 1, 1, none⟩ = false := by rw [← hWW0]; simp [go_sem]
  have c2a : W0.cell? ⟨w.heap.size + 1 + 1, 0, none⟩ = some (.bool false) := by rw [← hWW0]; simp [go_sem]
  have f2a : W0.frozen? ⟨w.heap.size + 1 + 1, 0, none⟩ = false := by rw [← hWW0]; simp [go_sem]
  have c2b : W0.cell? ⟨w.heap.size + 1 + 1, 1, none⟩ = some (.slice none 0 0) := by rw [← hWW0]; simp [go_sem]
  have f2b : W0.frozen? ⟨w.heap.size + 1 + 1, 1, none⟩ = false := by rw [← hWW0]; simp [go_sem]
  have HWW0 := Lib.hid hWW0
  clear hWW0
  have HX := Lib.hid hXW0
  have HC := Lib.hid (zQuo_zero na nb A B k m a W0 (ha.ext hXW0) (hb.ext hXW0))
  clear hXW0 ha hb
  go_enter Tryz.func54, Tryz.ntmps54
  go_wp2_with fail
  rw [HWW0.out]
  refine HC.out.mono ?_
  rintro e w1 ⟨rfl, hx⟩
  replace f2a := hx.free f2a (lt_of_cell c2a)
  replace c2a := hx.cell c2a
  replace f2b := hx.free f2b (lt_of_cell c2b)
  replace c2b := hx.cell c2b
  have hX := Lib.hid (HX.out.trans hx)
  have hs1 : w.heap.size + 3 ≤ w1.heap.size := Nat.le_trans hsW0 hx.size
  have l0 : w.heap.size < w1.heap.size := by omega
  have l1 : w.heap.size + 1 < w1.heap.size := by omega
  have l2 : w.heap.size + 1 + 1 < w1.heap.size := by omega
  clear hx HX HC HWW0 hsW0 c0a c0b c1a c1b f0a f0b f1a f1b
  go_wp2
  obtain ⟨W2, hWW2⟩ : ∃ W2 : World, (w1.setCell ⟨w.heap.size + 1 + 1, 0, none⟩ (.bool false)).setCell ⟨w.heap.size + 1 + 1, 1, none⟩ (.slice none 0 0) = W2 := ⟨_, rfl⟩
  have z2a : W2.cell? ⟨w.heap.size + 1 + 1, 0, none⟩ = some (.bool false) := by rw [← hWW2]; simp [go_sem, c2a, c2b]
  have zf2a : W2.frozen? ⟨w.heap.size + 1 + 1, 0, none⟩ = false := by rw [← hWW2]; simp [go_sem, f2a, f2b]
  have z2b : W2.cell? ⟨w.heap.size + 1 + 1, 1, none⟩ = some (.slice none 0 0) := by rw [← hWW2]; simp [go_sem, c2a, c2b]
  have zf2b : W2.frozen? ⟨w.heap.size + 1 + 1, 1, none⟩ = false := by rw [← hWW2]; simp [go_sem, f2a, f2b]
  have znW2 : ∀ (A : Option Addr) (k n : Nat), IsNat w1 A k n → IsNat W2 A k n := by intro A k n h; rw [← hWW2]; exact ((h.setBool c2a _).setBox (by rw [World.cell?_setCell_other _ _ _ _ (by intro h; injection h with h1 h2; omega)]; exact c2b) _)
  have zxW2 : ∀ a : World, Ext a w1 → a.heap.size ≤ w.heap.size → Ext a W2 := by intro a h hs; rw [← hWW2]; exact (by repeat (first | exact h | refine Ext.drew ?_ | refine Ext.drewN ?_ _ | refine Ext.setCell ?_ (by first | exact Nat.le_refl _ | (simp only []; omega)) _ | refine Ext.alloc ?_ _))
  have HWW2 := Lib.hid hWW2
  clear hWW2
  have hX2 : Hid (Ext w W2) := zxW2 w hX.out (Nat.le_refl _)
  rw [HWW2.out]
  obtain ⟨W3, hWW3⟩ : ∃ W3 : World, (W2.alloc (.cells #[.bool false, .slice none 0 0] 104)).alloc (.cells #[.bool false, .slice none 0 0] 104) = W3 := ⟨_, rfl⟩
  have hXW3 : Ext W2 W3 := by rw [← hWW3]; exact (((Ext.refl W2).alloc _).alloc _)
  have hsW3 : W2.heap.size + 2 ≤ W3.heap.size := by rw [← hWW3]; simp only [World.size_alloc]; omega
  have cd0a : W3.cell? ⟨W2.heap.size, 0, none⟩ = some (.bool false) := by rw [← hWW3]; simp [go_sem]
  have fd0a : W3.frozen? ⟨W2.heap.size, 0, none⟩ = false := by rw [← hWW3]; simp [go_sem]
  have cd0b : W3.cell? ⟨W2.heap.size, 1, none⟩ = some (.slice none 0 0) := by rw [← hWW3]; simp [go_sem]
  have fd0b : W3.frozen? ⟨W2.heap.size, 1, none⟩ = false := by rw [← hWW3]; simp [go_sem]
  have cd1a : W3.cell? ⟨W2.heap.size + 1, 0, none⟩ = some (.bool false) := by rw [← hWW3]; simp [go_sem]
  have fd1a : W3.frozen? ⟨W2.heap.size + 1, 0, none⟩ = false := by rw [← hWW3]; simp [go_sem]
  have cd1b : W3.cell? ⟨W2.heap.size + 1, 1, none⟩ = some (.slice none 0 0) := by rw [← hWW3]; simp [go_sem]
  have fd1b : W3.frozen? ⟨W2.heap.size + 1, 1, none⟩ = false := by rw [← hWW3]; simp [go_sem]
  have HWW3 := Lib.hid hWW3
  clear hWW3
  replace z2a := hXW3.cell z2a
  replace z2b := hXW3.cell z2b
  rw [HWW3.out]
  exact bodyPost_ret (v := .tuple #[.agg #[.bool false, .slice none 0 0], .int .i64 11]) (by simp [results, Tryz.results54, go_sem, z2a, z2b]) rfl ⟨rfl, hX2.out.trans hXW3⟩

theorem zExact_ok (na nb : Bool) (A B : Option Addr) (k m : Nat) (a b : Int) (w : World) (ha : IsInt w na A k a) (hb : IsInt w nb B m b) (hb0 : b ≠ 0) (h0 : a % b = 0) :
    Calls Tryz.prog 54 #[.agg #[.bool na, .slice A k k], .agg #[.bool nb, .slice B m m]] w fun e w' => ∃ n A' k', e = .returned (.tuple #[.agg #[.bool n, .slice A' k' k'], .int .i64 0]) ∧ IsInt w' n A' k' (a / b) ∧ Ext w w' := by
  obtain ⟨W0, hWW0⟩ : ∃ W0 : World, ((w.alloc (.cells #[.bool na, .slice A k k] 104)).alloc (.cells #[.bool nb, .slice B m m] 104)).alloc (.cells #[.bool false, .slice none 0 0] 104) = W0 := ⟨_, rfl⟩
  have hXW0 : Ext w W0 := by rw [← hWW0]; exact ((((Ext.refl w).alloc _).alloc _).alloc _)
  have hsW0 : w.heap.size + 3 ≤ W0.heap.size := by rw [← hWW0]; simp only [World.size_alloc]; omega
  have c0a : W0.cell? ⟨w.heap.size, 0, none⟩ = some (.bool na) := by rw [← hWW0]; simp [go_sem]
  have f0a : W0.frozen? ⟨w.heap.size, 0, none⟩ = false := by rw [← hWW0]; simp [go_sem]
  have c0b : W0.cell? ⟨w.heap.size, 1, none⟩ = some (.slice A k k) := by rw [← hWW0]; simp [go_sem]
  have f0b : W0.frozen? ⟨w.heap.size, 1, none⟩ = false := by rw [← hWW0]; simp [go_sem]
  have c1a : W0.cell? ⟨w.heap.size + 1, 0, none⟩ = some (.bool nb) := by rw [← hWW0]; simp [go_sem]
  have f1a : W0.frozen? ⟨w.heap.size + 1, 0, none⟩ = false := by rw [← hWW0]; simp [go_sem]
  have c1b : W0.cell? ⟨w.heap.size + 1, 1, none⟩ = some (.slice B m m) := by rw [← hWW0]; simp [go_sem]
  have f1b : W0.frozen? ⟨w.heap.size + 1, 1, none⟩ = false := by rw [← hWW0]; simp [go_sem]
  have c2a : W0.cell? ⟨w.heap.size + 1 + 1, 0, none⟩ = some (.bool false) := by rw [← hWW0]; simp [go_sem]
  have f2a : W0.frozen? ⟨w.heap.size + 1 + 1, 0, none⟩ = false := by rw [← hWW0]; simp [go_sem]
  have c2b : W0.cell? ⟨w.heap.size + 1 + 1, 1, none⟩ = some (.slice none 0 0) := by rw [← hWW0]; simp [go_sem]
  have f2b : W0.frozen? ⟨w.heap.size + 1 + 1, 1, none⟩ = false := by rw [← hWW0]; simp [go_sem]
  have HWW0 := Lib.hid hWW0
  clear hWW0
  have HX := Lib.hid hXW0
  have HC := Lib.hid (zQuo_ok na nb A B k m a b W0 (ha.ext hXW0) (hb.ext hXW0) hb0)
  have HZ := Lib.hid h0
  clear hXW0 ha hb h0
  go_enter Tryz.func54, Tryz.ntmps54
  go_wp2_with fail
  rw [HWW0.out]
  refine HC.out.mono ?_
  rintro e w1 ⟨n, A', k', A2, k2, rfl, hn, hr, hx⟩
  replace f2a := hx.free f2a (lt_of_cell c2a)
  replace c2a := hx.cell c2a
  replace f2b := hx.free f2b (lt_of_cell c2b)
  replace c2b := hx.cell c2b
  have hX := Lib.hid (HX.out.trans hx)
  have hs1 : w.heap.size + 3 ≤ w1.heap.size := Nat.le_trans hsW0 hx.size
  have HN := Lib.hid hn
  have HR := Lib.hid hr
  have l0 : w.heap.size < w1.heap.size := by omega
  have l1 : w.heap.size + 1 < w1.heap.size := by omega
  have l2 : w.heap.size + 1 + 1 < w1.heap.size := by omega
  clear hx hn hr HX HC HWW0 hsW0 c0a c0b c1a c1b f0a f0b f1a f1b
  go_wp2_with fail
  obtain ⟨W1, hWW1⟩ : ∃ W1 : World, (w1.alloc (.cells #[.bool n, .slice A' k' k'] 104)).alloc (.cells #[.bool false, .slice A2 k2 k2] 104) = W1 := ⟨_, rfl⟩
  have hXW1 : Ext w1 W1 := by rw [← hWW1]; exact (((Ext.refl w1).alloc _).alloc _)
  have hsW1 : w1.heap.size + 2 ≤ W1.heap.size := by rw [← hWW1]; simp only [World.size_alloc]; omega
  have cd0a : W1.cell? ⟨w1.heap.size, 0, none⟩ = some (.bool n) := by rw [← hWW1]; simp [go_sem]
  have fd0a : W1.frozen? ⟨w1.heap.size, 0, none⟩ = false := by rw [← hWW1]; simp [go_sem]
  have cd0b : W1.cell? ⟨w1.heap.size, 1, none⟩ = some (.slice A' k' k') := by rw [← hWW1]; simp [go_sem]
  have fd0b : W1.frozen? ⟨w1.heap.size, 1, none⟩ = false := by rw [← hWW1]; simp [go_sem]
  have cd1a : W1.cell? ⟨w1.heap.size + 1, 0, none⟩ = some (.bool false) := by rw [← hWW1]; simp [go_sem]
  have fd1a : W1.frozen? ⟨w1.heap.size + 1, 0, none⟩ = false := by rw [← hWW1]; simp [go_sem]
  have cd1b : W1.cell? ⟨w1.heap.size + 1, 1, none⟩ = some (.slice A2 k2 k2) := by rw [← hWW1]; simp [go_sem]
  have fd1b : W1.frozen? ⟨w1.heap.size + 1, 1, none⟩ = false := by rw [← hWW1]; simp [go_sem]
  have HWW1 := Lib.hid hWW1
  clear hWW1
  replace f2a := hXW1.free f2a (lt_of_cell c2a)
  replace c2a := hXW1.cell c2a
  replace f2b := hXW1.free f2b (lt_of_cell c2b)
  replace c2b := hXW1.cell c2b
  have HS := Lib.hid (Sign_any false A2 k2 (a % b) W1 (HR.out.ext hXW1))
  have hX1 := Lib.hid (hX.out.trans hXW1)
  have HN1 := Lib.hid (HN.out.ext hXW1)
  have hsz : signZ (a % b) = 0 := by rw [HZ.out]; rfl
  rw [hsz] at HS
  rw [HWW1.out]
  clear hXW1 hX HN HR hsz HWW1
  refine HS.out.mono ?_
  rintro e w2 ⟨rfl, hx⟩
  replace f2a := hx.free f2a (lt_of_cell c2a)
  replace c2a := hx.cell c2a
  replace f2b := hx.free f2b (lt_of_cell c2b)
  replace c2b := hx.cell c2b
  replace cd0a := hx.cell cd0a
  replace cd0b := hx.cell cd0b
  have hX2 := Lib.hid (hX1.out.trans hx)
  have HN2 := Lib.hid (HN1.out.ext hx)
  clear hx hX1 HN1 HS
  go_wp2
  obtain ⟨W3, hWW3⟩ : ∃ W3 : World, (w2.setCell ⟨w.heap.size + 1 + 1, 0, none⟩ (.bool n)).setCell ⟨w.heap.size + 1 + 1, 1, none⟩ (.slice A' k' k') = W3 := ⟨_, rfl⟩
  have z2a : W3.cell? ⟨w.heap.size + 1 + 1, 0, none⟩ = some (.bool n) := by rw [← hWW3]; simp [go_sem, c2a, c2b]
  have zf2a : W3.frozen? ⟨w.heap.size + 1 + 1, 0, none⟩ = false := by rw [← hWW3]; simp [go_sem, f2a, f2b]
  have z2b : W3.cell? ⟨w.heap.size + 1 + 1, 1, none⟩ = some (.slice A' k' k') := by rw [← hWW3]; simp [go_sem, c2a, c2b]
  have zf2b : W3.frozen? ⟨w.heap.size + 1 + 1, 1, none⟩ = false := by rw [← hWW3]; simp [go_sem, f2a, f2b]
  have znW3 : ∀ (A : Option Addr) (k n : Nat), IsNat w2 A k n → IsNat W3 A k n := by intro A k n h; rw [← hWW3]; exact ((h.setBool c2a _).setBox (by rw [World.cell?_setCell_other _ _ _ _ (by intro h; injection h with h1 h2; omega)]; exact c2b) _)
  have zxW3 : ∀ a : World, Ext a w2 → a.heap.size ≤ w.heap.size → Ext a W3 := by intro a h hs; rw [← hWW3]; exact (by repeat (first | exact h | refine Ext.drew ?_ | refine Ext.drewN ?_ _ | refine Ext.setCell ?_ (by first | exact Nat.le_refl _ | (simp only []; omega)) _ | refine Ext.alloc ?_ _))
  have HWW3 := Lib.hid hWW3
  clear hWW3
  rw [HWW3.out]
  exact bodyPost_ret (v := .tuple #[.agg #[.bool n, .slice A' k' k'], .int .i64 0]) (by simp [results, Tryz.results54, go_sem, z2a, z2b]) rfl ⟨n, A', k', rfl, ⟨znW3 _ _ _ HN2.out.nat, HN2.out.sign, HN2.out.bits⟩, zxW3 w hX2.out (Nat.le_refl _)⟩

theorem zExact_no (na nb : Bool) (A B : Option Addr) (k m : Nat) (a b : Int) (w : World) (ha : IsInt w na A k a) (hb : IsInt w nb B m b) (hb0 : b ≠ 0) (h0 : a % b ≠ 0) :
    Calls Tryz.prog 54 #[.agg #[.bool na, .slice A k k], .agg #[.bool nb, .slice B m m]] w fun e w' => e = .returned (.tuple #[.agg #[.bool false, .slice none 0 0], .int .i64 2]) ∧ Ext w w' := by
  obtain ⟨W0, hWW0⟩ : ∃ W0 : World, ((w.alloc (.cells #[.bool na, .slice A k k] 104)).alloc (.cells #[.bool nb, .slice B m m] 104)).alloc (.cells #[.bool false, .slice none 0 0] 104) = W0 := ⟨_, rfl⟩
  have hXW0 : Ext w W0 := by rw [← hWW0]; exact ((((Ext.refl w).alloc _).alloc _).alloc _)
  have hsW0 : w.heap.size + 3 ≤ W0.heap.size := by rw [← hWW0]; simp only [World.size_alloc]; omega
  have c0a : W0.cell? ⟨w.heap.size, 0, none⟩ = some (.bool na) := by rw [← hWW0]; simp [go_sem]
  have f0a : W0.frozen? ⟨w.heap.size, 0, none⟩ = false := by rw [← hWW0]; simp [go_sem]
  have c0b : W0.cell? ⟨w.heap.size, 1, none⟩ = some (.slice A k k) := by rw [← hWW0]; simp [go_sem]
  have f0b : W0.frozen? ⟨w.heap.size, 1, none⟩ = false := by rw [← hWW0]; simp [go_sem]
  have c1a : W0.cell? ⟨w.heap.size + 1, 0, none⟩ = some (.bool nb) := by rw [← hWW0]; simp [go_sem]
  have f1a : W0.frozen? ⟨w.heap.size + 1, 0, none⟩ = false := by rw [← hWW0]; simp [go_sem]
  have c1b : W0.cell? ⟨w.heap.size + 1, 1, none⟩ = some (.slice B m m) := by rw [← hWW0]; simp [go_sem]
  have f1b : W0.frozen? ⟨w.heap.size + 1, 1, none⟩ = false := by rw [← hWW0]; simp [go_sem]
  have c2a : W0.cell? ⟨w.heap.size + 1 + 1, 0, none⟩ = some (.bool false) := by rw [← hWW0]; simp [go_sem]
  have f2a : W0.frozen? ⟨w.heap.size + 1 + 1, 0, none⟩ = false := by rw [← hWW0]; simp [go_sem]
  have c2b : W0.cell? ⟨w.heap.size + 1 + 1, 1, none⟩ = some (.slice none 0 0) := by rw [← hWW0]; simp [go_sem]
  have f2b : W0.frozen? ⟨w.heap.size + 1 + 1, 1, none⟩ = false := by rw [← hWW0]; simp [go_sem]
  have HWW0 := Lib.hid hWW0
  clear hWW0
  have HX := Lib.hid hXW0
  have HC := Lib.hid (zQuo_ok na nb A B k m a b W0 (ha.ext hXW0) (hb.ext hXW0) hb0)
  have HZ : Hid (signZ (a % b) = 1) := by unfold signZ Hid; rw [if_neg h0, if_neg (by have := Int.emod_nonneg a hb0; omega)]
  clear hXW0 ha hb h0
  go_enter Tryz.func54, Tryz.ntmps54
  go_wp2_with fail
  rw [HWW0.out]
  refine HC.out.mono ?_
  rintro e w1 ⟨n, A', k', A2, k2, rfl, hn, hr, hx⟩
  replace f2a := hx.free f2a (lt_of_cell c2a)
  replace c2a := hx.cell c2a
  replace f2b := hx.free f2b (lt_of_cell c2b)
  replace c2b := hx.cell c2b
  have hX := Lib.hid (HX.out.trans hx)
  have hs1 : w.heap.size + 3 ≤ w1.heap.size := Nat.le_trans hsW0 hx.size
  have HR := Lib.hid hr
  have l0 : w.heap.size < w1.heap.size := by omega
  have l1 : w.heap.size + 1 < w1.heap.size := by omega
  have l2 : w.heap.size + 1 + 1 < w1.heap.size := by omega
  clear hx hn hr HX HC HWW0 hsW0 c0a c0b c1a c1b f0a f0b f1a f1b
  go_wp2_with fail
  obtain ⟨W1, hWW1⟩ : ∃ W1 : World, (w1.alloc (.cells #[.bool n, .slice A' k' k'] 104)).alloc (.cells #[.bool false, .slice A2 k2 k2] 104) = W1 := ⟨_, rfl⟩
  have hXW1 : Ext w1 W1 := by rw [← hWW1]; exact (((Ext.refl w1).alloc _).alloc _)
  have hsW1 : w1.heap.size + 2 ≤ W1.heap.size := by rw [← hWW1]; simp only [World.size_alloc]; omega
  have cd0a : W1.cell? ⟨w1.heap.size, 0, none⟩ = some (.bool n) := by rw [← hWW1]; simp [go_sem]
  have fd0a : W1.frozen? ⟨w1.heap.size, 0, none⟩ = false := by rw [← hWW1]; simp [go_sem]
  have cd0b : W1.cell? ⟨w1.heap.size, 1, none⟩ = some (.slice A' k' k') := by rw [← hWW1]; simp [go_sem]
  have fd0b : W1.frozen? ⟨w1.heap.size, 1, none⟩ = false := by rw [← hWW1]; simp [go_sem]
  have cd1a : W1.cell? ⟨w1.heap.size + 1, 0, none⟩ = some (.bool false) := by rw [← hWW1]; simp [go_sem]
  have fd1a : W1.frozen? ⟨w1.heap.size + 1, 0, none⟩ = false := by rw [← hWW1]; simp [go_sem]
  have cd1b : W1.cell? ⟨w1.heap.size + 1, 1, none⟩ = some (.slice A2 k2 k2) := by rw [← hWW1]; simp [go_sem]
  have fd1b : W1.frozen? ⟨w1.heap.size + 1, 1, none⟩ = false := by rw [← hWW1]; simp [go_sem]
  have HWW1 := Lib.hid hWW1
  clear hWW1
  replace f2a := hXW1.free f2a (lt_of_cell c2a)
  replace c2a := hXW1.cell c2a
  replace f2b := hXW1.free f2b (lt_of_cell c2b)
  replace c2b := hXW1.cell c2b
  have HS := Lib.hid (Sign_any false A2 k2 (a % b) W1 (HR.out.ext hXW1))
  have hX1 := Lib.hid (hX.out.trans hXW1)
  have HS' := HS.out
  rw [HZ.out] at HS'
  have HS2 := Lib.hid HS'
  rw [HWW1.out]
  clear hXW1 hX HR HWW1 HS HS'
  refine HS2.out.mono ?_
  rintro e w2 ⟨rfl, hx⟩
  replace f2a := hx.free f2a (lt_of_cell c2a)
  replace c2a := hx.cell c2a
  replace f2b := hx.free f2b (lt_of_cell c2b)
  replace c2b := hx.cell c2b
  have hX2 := Lib.hid (hX1.out.trans hx)
  clear hx hX1 HS2
  go_wp2
  obtain ⟨W3, hWW3⟩ : ∃ W3 : World, (w2.setCell ⟨w.heap.size + 1 + 1, 0, none⟩ (.bool false)).setCell ⟨w.heap.size + 1 + 1, 1, none⟩ (.slice none 0 0) = W3 := ⟨_, rfl⟩
  have z2a : W3.cell? ⟨w.heap.size + 1 + 1, 0, none⟩ = some (.bool false) := by rw [← hWW3]; simp [go_sem, c2a, c2b]
  have zf2a : W3.frozen? ⟨w.heap.size + 1 + 1, 0, none⟩ = false := by rw [← hWW3]; simp [go_sem, f2a, f2b]
  have z2b : W3.cell? ⟨w.heap.size + 1 + 1, 1, none⟩ = some (.slice none 0 0) := by rw [← hWW3]; simp [go_sem, c2a, c2b]
  have zf2b : W3.frozen? ⟨w.heap.size + 1 + 1, 1, none⟩ = false := by rw [← hWW3]; simp [go_sem, f2a, f2b]
  have znW3 : ∀ (A : Option Addr) (k n : Nat), IsNat w2 A k n → IsNat W3 A k n := by intro A k n h; rw [← hWW3]; exact ((h.setBool c2a _).setBox (by rw [World.cell?_setCell_other _ _ _ _ (by intro h; injection h with h1 h2; omega)]; exact c2b) _)
  have zxW3 : ∀ a : World, Ext a w2 → a.heap.size ≤ w.heap.size → Ext a W3 := by intro a h hs; rw [← hWW3]; exact (by repeat (first | exact h | refine Ext.drew ?_ | refine Ext.drewN ?_ _ | refine Ext.setCell ?_ (by first | exact Nat.le_refl _ | (simp only []; omega)) _ | refine Ext.alloc ?_ _))
  have HWW3 := Lib.hid hWW3
  clear hWW3
  rw [HWW3.out]
  exact bodyPost_ret (v := .tuple #[.agg #[.bool false, .slice none 0 0], .int .i64 2]) (by simp [results, Tryz.results54, go_sem, z2a, z2b]) rfl ⟨rfl, zxW3 w hX2.out (Nat.le_refl _)⟩

theorem zExact_any (na nb : Bool) (A B : Option Addr) (k m : Nat) (a b : Int) (w : World) (ha : IsInt w na A k a) (hb : IsInt w nb B m b) :
    Calls Tryz.prog 54 #[.agg #[.bool na, .slice A k k], .agg #[.bool nb, .slice B m m]] w fun e w' => ∃ n A' k', e = .returned (.tuple #[.agg #[.bool n, .slice A' k' k'], .int .i64 (codeX a b)]) ∧ IsInt w' n A' k' (exactZ a b) ∧ Ext w w' := by
  unfold codeX exactZ
  by_cases hb0 : b = 0
  · subst hb0
    rw [if_pos rfl, if_pos rfl]
    exact (zExact_zero na nb A B k m a w ha hb).mono fun e w' ⟨he, hx⟩ => ⟨false, none, 0, he, isInt_zero _, hx⟩
  · rw [if_neg hb0, if_neg hb0]
    by_cases h0 : a % b = 0
    · rw [if_pos h0, if_pos h0]; exact zExact_ok na nb A B k m a b w ha hb hb0 h0
    · rw [if_neg h0, if_neg h0]
      exact (zExact_no na nb A B k m a b w ha hb hb0 h0).mono fun e w' ⟨he, hx⟩ => ⟨false, none, 0, he, isInt_zero _, hx⟩
end Go.Proofs.YtiihnoelclnahaaGreatDoor
