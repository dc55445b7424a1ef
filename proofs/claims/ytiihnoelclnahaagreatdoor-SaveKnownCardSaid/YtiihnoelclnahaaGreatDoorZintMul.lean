/- zint.Mul. -/
import Derived.Test.YtiihnoelclnahaaGreatDoorZint
namespace Go.Proofs.YtiihnoelclnahaaGreatDoor
open Go.RowKit
set_option linter.unusedVariables false

theorem mul_sign (a b : Int) (na nb : Bool) (ha : na = decide (a < 0)) (hb : nb = decide (b < 0)) : ((na != nb) && decide (fitN (a.natAbs * b.natAbs) ≠ 0)) = decide (fitZ (a * b) < 0) := by
  subst ha; subst hb
  have hz : (fitZ (a * b)).natAbs = fitN (a.natAbs * b.natAbs) := by rw [fitZ_abs, Int.natAbs_mul]
  by_cases h0 : fitZ (a * b) = 0
  · have : fitN (a.natAbs * b.natAbs) = 0 := by rw [← hz, h0]; rfl
    rw [this, h0]; simp
  · have h1 : fitN (a.natAbs * b.natAbs) ≠ 0 := by rw [← hz]; omega
    have h2 : fitZ (a * b) = a * b := by
      unfold fitZ at h0 ⊢
      split
      · rfl
      · rename_i h; rw [if_neg h] at h0; exact absurd rfl h0
    rw [h2] at h0 ⊢
    have ha0 : a ≠ 0 := by rintro rfl; simp at h0
    have hb0 : b ≠ 0 := by rintro rfl; simp at h0
    have h3 : decide (fitN (a.natAbs * b.natAbs) ≠ 0) = true := by simpa using h1
    rw [h3, Bool.and_true]
    rcases Int.lt_or_gt_of_ne ha0 with h | h <;> rcases Int.lt_or_gt_of_ne hb0 with h' | h'
    · have e : ¬ a * b < 0 := by have := Int.mul_pos_of_neg_of_neg h h'; omega
      simp [h, h', e]
    · have e : a * b < 0 := Int.mul_neg_of_neg_of_pos h h'
      have e2 : ¬ b < 0 := by omega
      simp [h, e2, e]
    · have e : a * b < 0 := Int.mul_neg_of_pos_of_neg h h'
      have e2 : ¬ a < 0 := by omega
      simp [h', e2, e]
    · have e : ¬ a * b < 0 := by have := Int.mul_pos h h'; omega
      have e1 : ¬ a < 0 := by omega
      have e2 : ¬ b < 0 := by omega
      simp [e1, e2, e]

theorem zMul_any (na nb : Bool) (A B : Option Addr) (k m : Nat) (a b : Int) (w : World) (ha : IsInt w na A k a) (hb : IsInt w nb B m b) :
    Calls Tryz.prog 52 #[.agg #[.bool na, .slice A k k], .agg #[.bool nb, .slice B m m]] w fun e w' => ∃ n A' k', e = .returned (.tuple #[.agg #[.bool n, .slice A' k' k'], .int .i64 (codeZ (a * b))]) ∧ IsInt w' n A' k' (fitZ (a * b)) ∧ Ext w w' := by
  obtain ⟨W0, hWW0⟩ : ∃ W0 : World, ((w.alloc (.cells #[.bool na, .slice A k k] 104)).alloc (.cells #[.bool nb, .slice B m m] 104)).alloc (.cells #[.bool false, .slice none 0 0] 104) = W0 := ⟨_, rfl⟩
  have hXW0 : Ext w W0 := by rw [← hWW0]; exact ((((Ext.refl w).alloc _).alloc _).alloc _)
  have hsW0 : w.heap.size + 3 ≤ W0.heap.size := by rw [← hWW0]; simp only [World.size_alloc]; omega
  have c0a : W0.cell? ⟨w.heap.size, 0, none⟩ = some (.bool na) := by rw [← hWW0]; simp [go_sem]
  have f0a : W0.frozen? ⟨w.heap.size, 0, none⟩ = false := by rw [← hWW0]; simp [go_sem]
  have c0b : W0.cell? ⟨w.heap.size, 1, none⟩ = some (.slice A k k) := by rw [← hWW0]; simp [go_sem]
  have f0b : W0.frozen? ⟨w.heap.size, 1, none⟩ = false := by rw [← hWW0]; simp [go_sem]
  have c1a : W0.cell? ⟨w.heap.size + 1, 0, none⟩ = some (.bool nb) := by rw [← hWW0]; simp [go_sem]
  have f1a : W0.frozen? ⟨w.heap.size + 1, 0, none⟩ = false := by rw [← hWW0]; simp [go_sem]
  have c1b : W0.cell? ⟨w.heap.size + 1, 1, none⟩ = some (.slice B m m) := by rw [← hWW0]; simp [go_sem]
  have f1b : W0.frozen? ⟨w.heap.size + 1, 1, none⟩ = false := by rw [← hWW0]; simp [go_sem]
  have c2a : W0.cell? ⟨w.heap.size + 1 + 1, 0, none⟩ = some (.bool false) := by rw [← hWW0]; simp [go_sem]
  have f2a : W0.frozen? ⟨w.heap.size + 1 + 1, 0, none⟩ = false := by rw [← hWW0]; simp [go_sem]
  have c2b : W0.cell? ⟨w.heap.size + 1 + 1, 1, none⟩ = some (.slice none 0 0) := by rw [← hWW0]; simp [go_sem]
  have f2b : W0.frozen? ⟨w.heap.size + 1 + 1, 1, none⟩ = false := by rw [← hWW0]; simp [go_sem]
  have HWW0 := Lib.hid hWW0
  clear hWW0
  have HX := Lib.hid hXW0
  have HC := Lib.hid (Mul_any A B k m a.natAbs b.natAbs W0 (ha.nat.ext hXW0) (hb.nat.ext hXW0) ha.bits hb.bits)
  have HS := Lib.hid (mul_sign a b na nb ha.sign hb.sign)
  have HE : Hid (codeN (a.natAbs * b.natAbs) = codeZ (a * b) ∧ fitN (a.natAbs * b.natAbs) = (fitZ (a * b)).natAbs) := ⟨by rw [codeZ_abs, Int.natAbs_mul], by rw [fitZ_abs, Int.natAbs_mul]⟩
  clear hXW0 ha hb
  obtain ⟨c, hc⟩ : ∃ c, codeN (a.natAbs * b.natAbs) = c := ⟨_, rfl⟩
  obtain ⟨p, hp⟩ : ∃ p, fitN (a.natAbs * b.natAbs) = p := ⟨_, rfl⟩
  have HB : Hid (bitsN p ≤ 4096) := by rw [← hp]; exact fitN_bits _
  rw [hc, hp] at HC HE
  rw [hp] at HS
  rw [← HE.out.1]
  clear hc hp
  go_enter Tryz.func52, Tryz.ntmps52
  go_wp2_with fail
  rw [HWW0.out]
  refine HC.out.mono ?_
  rintro e w1 ⟨A', k', rfl, hn, hx⟩
  replace c0a := hx.cell c0a
  replace c1a := hx.cell c1a
  replace f2a := hx.free f2a (lt_of_cell c2a)
  replace c2a := hx.cell c2a
  replace f2b := hx.free f2b (lt_of_cell c2b)
  replace c2b := hx.cell c2b
  have hX := Lib.hid (HX.out.trans hx)
  have HN := Lib.hid hn
  have hs1 : w.heap.size + 3 ≤ w1.heap.size := Nat.le_trans hsW0 hx.size
  clear hx hn HX HC HWW0 c0b c1b f0a f0b f1a f1b hsW0
  have l0 : w.heap.size < w1.heap.size := by omega
  have l1 : w.heap.size + 1 < w1.heap.size := by omega
  have l2 : w.heap.size + 1 + 1 < w1.heap.size := by omega
  go_wp2_with fail
  obtain ⟨W1, hWW1⟩ : ∃ W1 : World, w1.alloc (.cells #[.slice A' k' k'] 102) = W1 := ⟨_, rfl⟩
  have hXW1 : Ext w1 W1 := by rw [← hWW1]; exact ((Ext.refl w1).alloc _)
  have hsW1 : w1.heap.size + 1 ≤ W1.heap.size := by rw [← hWW1]; simp only [World.size_alloc]; omega
  have cd0 : W1.cell? ⟨w1.heap.size, 0, none⟩ = some (.slice A' k' k') := by rw [← hWW1]; simp [go_sem]
  have fd0 : W1.frozen? ⟨w1.heap.size, 0, none⟩ = false := by rw [← hWW1]; simp [go_sem]
  have HWW1 := Lib.hid hWW1
  clear hWW1
  rw [HWW1.out]
  replace f2a := hXW1.free f2a (lt_of_cell c2a)
  replace c2a := hXW1.cell c2a
  replace f2b := hXW1.free f2b (lt_of_cell c2b)
  replace c2b := hXW1.cell c2b
  have HM := Lib.hid (Make_any (!(na == nb)) A' k' p W1 (HN.out.ext hXW1) HB.out)
  have HN1 := Lib.hid (HN.out.ext hXW1)
  have hX1 := Lib.hid (hX.out.trans hXW1)
  clear hXW1 HWW1 hX HN hs1 l0 l1 l2 hsW1 c0a c1a cd0 fd0
  refine HM.out.mono ?_
  rintro e w2 ⟨rfl, hx⟩
  replace f2a := hx.free f2a (lt_of_cell c2a)
  replace c2a := hx.cell c2a
  replace f2b := hx.free f2b (lt_of_cell c2b)
  replace c2b := hx.cell c2b
  have hX2 := Lib.hid (hX1.out.trans hx)
  have HN2 := Lib.hid (HN1.out.ext hx)
  clear hx hX1 HN1 HM
  have HS2 : Hid ((!(na == nb) && decide (p ≠ 0)) = decide (fitZ (a * b) < 0)) := HS.out
  obtain ⟨n, hn⟩ : ∃ n, (!(na == nb) && decide (p ≠ 0)) = n := ⟨_, rfl⟩
  rw [hn] at HS2 ⊢
  clear hn HS
  have y1 : (w2.setCell ⟨w.heap.size + 1 + 1, 0, none⟩ (.bool n)).cell? ⟨w.heap.size + 1 + 1, 1, none⟩ = some (.slice none 0 0) := by
    rw [World.cell?_setCell_other _ _ _ _ (by simp)]; exact c2b
  go_wp2
  refine bodyPost_ret (v := .tuple #[.agg #[.bool n, .slice A' k' k'], .int .i64 c]) (by simp [results, Tryz.results52, go_sem, c2a, c2b]) rfl ⟨n, A', k', rfl, ⟨?_, HS2.out, ?_⟩, (by repeat (first | exact hX2.out | refine Ext.drew ?_ | refine Ext.drewN ?_ _ | refine Ext.setCell ?_ (by first | exact Nat.le_refl _ | (simp only []; omega)) _ | refine Ext.alloc ?_ _))⟩
  · rw [← HE.out.2]; exact (HN2.out.setBool c2a _).setBox y1 _
  · rw [← HE.out.2]; exact HB.out
end Go.Proofs.YtiihnoelclnahaaGreatDoor
