/- zint.Quo, zint.Exact. -/
import Derived.Test.YtiihnoelclnahaaGreatDoorZintAdd
namespace Go.Proofs.YtiihnoelclnahaaGreatDoor
open Go.RowKit
set_option linter.unusedVariables false

theorem quo_pos (a : Int) (c : Nat) (hc : 0 < c) : (a / (c : Int)).natAbs = (if a < 0 ∧ a.natAbs % c ≠ 0 then a.natAbs / c + 1 else a.natAbs / c) ∧ (a % (c : Int)) = ((if a < 0 ∧ a.natAbs % c ≠ 0 then c - a.natAbs % c else a.natAbs % c : Nat) : Int) ∧ (a / (c : Int) < 0 ↔ a < 0) := by
  have hcz : (0 : Int) < (c : Int) := by omega
  have hd := Nat.div_add_mod a.natAbs c
  have hm := Nat.mod_lt a.natAbs hc
  generalize a.natAbs / c = n at *
  generalize a.natAbs % c = m at *
  by_cases h : a < 0
  · have hsgn : a / (c : Int) < 0 ↔ a < 0 := ⟨fun _ => h, fun _ => Int.ediv_neg_of_neg_of_pos h hcz⟩
    have ha : a = -((c * n + m : Nat) : Int) := by omega
    by_cases h2 : m = 0
    · have hu := (Int.ediv_emod_unique (a := a) (b := c) (q := -(n : Int)) (r := 0) hcz).2 ⟨by rw [ha, h2]; simp [Int.mul_neg], by omega, hcz⟩
      rw [if_neg (by omega), if_neg (by omega)]
      refine ⟨by rw [hu.1]; omega, by rw [hu.2, h2]; rfl, hsgn⟩
    · have hu := (Int.ediv_emod_unique (a := a) (b := c) (q := -((n + 1 : Nat) : Int)) (r := ((c - m : Nat) : Int)) hcz).2 ⟨by
        rw [ha, Int.natCast_sub (by omega)]
        simp only [Int.natCast_add, Int.natCast_mul, Int.natCast_one, Int.mul_neg, Int.mul_add, Int.mul_one]
        omega, by omega, by omega⟩
      rw [if_pos ⟨h, h2⟩, if_pos ⟨h, h2⟩]
      exact ⟨by rw [hu.1]; omega, hu.2, hsgn⟩
  · have ha : a = ((c * n + m : Nat) : Int) := by omega
    have hu := (Int.ediv_emod_unique (a := a) (b := c) (q := (n : Int)) (r := (m : Int)) hcz).2 ⟨by rw [ha]; simp only [Int.natCast_add, Int.natCast_mul]; omega, by omega, by omega⟩
    rw [if_neg (by omega), if_neg (by omega)]
    refine ⟨by rw [hu.1]; omega, hu.2, ?_⟩
    rw [hu.1]; omega

theorem quo_any (a b : Int) (hb : b ≠ 0) : (a / b).natAbs = (if a < 0 ∧ a.natAbs % b.natAbs ≠ 0 then a.natAbs / b.natAbs + 1 else a.natAbs / b.natAbs) ∧
    a % b = ((if a < 0 ∧ a.natAbs % b.natAbs ≠ 0 then b.natAbs - a.natAbs % b.natAbs else a.natAbs % b.natAbs : Nat) : Int) ∧
    ((decide (a < 0) != decide (b < 0)) && decide ((a / b).natAbs ≠ 0)) = decide (a / b < 0) := by
  have hp := quo_pos a b.natAbs (by omega)
  rcases Int.lt_or_gt_of_ne hb with h | h
  · have e : b = -((b.natAbs : Nat) : Int) := by omega
    have e1 : a / b = -(a / (b.natAbs : Int)) := by conv => lhs; rw [e]; rw [Int.ediv_neg]
    have e2 : a % b = a % (b.natAbs : Int) := by conv => lhs; rw [e]; rw [Int.emod_neg]
    rw [e1, e2, Int.natAbs_neg]
    refine ⟨hp.1, hp.2.1, ?_⟩
    have hbs : decide (b < 0) = true := by simpa using h
    rw [hbs]
    generalize a / (b.natAbs : Int) = q at *
    by_cases h2 : a < 0
    · have e3 : decide (a < 0) = true := by simpa using h2
      have := hp.2.2.2 h2
      have e4 : decide (-q < 0) = false := by simp; omega
      rw [e3, e4]; rfl
    · have e3 : decide (a < 0) = false := by simpa using h2
      have h4 : ¬ q < 0 := fun hq => h2 (hp.2.2.1 hq)
      rw [e3]
      by_cases h5 : q = 0
      · subst h5; rfl
      · have e4 : decide (-q < 0) = true := by simp; omega
        have e5 : decide (q.natAbs ≠ 0) = true := by simp; omega
        rw [e4, e5]; rfl
  · have e : b = ((b.natAbs : Nat) : Int) := by omega
    have e1 : a / b = a / (b.natAbs : Int) := by rw [← e]
    have e2 : a % b = a % (b.natAbs : Int) := by rw [← e]
    rw [e1, e2]
    refine ⟨hp.1, hp.2.1, ?_⟩
    have hbs : decide (b < 0) = false := by simp; omega
    rw [hbs]
    generalize a / (b.natAbs : Int) = q at *
    by_cases h2 : a < 0
    · have e3 : decide (a < 0) = true := by simpa using h2
      have h4 := hp.2.2.2 h2
      have e4 : decide (q < 0) = true := by simpa using h4
      have e5 : decide (q.natAbs ≠ 0) = true := by simp; omega
      rw [e3, e4, e5]; rfl
    · have e3 : decide (a < 0) = false := by simpa using h2
      have h4 : ¬ q < 0 := fun hq => h2 (hp.2.2.1 hq)
      have e4 : decide (q < 0) = false := by simpa using h4
      rw [e3, e4]; rfl
end Go.Proofs.YtiihnoelclnahaaGreatDoor
