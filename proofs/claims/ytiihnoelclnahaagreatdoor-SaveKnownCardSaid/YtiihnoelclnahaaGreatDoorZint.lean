/- zint: Make, Of, Sign, Neg. -/
import Derived.Test.YtiihnoelclnahaaGreatDoorNatDiv
import Derived.Deep.RegionWith
namespace Go.Proofs.YtiihnoelclnahaaGreatDoor
set_option linter.unusedSimpArgs false
open Go.RowKit
set_option linter.unusedVariables false

/-- A whole number as it is held: sign, digits. -/
structure IsInt (w : World) (neg : Bool) (A : Option Addr) (k : Nat) (z : Int) : Prop where
  nat : IsNat w A k z.natAbs
  sign : neg = decide (z < 0)
  bits : bitsN z.natAbs ≤ 4096

theorem IsInt.ext {w w' : World} {neg : Bool} {A : Option Addr} {k : Nat} {z : Int} (h : IsInt w neg A k z) (hb : Ext w w') : IsInt w' neg A k z := ⟨h.nat.ext hb, h.sign, h.bits⟩
theorem IsInt.setBox {w : World} {neg : Bool} {A : Option Addr} {k : Nat} {z : Int} (h : IsInt w neg A k z) {b o : Nat} {a' : Option Addr} {m c : Nat} (hc : w.cell? ⟨b, o, none⟩ = some (.slice a' m c)) (u : Value) : IsInt (w.setCell ⟨b, o, none⟩ u) neg A k z := ⟨h.nat.setBox hc u, h.sign, h.bits⟩
theorem IsNat.setBool {w : World} {A : Option Addr} {k n : Nat} (h : IsNat w A k n) {b o : Nat} {x : Bool} (hc : w.cell? ⟨b, o, none⟩ = some (.bool x)) (u : Value) : IsNat (w.setCell ⟨b, o, none⟩ u) A k n := by
  refine ⟨h.1, fun hl => ?_⟩
  obtain ⟨b', off, e, hlt, hd⟩ := h.2 hl
  refine ⟨b', off, e, hlt.set_ _ _, fun j d hj => ?_⟩
  rw [World.cell?_setCell_other]
  · exact hd j d hj
  · intro he
    have := hd j d hj
    rw [← he, hc] at this
    cases this
theorem IsInt.setBool {w : World} {neg : Bool} {A : Option Addr} {k : Nat} {z : Int} (h : IsInt w neg A k z) {b o : Nat} {x : Bool} (hc : w.cell? ⟨b, o, none⟩ = some (.bool x)) (u : Value) : IsInt (w.setCell ⟨b, o, none⟩ u) neg A k z := ⟨h.nat.setBool hc u, h.sign, h.bits⟩
theorem isNat_k {w : World} {A : Option Addr} {k n : Nat} (h : IsNat w A k n) (hb : bitsN n ≤ 4096) : k ≤ 128 := by
  rw [h.1]; exact digs_length_bits n 128 (by omega)
theorem IsInt.k {w : World} {neg : Bool} {A : Option Addr} {k : Nat} {z : Int} (h : IsInt w neg A k z) : k ≤ 128 := isNat_k h.nat h.bits

theorem Make_any (minus : Bool) (A : Option Addr) (k n : Nat) (w : World) (h : IsNat w A k n) (hb : bitsN n ≤ 4096) :
    Calls Tryz.prog 77 #[.bool minus, .agg #[.slice A k k]] w fun e w' => e = .returned (.agg #[.bool (minus && decide (n ≠ 0)), .slice A k k]) ∧ Ext w w' := by
  have hk := isNat_k h hb
  cases minus
  · clear h
    go_enter Tryz.func77, Tryz.ntmps77
    go_wp2
    go_region
    go_wp2
    exact bodyPost_ret (v := .agg #[.bool false, .slice A k k]) (by simp [results, Tryz.results77, go_sem]) rfl ⟨rfl, (by repeat (first | exact (Ext.refl w) | refine Ext.drew ?_ | refine Ext.drewN ?_ _ | refine Ext.setCell ?_ (by first | exact Nat.le_refl _ | (simp only []; omega)) _ | refine Ext.alloc ?_ _))⟩
  · obtain ⟨W0, hWW0⟩ : ∃ W0 : World, (w.alloc (.cells #[.slice A k k] 102)).alloc (.cells #[.bool false, .slice none 0 0] 104) = W0 := ⟨_, rfl⟩
    have hXW0 : Ext w W0 := by rw [← hWW0]; exact (((Ext.refl w).alloc _).alloc _)
    have hsW0 : w.heap.size + 2 ≤ W0.heap.size := by rw [← hWW0]; simp only [World.size_alloc]; omega
    have c0 : W0.cell? ⟨w.heap.size, 0, none⟩ = some (.slice A k k) := by rw [← hWW0]; simp [go_sem]
    have f0 : W0.frozen? ⟨w.heap.size, 0, none⟩ = false := by rw [← hWW0]; simp [go_sem]
    have c1a : W0.cell? ⟨w.heap.size + 1, 0, none⟩ = some (.bool false) := by rw [← hWW0]; simp [go_sem]
    have f1a : W0.frozen? ⟨w.heap.size + 1, 0, none⟩ = false := by rw [← hWW0]; simp [go_sem]
    have c1b : W0.cell? ⟨w.heap.size + 1, 1, none⟩ = some (.slice none 0 0) := by rw [← hWW0]; simp [go_sem]
    have f1b : W0.frozen? ⟨w.heap.size + 1, 1, none⟩ = false := by rw [← hWW0]; simp [go_sem]
    have HWW0 := Lib.hid hWW0
    clear hWW0
    have HC := fun W (hX : Ext W0 W) => Bits_any A k n W ((h.ext hXW0).ext hX) (by omega)
    obtain ⟨bt, hbt⟩ : ∃ bt, bitsN n = bt := ⟨_, rfl⟩
    have hb0 : bt = 0 ↔ n = 0 := by rw [← hbt]; exact bitsN_eq_zero
    rw [hbt] at HC hb
    obtain ⟨x, hx⟩ : ∃ x, decide (n ≠ 0) = x := ⟨_, rfl⟩
    have hdx : decide ((0 : Int) < (bt : Int)) = x := by
      rw [← hx]
      by_cases h0 : n = 0
      · simp [h0]; omega
      · simp [h0]; omega
    have hdn : decide (0 < bt) = x := by rw [← hdx]; simp
    rw [hx]
    have HC := Lib.hid HC
    have HX := Lib.hid hXW0
    clear h hXW0 hbt hb0 hx
    go_enter Tryz.func77, Tryz.ntmps77
    go_wp2
    rw [HWW0.out]
    go_region_with (go_at_call 75; refine (HC.out _ (by first | exact (Ext.refl _).drew | exact Ext.refl _)).mono ?_; rintro e w1 ⟨rfl, hx⟩; have d0 := hx.cell c0; have e0 := hx.cell c1a; have e1 := hx.cell c1b; have g0 := hx.free f1a (lt_of_cell c1a); have g1 := hx.free f1b (lt_of_cell c1b))
    all_goals
      have HX1 := Lib.hid ((HX.out.drew).trans hx)
      go_wp2
      exact bodyPost_ret (v := .agg #[.bool x, .slice A k k]) (by simp [results, Tryz.results77, go_sem, e0, e1, hdn]) rfl ⟨rfl, (by repeat (first | exact HX1.out | refine Ext.drew ?_ | refine Ext.drewN ?_ _ | refine Ext.setCell ?_ (by first | exact Nat.le_refl _ | (simp only []; omega)) _ | refine Ext.alloc ?_ _))⟩

theorem zOf_neg (z : Int) (w : World) (h0 : z < 0) (h1 : -9223372036854775808 ≤ z) :
    Calls Tryz.prog 50 #[.int .i64 z] w fun e w' => ∃ A k, e = .returned (.agg #[.bool true, .slice A k k]) ∧ IsInt w' true A k z ∧ Ext w w' := by
  obtain ⟨n, hn⟩ : ∃ n : Nat, z.natAbs = n := ⟨_, rfl⟩
  have hz : z = -(n : Int) := by omega
  have hn1 : n ≤ 9223372036854775808 := by omega
  have hbn : bitsN n ≤ 4096 := Nat.le_trans ((bitsN_le n 64).2 (by omega)) (by omega)
  obtain ⟨W0, hWW0⟩ : ∃ W0 : World, w.alloc (.cells #[.bool false, .slice none 0 0] 104) = W0 := ⟨_, rfl⟩
  have hXW0 : Ext w W0 := by rw [← hWW0]; exact ((Ext.refl w).alloc _)
  have hsW0 : w.heap.size + 1 ≤ W0.heap.size := by rw [← hWW0]; simp only [World.size_alloc]; omega
  have c0a : W0.cell? ⟨w.heap.size, 0, none⟩ = some (.bool false) := by rw [← hWW0]; simp [go_sem]
  have f0a : W0.frozen? ⟨w.heap.size, 0, none⟩ = false := by rw [← hWW0]; simp [go_sem]
  have c0b : W0.cell? ⟨w.heap.size, 1, none⟩ = some (.slice none 0 0) := by rw [← hWW0]; simp [go_sem]
  have f0b : W0.frozen? ⟨w.heap.size, 1, none⟩ = false := by rw [← hWW0]; simp [go_sem]
  have HWW0 := Lib.hid hWW0
  clear hWW0
  have HX := Lib.hid hXW0
  have HC := Lib.hid (of_any n W0 (by omega))
  have e1 : IntKind.u64.wrap z = 18446744073709551616 - (n : Int) := by show z % 18446744073709551616 = _; omega
  have e2 : IntKind.u64.wrap (-(18446744073709551616 - (n : Int))) = (n : Int) := by show (-(18446744073709551616 - (n : Int))) % 18446744073709551616 = _; omega
  have HZ := Lib.hid (show z.natAbs = n ∧ bitsN n ≤ 4096 from ⟨hn, hbn⟩)
  have hd : decide (z < 0) = true := by simp; exact h0
  have hd2 : decide (z < 0) = true := hd
  clear hXW0 hz hn hbn
  go_enter Tryz.func50, Tryz.ntmps50
  go_wp2_with fail
  rw [HWW0.out]
  refine HC.out.mono ?_
  rintro e w1 ⟨A, k, rfl, hn, hk, hx⟩
  replace f0a := hx.free f0a (lt_of_cell c0a)
  replace c0a := hx.cell c0a
  replace f0b := hx.free f0b (lt_of_cell c0b)
  replace c0b := hx.cell c0b
  have hX := Lib.hid (HX.out.trans hx)
  have HN := Lib.hid hn
  have y1 : (w1.setCell ⟨w.heap.size, 0, none⟩ (.bool true)).cell? ⟨w.heap.size, 1, none⟩ = some (.slice none 0 0) := by
    rw [World.cell?_setCell_other _ _ _ _ (by simp)]; exact c0b
  clear hx hn HWW0 HX HC hsW0 hd2
  go_wp2
  refine bodyPost_ret (v := .agg #[.bool true, .slice A k k]) (by simp [results, Tryz.results50, go_sem, c0a, c0b]) rfl ⟨A, k, rfl, ⟨?_, hd.symm, ?_⟩, (by repeat (first | exact hX.out | refine Ext.drew ?_ | refine Ext.drewN ?_ _ | refine Ext.setCell ?_ (by first | exact Nat.le_refl _ | (simp only []; omega)) _ | refine Ext.alloc ?_ _))⟩
  · rw [HZ.out.1]; exact (HN.out.setBool c0a _).setBox y1 _
  · rw [HZ.out.1]; exact HZ.out.2

theorem zOf_pos (z : Int) (w : World) (h0 : 0 ≤ z) (h1 : z ≤ 9223372036854775807) :
    Calls Tryz.prog 50 #[.int .i64 z] w fun e w' => ∃ A k, e = .returned (.agg #[.bool false, .slice A k k]) ∧ IsInt w' false A k z ∧ Ext w w' := by
  obtain ⟨n, hn⟩ : ∃ n : Nat, z = n := ⟨z.toNat, by omega⟩
  subst hn
  have hbn : bitsN n ≤ 4096 := Nat.le_trans ((bitsN_le n 64).2 (by omega)) (by omega)
  obtain ⟨W0, hWW0⟩ : ∃ W0 : World, w.alloc (.cells #[.bool false, .slice none 0 0] 104) = W0 := ⟨_, rfl⟩
  have hXW0 : Ext w W0 := by rw [← hWW0]; exact ((Ext.refl w).alloc _)
  have hsW0 : w.heap.size + 1 ≤ W0.heap.size := by rw [← hWW0]; simp only [World.size_alloc]; omega
  have c0a : W0.cell? ⟨w.heap.size, 0, none⟩ = some (.bool false) := by rw [← hWW0]; simp [go_sem]
  have f0a : W0.frozen? ⟨w.heap.size, 0, none⟩ = false := by rw [← hWW0]; simp [go_sem]
  have c0b : W0.cell? ⟨w.heap.size, 1, none⟩ = some (.slice none 0 0) := by rw [← hWW0]; simp [go_sem]
  have f0b : W0.frozen? ⟨w.heap.size, 1, none⟩ = false := by rw [← hWW0]; simp [go_sem]
  have HWW0 := Lib.hid hWW0
  clear hWW0
  have HX := Lib.hid hXW0
  have HC := Lib.hid (of_any n W0 (by omega))
  have e1 : IntKind.u64.wrap (n : Int) = (n : Int) := wraps_u64 _ (by omega) (by omega)
  have hd : decide ((n : Int) < 0) = false := by simp
  have HB := Lib.hid hbn
  clear hXW0 hbn
  go_enter Tryz.func50, Tryz.ntmps50
  go_wp2_with fail
  rw [HWW0.out]
  refine HC.out.mono ?_
  rintro e w1 ⟨A, k, rfl, hn, hk, hx⟩
  replace f0a := hx.free f0a (lt_of_cell c0a)
  replace c0a := hx.cell c0a
  replace f0b := hx.free f0b (lt_of_cell c0b)
  replace c0b := hx.cell c0b
  have hX := Lib.hid (HX.out.trans hx)
  have HN := Lib.hid hn
  have y1 : (w1.setCell ⟨w.heap.size, 0, none⟩ (.bool false)).cell? ⟨w.heap.size, 1, none⟩ = some (.slice none 0 0) := by
    rw [World.cell?_setCell_other _ _ _ _ (by simp)]; exact c0b
  clear hx hn HWW0 HX HC hsW0
  go_wp2
  refine bodyPost_ret (v := .agg #[.bool false, .slice A k k]) (by simp [results, Tryz.results50, go_sem, c0a, c0b]) rfl ⟨A, k, rfl, ⟨?_, hd.symm, ?_⟩, (by repeat (first | exact hX.out | refine Ext.drew ?_ | refine Ext.drewN ?_ _ | refine Ext.setCell ?_ (by first | exact Nat.le_refl _ | (simp only []; omega)) _ | refine Ext.alloc ?_ _))⟩
  · rw [Int.natAbs_natCast]; exact (HN.out.setBool c0a _).setBox y1 _
  · rw [Int.natAbs_natCast]; exact HB.out

theorem zOf_any (z : Int) (w : World) (h0 : -9223372036854775808 ≤ z) (h1 : z ≤ 9223372036854775807) :
    Calls Tryz.prog 50 #[.int .i64 z] w fun e w' => ∃ n A k, e = .returned (.agg #[.bool n, .slice A k k]) ∧ IsInt w' n A k z ∧ Ext w w' := by
  rcases Int.lt_or_le z 0 with h | h
  · exact (zOf_neg z w h h0).mono fun e w' ⟨A, k, h⟩ => ⟨_, A, k, h⟩
  · exact (zOf_pos z w h h1).mono fun e w' ⟨A, k, h⟩ => ⟨_, A, k, h⟩

def signZ (z : Int) : Int := if z = 0 then 0 else if z < 0 then -1 else 1

theorem Sign_any (neg : Bool) (A : Option Addr) (k : Nat) (z : Int) (w : World) (h : IsInt w neg A k z) :
    Calls Tryz.prog 51 #[.agg #[.bool neg, .slice A k k]] w fun e w' => e = .returned (.int .i64 (signZ z)) ∧ Ext w w' := by
  obtain ⟨W0, hWW0⟩ : ∃ W0 : World, w.alloc (.cells #[.bool neg, .slice A k k] 104) = W0 := ⟨_, rfl⟩
  have hXW0 : Ext w W0 := by rw [← hWW0]; exact ((Ext.refl w).alloc _)
  have hsW0 : w.heap.size + 1 ≤ W0.heap.size := by rw [← hWW0]; simp only [World.size_alloc]; omega
  have c0a : W0.cell? ⟨w.heap.size, 0, none⟩ = some (.bool neg) := by rw [← hWW0]; simp [go_sem]
  have f0a : W0.frozen? ⟨w.heap.size, 0, none⟩ = false := by rw [← hWW0]; simp [go_sem]
  have c0b : W0.cell? ⟨w.heap.size, 1, none⟩ = some (.slice A k k) := by rw [← hWW0]; simp [go_sem]
  have f0b : W0.frozen? ⟨w.heap.size, 1, none⟩ = false := by rw [← hWW0]; simp [go_sem]
  have HWW0 := Lib.hid hWW0
  clear hWW0
  have HX := Lib.hid hXW0
  have hk := h.k
  obtain ⟨bt, hbt⟩ : ∃ bt, bitsN z.natAbs = bt := ⟨_, rfl⟩
  have HC := Lib.hid (Bits_any A k z.natAbs W0 (h.nat.ext hXW0) (by omega))
  rw [hbt] at HC
  have hz0 : bt = 0 ↔ z = 0 := by rw [← hbt, bitsN_eq_zero]; omega
  have hs := h.sign
  have hbb : bt ≤ 4096 := hbt ▸ h.bits
  by_cases h0 : z = 0
  · have hb0 : ((bt : Int) == 0) = true := by rw [beq_iff_eq]; have := hz0.2 h0; omega
    have HS : Hid (signZ z = 0) := by unfold signZ Hid; rw [if_pos h0]
    clear hXW0 h hbt hz0 hs h0
    go_enter Tryz.func51, Tryz.ntmps51
    go_wp2_with fail
    rw [HWW0.out]
    refine HC.out.mono ?_
    rintro e w1 ⟨rfl, hx⟩
    have hX := Lib.hid (HX.out.trans hx)
    clear hx HWW0 HX HC
    go_wp2
    go_ret
    exact ⟨ret_int HS.out.symm, hX.out⟩
  · have hb0 : ((bt : Int) == 0) = false := by rw [beq_eq_false_iff_ne]; omega
    rcases Int.lt_or_le z 0 with h1 | h1
    · obtain rfl : neg = true := by rw [hs]; simp; exact h1
      have HS : Hid (signZ z = -1) := by unfold signZ Hid; rw [if_neg h0, if_pos h1]
      clear hXW0 h hbt hz0 hs h0 h1
      go_enter Tryz.func51, Tryz.ntmps51
      go_wp2_with fail
      rw [HWW0.out]
      refine HC.out.mono ?_
      rintro e w1 ⟨rfl, hx⟩
      replace c0a := hx.cell c0a
      replace c0b := hx.cell c0b
      have hX := Lib.hid (HX.out.trans hx)
      clear hx HWW0 HX HC
      go_wp2
      go_ret
      exact ⟨ret_int HS.out.symm, hX.out⟩
    · obtain rfl : neg = false := by rw [hs]; simp; exact h1
      have HS : Hid (signZ z = 1) := by unfold signZ Hid; rw [if_neg h0, if_neg (by omega)]
      clear hXW0 h hbt hz0 hs h0 h1
      go_enter Tryz.func51, Tryz.ntmps51
      go_wp2_with fail
      rw [HWW0.out]
      refine HC.out.mono ?_
      rintro e w1 ⟨rfl, hx⟩
      replace c0a := hx.cell c0a
      replace c0b := hx.cell c0b
      have hX := Lib.hid (HX.out.trans hx)
      clear hx HWW0 HX HC
      go_wp2
      go_ret
      exact ⟨ret_int HS.out.symm, hX.out⟩

theorem Neg_any (neg : Bool) (A : Option Addr) (k : Nat) (z : Int) (w : World) (h : IsInt w neg A k z) :
    Calls Tryz.prog 79 #[.agg #[.bool neg, .slice A k k]] w fun e w' => ∃ n, e = .returned (.agg #[.bool n, .slice A k k]) ∧ IsInt w' n A k (-z) ∧ Ext w w' := by
  obtain ⟨W0, hWW0⟩ : ∃ W0 : World, (w.alloc (.cells #[.bool neg, .slice A k k] 104)).alloc (.cells #[.bool false, .slice none 0 0] 104) = W0 := ⟨_, rfl⟩
  have hXW0 : Ext w W0 := by rw [← hWW0]; exact (((Ext.refl w).alloc _).alloc _)
  have hsW0 : w.heap.size + 2 ≤ W0.heap.size := by rw [← hWW0]; simp only [World.size_alloc]; omega
  have c0a : W0.cell? ⟨w.heap.size, 0, none⟩ = some (.bool neg) := by rw [← hWW0]; simp [go_sem]
  have f0a : W0.frozen? ⟨w.heap.size, 0, none⟩ = false := by rw [← hWW0]; simp [go_sem]
  have c0b : W0.cell? ⟨w.heap.size, 1, none⟩ = some (.slice A k k) := by rw [← hWW0]; simp [go_sem]
  have f0b : W0.frozen? ⟨w.heap.size, 1, none⟩ = false := by rw [← hWW0]; simp [go_sem]
  have c1a : W0.cell? ⟨w.heap.size + 1, 0, none⟩ = some (.bool false) := by rw [← hWW0]; simp [go_sem]
  have f1a : W0.frozen? ⟨w.heap.size + 1, 0, none⟩ = false := by rw [← hWW0]; simp [go_sem]
  have c1b : W0.cell? ⟨w.heap.size + 1, 1, none⟩ = some (.slice none 0 0) := by rw [← hWW0]; simp [go_sem]
  have f1b : W0.frozen? ⟨w.heap.size + 1, 1, none⟩ = false := by rw [← hWW0]; simp [go_sem]
  have HWW0 := Lib.hid hWW0
  clear hWW0
  have HX := Lib.hid hXW0
  have HC := Lib.hid (Make_any (!neg) A k z.natAbs W0 (h.nat.ext hXW0) h.bits)
  have HH := Lib.hid (h.ext hXW0)
  have hnot : ∀ (x : Bool) (w : World), (Op.unary .not (.bool x)).run Tryz.prog w = .ok (.bool (!x)) w := fun _ _ => rfl
  obtain ⟨n, hn⟩ : ∃ n, (!neg && decide (z.natAbs ≠ 0)) = n := ⟨_, rfl⟩
  rw [hn] at HC
  have HS : Hid (n = decide (-z < 0)) := by
    unfold Hid
    rw [← hn, h.sign]
    rcases Int.lt_trichotomy z 0 with h1 | h1 | h1
    · have e1 : decide (z < 0) = true := by simp; exact h1
      have e2 : decide (-z < 0) = false := by simp; omega
      rw [e1, e2]; rfl
    · subst h1; rfl
    · have e1 : decide (z < 0) = false := by simp; omega
      have e2 : decide (-z < 0) = true := by simp; omega
      have e3 : decide (z.natAbs ≠ 0) = true := by simp; omega
      rw [e1, e2, e3]; rfl
  clear hXW0 h hn
  go_enter Tryz.func79, Tryz.ntmps79
  go_wp2_with fail
  rw [HWW0.out]
  refine HC.out.mono ?_
  rintro e w1 ⟨rfl, hx⟩
  replace f1a := hx.free f1a (lt_of_cell c1a)
  replace c1a := hx.cell c1a
  replace f1b := hx.free f1b (lt_of_cell c1b)
  replace c1b := hx.cell c1b
  have hX := Lib.hid (HX.out.trans hx)
  have HN := Lib.hid (HH.out.ext hx)
  have y1 : (w1.setCell ⟨w.heap.size + 1, 0, none⟩ (.bool n)).cell? ⟨w.heap.size + 1, 1, none⟩ = some (.slice none 0 0) := by
    rw [World.cell?_setCell_other _ _ _ _ (by simp)]; exact c1b
  clear hx HWW0 HX HC hsW0 HH
  go_wp2
  refine bodyPost_ret (v := .agg #[.bool n, .slice A k k]) (by simp [results, Tryz.results79, go_sem, c1a, c1b]) rfl ⟨n, rfl, ⟨?_, HS.out, ?_⟩, (by repeat (first | exact hX.out | refine Ext.drew ?_ | refine Ext.drewN ?_ _ | refine Ext.setCell ?_ (by first | exact Nat.le_refl _ | (simp only []; omega)) _ | refine Ext.alloc ?_ _))⟩
  · rw [Int.natAbs_neg]; exact (HN.out.nat.setBool c1a _).setBox y1 _
  · rw [Int.natAbs_neg]; exact HN.out.bits

/-- A number that is not too long, and the code. -/
def fitN (n : Nat) : Nat := if bitsN n ≤ 4096 then n else 0
def codeN (n : Nat) : Int := if bitsN n ≤ 4096 then 0 else 3
def fitZ (z : Int) : Int := if bitsN z.natAbs ≤ 4096 then z else 0
def codeZ (z : Int) : Int := if bitsN z.natAbs ≤ 4096 then 0 else 3
theorem fitN_bits (n : Nat) : bitsN (fitN n) ≤ 4096 := by unfold fitN; split; assumption; simp [bitsN]
theorem fitZ_abs (z : Int) : (fitZ z).natAbs = fitN z.natAbs := by unfold fitZ fitN; split <;> rfl
theorem codeZ_abs (z : Int) : codeZ z = codeN z.natAbs := rfl
theorem bitsN_mono {a b : Nat} (h : a ≤ b) : bitsN a ≤ bitsN b := (bitsN_le a _).2 (Nat.lt_of_le_of_lt h ((bitsN_le b _).1 (Nat.le_refl _)))

theorem Mul_any (A B : Option Addr) (k m a b : Nat) (w : World) (ha : IsNat w A k a) (hb : IsNat w B m b) (hA : bitsN a ≤ 4096) (hB : bitsN b ≤ 4096) :
    Calls Tryz.prog 76 #[.agg #[.slice A k k], .agg #[.slice B m m]] w fun e w' => ∃ A' k', e = .returned (.tuple #[.agg #[.slice A' k' k'], .int .i64 (codeN (a * b))]) ∧ IsNat w' A' k' (fitN (a * b)) ∧ Ext w w' := by
  have hk := isNat_k ha hA
  have hm := isNat_k hb hB
  unfold fitN codeN
  split
  · rename_i h
    exact (Mul_ok A B k m a b w ha hb (by omega) (by omega) hA hB h).mono fun e w' ⟨A', k', he, hn, _, hx⟩ => ⟨A', k', he, hn, hx⟩
  · exact (Mul_long A B k m a b w ha hb (by omega) (by omega) (by omega)).mono fun e w' ⟨he, hx⟩ => ⟨none, 0, he, isNat_zero _, hx⟩
theorem Add_any (A B : Option Addr) (k m a b : Nat) (w : World) (ha : IsNat w A k a) (hb : IsNat w B m b) (hA : bitsN a ≤ 4096) (hB : bitsN b ≤ 4096) :
    Calls Tryz.prog 101 #[.agg #[.slice A k k], .agg #[.slice B m m]] w fun e w' => ∃ A' k', e = .returned (.tuple #[.agg #[.slice A' k' k'], .int .i64 (codeN (a + b))]) ∧ IsNat w' A' k' (fitN (a + b)) ∧ Ext w w' := by
  have hk := isNat_k ha hA
  have hm := isNat_k hb hB
  unfold fitN codeN
  split
  · rename_i h
    exact (Add_ok A B k m a b w ha hb (by omega) (by omega) h).mono fun e w' ⟨A', k', he, hn, _, hx⟩ => ⟨A', k', he, hn, hx⟩
  · exact (Add_long A B k m a b w ha hb (by omega) (by omega) (by omega)).mono fun e w' ⟨he, hx⟩ => ⟨none, 0, he, isNat_zero _, hx⟩
end Go.Proofs.YtiihnoelclnahaaGreatDoor
