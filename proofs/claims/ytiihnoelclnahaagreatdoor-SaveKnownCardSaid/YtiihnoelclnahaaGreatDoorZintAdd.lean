/- zint.Add, zint.Sub. -/
import Derived.Test.YtiihnoelclnahaaGreatDoorZintMul
import Derived.Test.YtiihnoelclnahaaGreatDoorNatSub
namespace Go.Proofs.YtiihnoelclnahaaGreatDoor
set_option linter.unusedSimpArgs false
open Go.RowKit
set_option linter.unusedVariables false

theorem add_same (a b : Int) (h : decide (a < 0) = decide (b < 0)) : (a + b).natAbs = a.natAbs + b.natAbs ∧ (decide (a < 0) && decide (fitN (a.natAbs + b.natAbs) ≠ 0)) = decide (fitZ (a + b) < 0) := by
  have h1 : (a < 0 ↔ b < 0) := by simpa using h
  have e : (a + b).natAbs = a.natAbs + b.natAbs := by omega
  refine ⟨e, ?_⟩
  have hz : (fitZ (a + b)).natAbs = fitN (a.natAbs + b.natAbs) := by rw [fitZ_abs, e]
  rw [← hz]
  by_cases h0 : fitZ (a + b) = 0
  · rw [h0]; simp
  · have h2 : fitZ (a + b) = a + b := by
      unfold fitZ at h0 ⊢
      split
      · rfl
      · rename_i h; rw [if_neg h] at h0; exact absurd rfl h0
    rw [h2] at h0 ⊢
    have h3 : decide ((a + b).natAbs ≠ 0) = true := by simp; omega
    rw [h3, Bool.and_true]
    by_cases h4 : a < 0
    · have e1 : decide (a < 0) = true := by simpa using h4
      have e2 : decide (a + b < 0) = true := by simp; omega
      rw [e1, e2]
    · have e1 : decide (a < 0) = false := by simpa using h4
      have e2 : decide (a + b < 0) = false := by simp; omega
      rw [e1, e2]

theorem add_diff (a b : Int) (h : decide (a < 0) ≠ decide (b < 0)) (hab : b.natAbs ≤ a.natAbs) (ha : bitsN a.natAbs ≤ 4096) :
    (fitZ (a + b)).natAbs = a.natAbs - b.natAbs ∧ codeZ (a + b) = 0 ∧ bitsN (a.natAbs - b.natAbs) ≤ 4096 ∧ (decide (a < 0) && decide (a.natAbs - b.natAbs ≠ 0)) = decide (fitZ (a + b) < 0) := by
  have h1 : ¬ (a < 0 ↔ b < 0) := by simpa using h
  have e : (a + b).natAbs = a.natAbs - b.natAbs := by omega
  have hb : bitsN (a.natAbs - b.natAbs) ≤ 4096 := Nat.le_trans (bitsN_mono (Nat.sub_le _ _)) ha
  have hf : fitZ (a + b) = a + b := by unfold fitZ; rw [e, if_pos hb]
  have hc : codeZ (a + b) = 0 := by unfold codeZ; rw [e, if_pos hb]
  rw [hf, hc]
  refine ⟨e, rfl, hb, ?_⟩
  rw [← e]
  by_cases h0 : a + b = 0
  · rw [h0]; simp
  · have h3 : decide ((a + b).natAbs ≠ 0) = true := by simp; omega
    rw [h3, Bool.and_true]
    by_cases h4 : a < 0
    · have e1 : decide (a < 0) = true := by simpa using h4
      have e2 : decide (a + b < 0) = true := by simp; omega
      rw [e1, e2]
    · have e1 : decide (a < 0) = false := by simpa using h4
      have e2 : decide (a + b < 0) = false := by simp; omega
      rw [e1, e2]

theorem zAdd_same (ng : Bool) (A B : Option Addr) (k m : Nat) (a b : Int) (w : World) (ha : IsInt w ng A k a) (hb : IsInt w ng B m b) :
    Calls Tryz.prog 78 #[.agg #[.bool ng, .slice A k k], .agg #[.bool ng, .slice B m m]] w fun e w' => ∃ n A' k', e = .returned (.tuple #[.agg #[.bool n, .slice A' k' k'], .int .i64 (codeZ (a + b))]) ∧ IsInt w' n A' k' (fitZ (a + b)) ∧ Ext w w' := by
  obtain ⟨W0, hWW0⟩ : ∃ W0 : World, ((w.alloc (.cells #[.bool ng, .slice A k k] 104)).alloc (.cells #[.bool ng, .slice B m m] 104)).alloc (.cells #[.bool false, .slice none 0 0] 104) = W0 := ⟨_, rfl⟩
  have hXW0 : Ext w W0 := by rw [← hWW0]; exact ((((Ext.refl w).alloc _).alloc _).alloc _)
  have hsW0 : w.heap.size + 3 ≤ W0.heap.size := by rw [← hWW0]; simp only [World.size_alloc]; omega
  have c0a : W0.cell? ⟨w.heap.size, 0, none⟩ = some (.bool ng) := by rw [← hWW0]; simp [go_sem]
  have f0a : W0.frozen? ⟨w.heap.size, 0, none⟩ = false := by rw [← hWW0]; simp [go_sem]
  have c0b : W0.cell? ⟨w.heap.size, 1, none⟩ = some (.slice A k k) := by rw [← hWW0]; simp [go_sem]
  have f0b : W0.frozen? ⟨w.heap.size, 1, none⟩ = false := by rw [← hWW0]; simp [go_sem]
  have c1a : W0.cell? ⟨w.heap.size + 1, 0, none⟩ = some (.bool ng) := by rw [← hWW0]; simp [go_sem]
  have f1a : W0.frozen? ⟨w.heap.size + 1, 0, none⟩ = false := by rw [← hWW0]; simp [go_sem]
  have c1b : W0.cell? ⟨w.heap.size + 1, 1, none⟩ = some (.slice B m m) := by rw [← hWW0]; simp [go_sem]
  have f1b : W0.frozen? ⟨w.heap.size + 1, 1, none⟩ = false := by rw [← hWW0]; simp [go_sem]
  have c2a : W0.cell? ⟨w.heap.size + 1 + 1, 0, none⟩ = some (.bool false) := by rw [← hWW0]; simp [go_sem]
  have f2a : W0.frozen? ⟨w.heap.size + 1 + 1, 0, none⟩ = false := by rw [← hWW0]; simp [go_sem]
  have c2b : W0.cell? ⟨w.heap.size + 1 + 1, 1, none⟩ = some (.slice none 0 0) := by rw [← hWW0]; simp [go_sem]
  have f2b : W0.frozen? ⟨w.heap.size + 1 + 1, 1, none⟩ = false := by rw [← hWW0]; simp [go_sem]
  have HWW0 := Lib.hid hWW0
  clear hWW0
  have HX := Lib.hid hXW0
  have HC := Lib.hid (Add_any A B k m a.natAbs b.natAbs W0 (ha.nat.ext hXW0) (hb.nat.ext hXW0) ha.bits hb.bits)
  have hsm := add_same a b (ha.sign.symm.trans hb.sign)
  have HS : Hid ((ng && decide (fitN (a.natAbs + b.natAbs) ≠ 0)) = decide (fitZ (a + b) < 0)) := by have := hsm.2; rw [← ha.sign] at this; exact this
  have HE : Hid (codeN (a.natAbs + b.natAbs) = codeZ (a + b) ∧ fitN (a.natAbs + b.natAbs) = (fitZ (a + b)).natAbs) := ⟨by rw [codeZ_abs, hsm.1], by rw [fitZ_abs, hsm.1]⟩
  have hbb : (ng == ng) = true := by simp
  clear hXW0 ha hb hsm
  obtain ⟨c, hc⟩ : ∃ c, codeN (a.natAbs + b.natAbs) = c := ⟨_, rfl⟩
  obtain ⟨p, hp⟩ : ∃ p, fitN (a.natAbs + b.natAbs) = p := ⟨_, rfl⟩
  have HB : Hid (bitsN p ≤ 4096) := by rw [← hp]; exact fitN_bits _
  rw [hc, hp] at HC HE
  rw [hp] at HS
  rw [← HE.out.1]
  clear hc hp
  go_enter Tryz.func78, Tryz.ntmps78
  go_wp2_with fail
  rw [HWW0.out]
  refine HC.out.mono ?_
  rintro e w1 ⟨A', k', rfl, hn, hx⟩
  replace c0a := hx.cell c0a
  replace f2a := hx.free f2a (lt_of_cell c2a)
  replace c2a := hx.cell c2a
  replace f2b := hx.free f2b (lt_of_cell c2b)
  replace c2b := hx.cell c2b
  have hX := Lib.hid (HX.out.trans hx)
  have HN := Lib.hid hn
  have hs1 : w.heap.size + 3 ≤ w1.heap.size := Nat.le_trans hsW0 hx.size
  clear hx hn HX HC HWW0 c0b c1a c1b f0a f0b f1a f1b hsW0
  have l0 : w.heap.size < w1.heap.size := by omega
  have l1 : w.heap.size + 1 < w1.heap.size := by omega
  have l2 : w.heap.size + 1 + 1 < w1.heap.size := by omega
  go_wp2_with fail
  obtain ⟨W1, hWW1⟩ : ∃ W1 : World, w1.alloc (.cells #[.slice A' k' k'] 102) = W1 := ⟨_, rfl⟩
  have hXW1 : Ext w1 W1 := by rw [← hWW1]; exact ((Ext.refl w1).alloc _)
  have hsW1 : w1.heap.size + 1 ≤ W1.heap.size := by rw [← hWW1]; simp only [World.size_alloc]; omega
  have cd0 : W1.cell? ⟨w1.heap.size, 0, none⟩ = some (.slice A' k' k') := by rw [← hWW1]; simp [go_sem]
  have fd0 : W1.frozen? ⟨w1.heap.size, 0, none⟩ = false := by rw [← hWW1]; simp [go_sem]
  have HWW1 := Lib.hid hWW1
  clear hWW1
  rw [HWW1.out]
  replace f2a := hXW1.free f2a (lt_of_cell c2a)
  replace c2a := hXW1.cell c2a
  replace f2b := hXW1.free f2b (lt_of_cell c2b)
  replace c2b := hXW1.cell c2b
  have HM := Lib.hid (Make_any ng A' k' p W1 (HN.out.ext hXW1) HB.out)
  have HN1 := Lib.hid (HN.out.ext hXW1)
  have hX1 := Lib.hid (hX.out.trans hXW1)
  clear hXW1 HWW1 hX HN hs1 l0 l1 l2 hsW1 c0a cd0 fd0
  refine HM.out.mono ?_
  rintro e w2 ⟨rfl, hx⟩
  replace f2a := hx.free f2a (lt_of_cell c2a)
  replace c2a := hx.cell c2a
  replace f2b := hx.free f2b (lt_of_cell c2b)
  replace c2b := hx.cell c2b
  have hX2 := Lib.hid (hX1.out.trans hx)
  have HN2 := Lib.hid (HN1.out.ext hx)
  clear hx hX1 HN1 HM
  obtain ⟨n, hn⟩ : ∃ n, (ng && decide (p ≠ 0)) = n := ⟨_, rfl⟩
  rw [hn] at HS ⊢
  clear hn
  have y1 : (w2.setCell ⟨w.heap.size + 1 + 1, 0, none⟩ (.bool n)).cell? ⟨w.heap.size + 1 + 1, 1, none⟩ = some (.slice none 0 0) := by
    rw [World.cell?_setCell_other _ _ _ _ (by simp)]; exact c2b
  go_wp2
  refine bodyPost_ret (v := .tuple #[.agg #[.bool n, .slice A' k' k'], .int .i64 c]) (by simp [results, Tryz.results78, go_sem, c2a, c2b]) rfl ⟨n, A', k', rfl, ⟨?_, HS.out, ?_⟩, (by repeat (first | exact hX2.out | refine Ext.drew ?_ | refine Ext.drewN ?_ _ | refine Ext.setCell ?_ (by first | exact Nat.le_refl _ | (simp only []; omega)) _ | refine Ext.alloc ?_ _))⟩
  · rw [← HE.out.2]; exact (HN2.out.setBool c2a _).setBox y1 _
  · rw [← HE.out.2]; exact HB.out

theorem zAdd_diff (na nb : Bool) (A B : Option Addr) (k m : Nat) (a b : Int) (w : World) (ha : IsInt w na A k a) (hb : IsInt w nb B m b) (hne : (na == nb) = false) (hab : b.natAbs ≤ a.natAbs) :
    Calls Tryz.prog 78 #[.agg #[.bool na, .slice A k k], .agg #[.bool nb, .slice B m m]] w fun e w' => ∃ n A' k', e = .returned (.tuple #[.agg #[.bool n, .slice A' k' k'], .int .i64 (codeZ (a + b))]) ∧ IsInt w' n A' k' (fitZ (a + b)) ∧ Ext w w' := by
  obtain ⟨W0, hWW0⟩ : ∃ W0 : World, ((w.alloc (.cells #[.bool na, .slice A k k] 104)).alloc (.cells #[.bool nb, .slice B m m] 104)).alloc (.cells #[.bool false, .slice none 0 0] 104) = W0 := ⟨_, rfl⟩
  have hXW0 : Ext w W0 := by rw [← hWW0]; exact ((((Ext.refl w).alloc _).alloc _).alloc _)
  have hsW0 : w.heap.size + 3 ≤ W0.heap.size := by rw [← hWW0]; simp only [World.size_alloc]; omega
  have c0a : W0.cell? ⟨w.heap.size, 0, none⟩ = some (.bool na) := by rw [← hWW0]; simp [go_sem]
  have f0a : W0.frozen? ⟨w.heap.size, 0, none⟩ = false := by rw [← hWW0]; simp [go_sem]
  have c0b : W0.cell? ⟨w.heap.size, 1, none⟩ = some (.slice A k k) := by rw [← hWW0]; simp [go_sem]
  have f0b : W0.frozen? ⟨w.heap.size, 1, none⟩ = false := by rw [← hWW0]; simp [go_sem]
  have c1a : W0.cell? ⟨w.heap.size + 1, 0, none⟩ = some (.bool nb) := by rw [← hWW0]; simp [go_sem]
  have f1a : W0.frozen? ⟨w.heap.size + 1, 0, none⟩ = false := by rw [← hWW0]; simp [go_sem]
  have c1b : W0.cell? ⟨w.heap.size + 1, 1, none⟩ = some (.slice B m m) := by rw [← hWW0]; simp [go_sem]
  have f1b : W0.frozen? ⟨w.heap.size + 1, 1, none⟩ = false := by rw [← hWW0]; simp [go_sem]
  have c2a : W0.cell? ⟨w.heap.size + 1 + 1, 0, none⟩ = some (.bool false) := by rw [← hWW0]; simp [go_sem]
  have f2a : W0.frozen? ⟨w.heap.size + 1 + 1, 0, none⟩ = false := by rw [← hWW0]; simp [go_sem]
  have c2b : W0.cell? ⟨w.heap.size + 1 + 1, 1, none⟩ = some (.slice none 0 0) := by rw [← hWW0]; simp [go_sem]
  have f2b : W0.frozen? ⟨w.heap.size + 1 + 1, 1, none⟩ = false := by rw [← hWW0]; simp [go_sem]
  have HWW0 := Lib.hid hWW0
  clear hWW0
  have hk := ha.k
  have hm := hb.k
  have HX := Lib.hid hXW0
  have HC := Lib.hid (Cmp_any A B k m a.natAbs b.natAbs W0 (ha.nat.ext hXW0) (hb.nat.ext hXW0) (by omega) (by omega))
  have HSub := Lib.hid (fun W (h : Ext W0 W) => Sub_ok A B k m a.natAbs b.natAbs W ((ha.nat.ext hXW0).ext h) ((hb.nat.ext hXW0).ext h) (by omega) (by omega) hab)
  have hdf := add_diff a b (by rw [← ha.sign, ← hb.sign]; simpa using hne) hab ha.bits
  rw [← ha.sign] at hdf
  have HD := Lib.hid hdf
  obtain ⟨c, hc⟩ : ∃ c, cmpN a.natAbs b.natAbs = c := ⟨_, rfl⟩
  have hc0 : 0 ≤ c := by rw [← hc]; unfold cmpN; rw [if_neg (by omega)]; split <;> omega
  have hcd : decide (c < 0) = false := by simp; omega
  rw [hc] at HC
  rw [HD.out.2.1]
  obtain ⟨p, hp⟩ : ∃ p, a.natAbs - b.natAbs = p := ⟨_, rfl⟩
  rw [hp] at HD HSub
  clear hXW0 ha hb hdf hc hp hab
  go_enter Tryz.func78, Tryz.ntmps78
  go_wp2_with fail
  rw [HWW0.out]
  refine HC.out.mono ?_
  rintro e w1 ⟨rfl, hx⟩
  replace c0a := hx.cell c0a
  replace c0b := hx.cell c0b
  replace c1a := hx.cell c1a
  replace c1b := hx.cell c1b
  replace f2a := hx.free f2a (lt_of_cell c2a)
  replace c2a := hx.cell c2a
  replace f2b := hx.free f2b (lt_of_cell c2b)
  replace c2b := hx.cell c2b
  have hX := Lib.hid (HX.out.trans hx)
  have HSb := Lib.hid (HSub.out w1 hx)
  have hs1 : w.heap.size + 3 ≤ w1.heap.size := Nat.le_trans hsW0 hx.size
  clear hx HX HC HWW0 f0a f0b f1a f1b hsW0 HSub
  go_wp2_with fail
  refine HSb.out.mono ?_
  rintro e w3 ⟨A', k', rfl, hn, _, hx⟩
  replace c0a := hx.cell c0a
  replace f2a := hx.free f2a (lt_of_cell c2a)
  replace c2a := hx.cell c2a
  replace f2b := hx.free f2b (lt_of_cell c2b)
  replace c2b := hx.cell c2b
  have hX3 := Lib.hid (hX.out.trans hx)
  have HN := Lib.hid hn
  have hs3 : w.heap.size + 3 ≤ w3.heap.size := Nat.le_trans hs1 hx.size
  clear hx hn hX HSb c0b c1a c1b hs1
  have l0 : w.heap.size < w3.heap.size := by omega
  have l1 : w.heap.size + 1 < w3.heap.size := by omega
  have l2 : w.heap.size + 1 + 1 < w3.heap.size := by omega
  go_wp2_with fail
  obtain ⟨W1, hWW1⟩ : ∃ W1 : World, w3.alloc (.cells #[.slice A' k' k'] 102) = W1 := ⟨_, rfl⟩
  have hXW1 : Ext w3 W1 := by rw [← hWW1]; exact ((Ext.refl w3).alloc _)
  have hsW1 : w3.heap.size + 1 ≤ W1.heap.size := by rw [← hWW1]; simp only [World.size_alloc]; omega
  have cd0 : W1.cell? ⟨w3.heap.size, 0, none⟩ = some (.slice A' k' k') := by rw [← hWW1]; simp [go_sem]
  have fd0 : W1.frozen? ⟨w3.heap.size, 0, none⟩ = false := by rw [← hWW1]; simp [go_sem]
  have HWW1 := Lib.hid hWW1
  clear hWW1
  rw [HWW1.out]
  replace f2a := hXW1.free f2a (lt_of_cell c2a)
  replace c2a := hXW1.cell c2a
  replace f2b := hXW1.free f2b (lt_of_cell c2b)
  replace c2b := hXW1.cell c2b
  have HM := Lib.hid (Make_any na A' k' p W1 (HN.out.ext hXW1) HD.out.2.2.1)
  have HN1 := Lib.hid (HN.out.ext hXW1)
  have hX1 := Lib.hid (hX3.out.trans hXW1)
  clear hXW1 HWW1 hX3 HN hs3 l0 l1 l2 hsW1 c0a cd0 fd0
  refine HM.out.mono ?_
  rintro e w2 ⟨rfl, hx⟩
  replace f2a := hx.free f2a (lt_of_cell c2a)
  replace c2a := hx.cell c2a
  replace f2b := hx.free f2b (lt_of_cell c2b)
  replace c2b := hx.cell c2b
  have hX2 := Lib.hid (hX1.out.trans hx)
  have HN2 := Lib.hid (HN1.out.ext hx)
  clear hx hX1 HN1 HM
  have HS : Hid ((na && decide (p ≠ 0)) = decide (fitZ (a + b) < 0)) := HD.out.2.2.2
  obtain ⟨n, hn⟩ : ∃ n, (na && decide (p ≠ 0)) = n := ⟨_, rfl⟩
  rw [hn] at HS ⊢
  clear hn
  have y1 : (w2.setCell ⟨w.heap.size + 1 + 1, 0, none⟩ (.bool n)).cell? ⟨w.heap.size + 1 + 1, 1, none⟩ = some (.slice none 0 0) := by
    rw [World.cell?_setCell_other _ _ _ _ (by simp)]; exact c2b
  go_wp2
  refine bodyPost_ret (v := .tuple #[.agg #[.bool n, .slice A' k' k'], .int .i64 0]) (by simp [results, Tryz.results78, go_sem, c2a, c2b]) rfl ⟨n, A', k', rfl, ⟨?_, HS.out, ?_⟩, (by repeat (first | exact hX2.out | refine Ext.drew ?_ | refine Ext.drewN ?_ _ | refine Ext.setCell ?_ (by first | exact Nat.le_refl _ | (simp only []; omega)) _ | refine Ext.alloc ?_ _))⟩
  · rw [HD.out.1]; exact (HN2.out.setBool c2a _).setBox y1 _
  · rw [HD.out.1]; exact HD.out.2.2.1

set_option maxHeartbeats 1000000 in
theorem zAdd_swap (na nb : Bool) (A B : Option Addr) (k m : Nat) (a b : Int) (w : World) (ha : IsInt w na A k a) (hb : IsInt w nb B m b) (hne : (na == nb) = false) (hab : a.natAbs < b.natAbs) :
    Calls Tryz.prog 78 #[.agg #[.bool na, .slice A k k], .agg #[.bool nb, .slice B m m]] w fun e w' => ∃ n A' k', e = .returned (.tuple #[.agg #[.bool n, .slice A' k' k'], .int .i64 (codeZ (b + a))]) ∧ IsInt w' n A' k' (fitZ (b + a)) ∧ Ext w w' := by
  obtain ⟨W0, hWW0⟩ : ∃ W0 : World, ((w.alloc (.cells #[.bool na, .slice A k k] 104)).alloc (.cells #[.bool nb, .slice B m m] 104)).alloc (.cells #[.bool false, .slice none 0 0] 104) = W0 := ⟨_, rfl⟩
  have hXW0 : Ext w W0 := by rw [← hWW0]; exact ((((Ext.refl w).alloc _).alloc _).alloc _)
  have hsW0 : w.heap.size + 3 ≤ W0.heap.size := by rw [← hWW0]; simp only [World.size_alloc]; omega
  have c0a : W0.cell? ⟨w.heap.size, 0, none⟩ = some (.bool na) := by rw [← hWW0]; simp [go_sem]
  have f0a : W0.frozen? ⟨w.heap.size, 0, none⟩ = false := by rw [← hWW0]; simp [go_sem]
  have c0b : W0.cell? ⟨w.heap.size, 1, none⟩ = some (.slice A k k) := by rw [← hWW0]; simp [go_sem]
  have f0b : W0.frozen? ⟨w.heap.size, 1, none⟩ = false := by rw [← hWW0]; simp [go_sem]
  have c1a : W0.cell? ⟨w.heap.size + 1, 0, none⟩ = some (.bool nb) := by rw [← hWW0]; simp [go_sem]
  have f1a : W0.frozen? ⟨w.heap.size + 1, 0, none⟩ = false := by rw [← hWW0]; simp [go_sem]
  have c1b : W0.cell? ⟨w.heap.size + 1, 1, none⟩ = some (.slice B m m) := by rw [← hWW0]; simp [go_sem]
  have f1b : W0.frozen? ⟨w.heap.size + 1, 1, none⟩ = false := by rw [← hWW0]; simp [go_sem]
  have c2a : W0.cell? ⟨w.heap.size + 1 + 1, 0, none⟩ = some (.bool false) := by rw [← hWW0]; simp [go_sem]
  have f2a : W0.frozen? ⟨w.heap.size + 1 + 1, 0, none⟩ = false := by rw [← hWW0]; simp [go_sem]
  have c2b : W0.cell? ⟨w.heap.size + 1 + 1, 1, none⟩ = some (.slice none 0 0) := by rw [← hWW0]; simp [go_sem]
  have f2b : W0.frozen? ⟨w.heap.size + 1 + 1, 1, none⟩ = false := by rw [← hWW0]; simp [go_sem]
  have HWW0 := Lib.hid hWW0
  clear hWW0
  have hk := ha.k
  have hm := hb.k
  have HX := Lib.hid hXW0
  have HC := Lib.hid (Cmp_any A B k m a.natAbs b.natAbs W0 (ha.nat.ext hXW0) (hb.nat.ext hXW0) (by omega) (by omega))
  have HA := Lib.hid (ha.nat.ext hXW0)
  have HB := Lib.hid (hb.nat.ext hXW0)
  have hdf := add_diff b a (by rw [← ha.sign, ← hb.sign]; intro h; rw [h] at hne; simp at hne) (by omega) hb.bits
  rw [← hb.sign] at hdf
  have HD := Lib.hid hdf
  have hc1 : cmpN a.natAbs b.natAbs = -1 := if_pos hab
  rw [hc1] at HC
  rw [HD.out.2.1]
  have HSub := Lib.hid (fun W (h1 : IsNat W A k a.natAbs) (h2 : IsNat W B m b.natAbs) => Sub_ok B A m k b.natAbs a.natAbs W h2 h1 (by omega) (by omega) (by omega))
  obtain ⟨p, hp⟩ : ∃ p, b.natAbs - a.natAbs = p := ⟨_, rfl⟩
  rw [hp] at HD HSub
  clear hXW0 ha hb hdf hp hab hc1
  go_enter Tryz.func78, Tryz.ntmps78
  go_wp2_with fail
  rw [HWW0.out]
  refine HC.out.mono ?_
  rintro e w1 ⟨rfl, hx⟩
  replace f0a := hx.free f0a (lt_of_cell c0a)
  replace c0a := hx.cell c0a
  replace f0b := hx.free f0b (lt_of_cell c0b)
  replace c0b := hx.cell c0b
  replace f1a := hx.free f1a (lt_of_cell c1a)
  replace c1a := hx.cell c1a
  replace f1b := hx.free f1b (lt_of_cell c1b)
  replace c1b := hx.cell c1b
  replace f2a := hx.free f2a (lt_of_cell c2a)
  replace c2a := hx.cell c2a
  replace f2b := hx.free f2b (lt_of_cell c2b)
  replace c2b := hx.cell c2b
  have hX := Lib.hid (HX.out.trans hx)
  have HA1 := Lib.hid (HA.out.ext hx)
  have HB1 := Lib.hid (HB.out.ext hx)
  have hs1 : w.heap.size + 3 ≤ w1.heap.size := Nat.le_trans hsW0 hx.size
  clear hx HX HC HWW0 hsW0 HA HB
  go_wp2_with fail
  obtain ⟨W2, hWW2⟩ : ∃ W2 : World, (((w1.setCell ⟨w.heap.size, 0, none⟩ (.bool nb)).setCell ⟨w.heap.size, 1, none⟩ (.slice B m m)).setCell ⟨w.heap.size + 1, 0, none⟩ (.bool na)).setCell ⟨w.heap.size + 1, 1, none⟩ (.slice A k k) = W2 := ⟨_, rfl⟩
  have z0a : W2.cell? ⟨w.heap.size, 0, none⟩ = some (.bool nb) := by rw [← hWW2]; simp [go_sem, c0a, c0b, c1a, c1b, c2a, c2b]
  have zf0a : W2.frozen? ⟨w.heap.size, 0, none⟩ = false := by rw [← hWW2]; simp [go_sem, f0a, f0b, f1a, f1b, f2a, f2b]
  have z0b : W2.cell? ⟨w.heap.size, 1, none⟩ = some (.slice B m m) := by rw [← hWW2]; simp [go_sem, c0a, c0b, c1a, c1b, c2a, c2b]
  have zf0b : W2.frozen? ⟨w.heap.size, 1, none⟩ = false := by rw [← hWW2]; simp [go_sem, f0a, f0b, f1a, f1b, f2a, f2b]
  have z1a : W2.cell? ⟨w.heap.size + 1, 0, none⟩ = some (.bool na) := by rw [← hWW2]; simp [go_sem, c0a, c0b, c1a, c1b, c2a, c2b]
  have zf1a : W2.frozen? ⟨w.heap.size + 1, 0, none⟩ = false := by rw [← hWW2]; simp [go_sem, f0a, f0b, f1a, f1b, f2a, f2b]
  have z1b : W2.cell? ⟨w.heap.size + 1, 1, none⟩ = some (.slice A k k) := by rw [← hWW2]; simp [go_sem, c0a, c0b, c1a, c1b, c2a, c2b]
  have zf1b : W2.frozen? ⟨w.heap.size + 1, 1, none⟩ = false := by rw [← hWW2]; simp [go_sem, f0a, f0b, f1a, f1b, f2a, f2b]
  have z2a : W2.cell? ⟨w.heap.size + 1 + 1, 0, none⟩ = some (.bool false) := by rw [← hWW2]; simp [go_sem, c0a, c0b, c1a, c1b, c2a, c2b]
  have zf2a : W2.frozen? ⟨w.heap.size + 1 + 1, 0, none⟩ = false := by rw [← hWW2]; simp [go_sem, f0a, f0b, f1a, f1b, f2a, f2b]
  have z2b : W2.cell? ⟨w.heap.size + 1 + 1, 1, none⟩ = some (.slice none 0 0) := by rw [← hWW2]; simp [go_sem, c0a, c0b, c1a, c1b, c2a, c2b]
  have zf2b : W2.frozen? ⟨w.heap.size + 1 + 1, 1, none⟩ = false := by rw [← hWW2]; simp [go_sem, f0a, f0b, f1a, f1b, f2a, f2b]
  have znW2 : ∀ (A : Option Addr) (k n : Nat), IsNat w1 A k n → IsNat W2 A k n := by intro A k n h; rw [← hWW2]; exact ((((h.setBool c0a _).setBox (by rw [World.cell?_setCell_other _ _ _ _ (by intro h; injection h with h1 h2; omega)]; exact c0b) _).setBool (by rw [World.cell?_setCell_other _ _ _ _ (by intro h; injection h with h1 h2; omega), World.cell?_setCell_other _ _ _ _ (by intro h; injection h with h1 h2; omega)]; exact c1a) _).setBox (by rw [World.cell?_setCell_other _ _ _ _ (by intro h; injection h with h1 h2; omega), World.cell?_setCell_other _ _ _ _ (by intro h; injection h with h1 h2; omega), World.cell?_setCell_other _ _ _ _ (by intro h; injection h with h1 h2; omega)]; exact c1b) _)
  have zxW2 : ∀ a : World, Ext a w1 → a.heap.size ≤ w.heap.size → Ext a W2 := by intro a h hs; rw [← hWW2]; exact (by repeat (first | exact h | refine Ext.drew ?_ | refine Ext.drewN ?_ _ | refine Ext.setCell ?_ (by first | exact Nat.le_refl _ | (simp only []; omega)) _ | refine Ext.alloc ?_ _))
  have HWW2 := Lib.hid hWW2
  clear hWW2
  have hX2 : Hid (Ext w W2) := by rw [← HWW2.out]; exact (by repeat (first | exact hX.out | refine Ext.drew ?_ | refine Ext.drewN ?_ _ | refine Ext.setCell ?_ (by first | exact Nat.le_refl _ | (simp only []; omega)) _ | refine Ext.alloc ?_ _))
  have y1 : (w1.setCell ⟨w.heap.size, 0, none⟩ (.bool nb)).cell? ⟨w.heap.size, 1, none⟩ = some (.slice A k k) := by
    rw [World.cell?_setCell_other _ _ _ _ (by simp)]; exact c0b
  have y2 : ((w1.setCell ⟨w.heap.size, 0, none⟩ (.bool nb)).setCell ⟨w.heap.size, 1, none⟩ (.slice B m m)).cell? ⟨w.heap.size + 1, 0, none⟩ = some (.bool nb) := by
    rw [World.cell?_setCell_other _ _ _ _ (by simp), World.cell?_setCell_other _ _ _ _ (by simp)]; exact c1a
  have y3 : (((w1.setCell ⟨w.heap.size, 0, none⟩ (.bool nb)).setCell ⟨w.heap.size, 1, none⟩ (.slice B m m)).setCell ⟨w.heap.size + 1, 0, none⟩ (.bool na)).cell? ⟨w.heap.size + 1, 1, none⟩ = some (.slice B m m) := by
    rw [World.cell?_setCell_other _ _ _ _ (by simp), World.cell?_setCell_other _ _ _ _ (by simp), World.cell?_setCell_other _ _ _ _ (by simp)]; exact c1b
  have HA2 : Hid (IsNat W2 A k a.natAbs) := by rw [← HWW2.out]; exact (((HA1.out.setBool c0a _).setBox y1 _).setBool y2 _).setBox y3 _
  have HB2 : Hid (IsNat W2 B m b.natAbs) := by rw [← HWW2.out]; exact (((HB1.out.setBool c0a _).setBox y1 _).setBool y2 _).setBox y3 _
  have hs2 : w.heap.size + 3 ≤ W2.heap.size := by rw [← HWW2.out]; simpa [World.setCell] using hs1
  clear y1 y2 y3 c0a c0b c1a c1b c2a c2b f0a f0b f1a f1b f2a f2b HA1 HB1 hs1 hX
  rw [HWW2.out]
  clear HWW2
  have HSb := Lib.hid (HSub.out W2 HA2.out HB2.out)
  refine HSb.out.mono ?_
  rintro e w3 ⟨A', k', rfl, hn, _, hx⟩
  replace z0a := hx.cell z0a
  replace zf2a := hx.free zf2a (lt_of_cell z2a)
  replace z2a := hx.cell z2a
  replace zf2b := hx.free zf2b (lt_of_cell z2b)
  replace z2b := hx.cell z2b
  have hX3 := Lib.hid (hX2.out.trans hx)
  have HN := Lib.hid hn
  have hs3 : w.heap.size + 3 ≤ w3.heap.size := Nat.le_trans hs2 hx.size
  clear hx hn hX2 HSb z0b z1a z1b hs2 zf0a zf0b zf1a zf1b HSub HA2 HB2
  have l0 : w.heap.size < w3.heap.size := by omega
  have l1 : w.heap.size + 1 < w3.heap.size := by omega
  have l2 : w.heap.size + 1 + 1 < w3.heap.size := by omega
  go_wp2_with fail
  obtain ⟨W1, hWW1⟩ : ∃ W1 : World, w3.alloc (.cells #[.slice A' k' k'] 102) = W1 := ⟨_, rfl⟩
  have hXW1 : Ext w3 W1 := by rw [← hWW1]; exact ((Ext.refl w3).alloc _)
  have hsW1 : w3.heap.size + 1 ≤ W1.heap.size := by rw [← hWW1]; simp only [World.size_alloc]; omega
  have cd0 : W1.cell? ⟨w3.heap.size, 0, none⟩ = some (.slice A' k' k') := by rw [← hWW1]; simp [go_sem]
  have fd0 : W1.frozen? ⟨w3.heap.size, 0, none⟩ = false := by rw [← hWW1]; simp [go_sem]
  have HWW1 := Lib.hid hWW1
  clear hWW1
  rw [HWW1.out]
  replace zf2a := hXW1.free zf2a (lt_of_cell z2a)
  replace z2a := hXW1.cell z2a
  replace zf2b := hXW1.free zf2b (lt_of_cell z2b)
  replace z2b := hXW1.cell z2b
  have HM := Lib.hid (Make_any nb A' k' p W1 (HN.out.ext hXW1) HD.out.2.2.1)
  have HN1 := Lib.hid (HN.out.ext hXW1)
  have hX1 := Lib.hid (hX3.out.trans hXW1)
  clear hXW1 HWW1 hX3 HN hs3 l0 l1 l2 hsW1 z0a cd0 fd0
  refine HM.out.mono ?_
  rintro e w2 ⟨rfl, hx⟩
  replace zf2a := hx.free zf2a (lt_of_cell z2a)
  replace z2a := hx.cell z2a
  replace zf2b := hx.free zf2b (lt_of_cell z2b)
  replace z2b := hx.cell z2b
  have hX2 := Lib.hid (hX1.out.trans hx)
  have HN2 := Lib.hid (HN1.out.ext hx)
  clear hx hX1 HN1 HM
  have HS : Hid ((nb && decide (p ≠ 0)) = decide (fitZ (b + a) < 0)) := HD.out.2.2.2
  obtain ⟨n, hn⟩ : ∃ n, (nb && decide (p ≠ 0)) = n := ⟨_, rfl⟩
  rw [hn] at HS ⊢
  clear hn
  have y1 : (w2.setCell ⟨w.heap.size + 1 + 1, 0, none⟩ (.bool n)).cell? ⟨w.heap.size + 1 + 1, 1, none⟩ = some (.slice none 0 0) := by
    rw [World.cell?_setCell_other _ _ _ _ (by simp)]; exact z2b
  go_wp2
  refine bodyPost_ret (v := .tuple #[.agg #[.bool n, .slice A' k' k'], .int .i64 0]) (by simp [results, Tryz.results78, go_sem, z2a, z2b]) rfl ⟨n, A', k', rfl, ⟨?_, HS.out, ?_⟩, (by repeat (first | exact hX2.out | refine Ext.drew ?_ | refine Ext.drewN ?_ _ | refine Ext.setCell ?_ (by first | exact Nat.le_refl _ | (simp only []; omega)) _ | refine Ext.alloc ?_ _))⟩
  · rw [HD.out.1]; exact (HN2.out.setBool z2a _).setBox y1 _
  · rw [HD.out.1]; exact HD.out.2.2.1

theorem zAdd_any (na nb : Bool) (A B : Option Addr) (k m : Nat) (a b : Int) (w : World) (ha : IsInt w na A k a) (hb : IsInt w nb B m b) :
    Calls Tryz.prog 78 #[.agg #[.bool na, .slice A k k], .agg #[.bool nb, .slice B m m]] w fun e w' => ∃ n A' k', e = .returned (.tuple #[.agg #[.bool n, .slice A' k' k'], .int .i64 (codeZ (a + b))]) ∧ IsInt w' n A' k' (fitZ (a + b)) ∧ Ext w w' := by
  by_cases h : na = nb
  · subst h; exact zAdd_same na A B k m a b w ha hb
  · have hne : (na == nb) = false := by simpa using h
    rcases Nat.lt_or_ge a.natAbs b.natAbs with h1 | h1
    · rw [Int.add_comm]; exact zAdd_swap na nb A B k m a b w ha hb hne h1
    · exact zAdd_diff na nb A B k m a b w ha hb hne h1

set_option maxHeartbeats 1000000 in
theorem zSub_any (na nb : Bool) (A B : Option Addr) (k m : Nat) (a b : Int) (w : World) (ha : IsInt w na A k a) (hb : IsInt w nb B m b) :
    Calls Tryz.prog 53 #[.agg #[.bool na, .slice A k k], .agg #[.bool nb, .slice B m m]] w fun e w' => ∃ n A' k', e = .returned (.tuple #[.agg #[.bool n, .slice A' k' k'], .int .i64 (codeZ (a - b))]) ∧ IsInt w' n A' k' (fitZ (a - b)) ∧ Ext w w' := by
  obtain ⟨W0, hWW0⟩ : ∃ W0 : World, ((w.alloc (.cells #[.bool na, .slice A k k] 104)).alloc (.cells #[.bool nb, .slice B m m] 104)).alloc (.cells #[.bool false, .slice none 0 0] 104) = W0 := ⟨_, rfl⟩
  have hXW0 : Ext w W0 := by rw [← hWW0]; exact ((((Ext.refl w).alloc _).alloc _).alloc _)
  have hsW0 : w.heap.size + 3 ≤ W0.heap.size := by rw [← hWW0]; simp only [World.size_alloc]; omega
  have c0a : W0.cell? ⟨w.heap.size, 0, none⟩ = some (.bool na) := by rw [← hWW0]; simp [go_sem]
  have f0a : W0.frozen? ⟨w.heap.size, 0, none⟩ = false := by rw [← hWW0]; simp [go_sem]
  have c0b : W0.cell? ⟨w.heap.size, 1, none⟩ = some (.slice A k k) := by rw [← hWW0]; simp [go_sem]
  have f0b : W0.frozen? ⟨w.heap.size, 1, none⟩ = false := by rw [← hWW0]; simp [go_sem]
  have c1a : W0.cell? ⟨w.heap.size + 1, 0, none⟩ = some (.bool nb) := by rw [← hWW0]; simp [go_sem]
  have f1a : W0.frozen? ⟨w.heap.size + 1, 0, none⟩ = false := by rw [← hWW0]; simp [go_sem]
  have c1b : W0.cell? ⟨w.heap.size + 1, 1, none⟩ = some (.slice B m m) := by rw [← hWW0]; simp [go_sem]
  have f1b : W0.frozen? ⟨w.heap.size + 1, 1, none⟩ = false := by rw [← hWW0]; simp [go_sem]
  have c2a : W0.cell? ⟨w.heap.size + 1 + 1, 0, none⟩ = some (.bool false) := by rw [← hWW0]; simp [go_sem]
  have f2a : W0.frozen? ⟨w.heap.size + 1 + 1, 0, none⟩ = false := by rw [← hWW0]; simp [go_sem]
  have c2b : W0.cell? ⟨w.heap.size + 1 + 1, 1, none⟩ = some (.slice none 0 0) := by rw [← hWW0]; simp [go_sem]
  have f2b : W0.frozen? ⟨w.heap.size + 1 + 1, 1, none⟩ = false := by rw [← hWW0]; simp [go_sem]
  have HWW0 := Lib.hid hWW0
  clear hWW0
  have HX := Lib.hid hXW0
  have HA := Lib.hid (ha.ext hXW0)
  have HN := Lib.hid (fun W (h : Ext W0 W) => Neg_any nb B m b W ((hb.ext hXW0).ext h))
  have HAdd := Lib.hid (fun nn (W : World) (h1 : Ext W0 W) (h : IsInt W nn B m (-b)) => zAdd_any na nn A B k m a (-b) W (HA.out.ext h1) h)
  clear hXW0 ha hb
  rw [Int.sub_eq_add_neg]
  go_enter Tryz.func53, Tryz.ntmps53
  go_wp2_with fail
  rw [HWW0.out]
  go_region_with (first
    | (go_at_call 79; refine (HN.out _ (by first | exact (Ext.refl _).drew | exact Ext.refl _)).mono ?_; rintro e w1 ⟨nn, rfl, hni, hx⟩; have hxx := (Ext.refl W0).drew.trans hx; have hni2 := Lib.hid hni; clear hni; have d0a := hx.cell c0a; have d0b := hx.cell c0b; have d2a := hx.cell c2a; have d2b := hx.cell c2b; have g2a := hx.free f2a (lt_of_cell c2a); have g2b := hx.free f2b (lt_of_cell c2b))
    | (go_at_call 78; refine (HAdd.out nn w1 hxx hni2.out).mono ?_; rintro e w2 ⟨n, A', k', rfl, hni3, hx2⟩; have e2a := hx2.cell d2a; have e2b := hx2.cell d2b; have h2a := hx2.free g2a (lt_of_cell d2a); have h2b := hx2.free g2b (lt_of_cell d2b); have HI3 := Lib.hid hni3; clear hni3))
  all_goals
    have HX2 := Lib.hid ((HX.out.trans hxx).trans hx2)
    have y1 : (w2.setCell ⟨w.heap.size + 1 + 1, 0, none⟩ (.bool n)).cell? ⟨w.heap.size + 1 + 1, 1, none⟩ = some (.slice none 0 0) := by
      rw [World.cell?_setCell_other _ _ _ _ (by simp)]; exact e2b
    clear hx hxx hx2 d0a d0b d2a d2b g2a g2b c0a c0b c1a c1b c2a c2b
    go_wp2
    refine bodyPost_ret (v := .tuple #[.agg #[.bool n, .slice A' k' k'], .int .i64 (codeZ (a + -b))]) (by simp [results, Tryz.results53, go_sem, e2a, e2b]) rfl ⟨n, A', k', rfl, (HI3.out.setBool e2a _).setBox y1 _, (by repeat (first | exact HX2.out | refine Ext.drew ?_ | refine Ext.drewN ?_ _ | refine Ext.setCell ?_ (by first | exact Nat.le_refl _ | (simp only []; omega)) _ | refine Ext.alloc ?_ _))⟩
end Go.Proofs.YtiihnoelclnahaaGreatDoor
