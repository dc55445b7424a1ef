/- zint.Quo: the last walk. (Printed by gen_quo.py.) -/
import Derived.Test.YtiihnoelclnahaaGreatDoorZintQuoW
import Derived.Deep.RegionHeld3
namespace Go.Proofs.YtiihnoelclnahaaGreatDoor
set_option linter.unusedSimpArgs false
open Go.RowKit
set_option linter.unusedVariables false

theorem quo_le (a b : Nat) (hb : 0 < b) (h : a % b ≠ 0) : a / b + 1 ≤ a := by
  have h1 := Nat.div_add_mod a b
  have h2 := Nat.mod_lt a hb
  have h3 : 2 * (a / b) ≤ b * (a / b) := Nat.mul_le_mul_right _ (by omega)
  generalize a / b = q at *
  generalize b * q = bq at *
  omega

set_option maxHeartbeats 40000000 in
set_option maxRecDepth 100000 in
theorem zQuo_negr (nb : Bool) (A B : Option Addr) (k m : Nat) (a b : Int) (w : World) (ha : IsInt w true A k a) (hb : IsInt w nb B m b) (hb0 : b ≠ 0) (hm0 : a.natAbs % b.natAbs ≠ 0) :
    Calls Tryz.prog 80 #[.agg #[.bool true, .slice A k k], .agg #[.bool nb, .slice B m m]] w fun e w' => ∃ n A' k' A2 k2, e = .returned (.tuple #[.agg #[.bool n, .slice A' k' k'], .agg #[.bool false, .slice A2 k2 k2], .int .i64 0]) ∧ IsInt w' n A' k' (a / b) ∧ IsInt w' false A2 k2 (a % b) ∧ Ext w w' := by
  obtain ⟨W0, hWW0⟩ : ∃ W0 : World, (((w.alloc (.cells #[.bool true, .slice A k k] 104)).alloc (.cells #[.bool nb, .slice B m m] 104)).alloc (.cells #[.bool false, .slice none 0 0] 104)).alloc (.cells #[.bool false, .slice none 0 0] 104) = W0 := ⟨_, rfl⟩
  have hXW0 : Ext w W0 := by rw [← hWW0]; exact (((((Ext.refl w).alloc _).alloc _).alloc _).alloc _)
  have hsW0 : w.heap.size + 4 ≤ W0.heap.size := by rw [← hWW0]; simp only [World.size_alloc]; omega
  have c0a : W0.cell? ⟨w.heap.size, 0, none⟩ = some (.bool true) := by rw [← hWW0]; simp [go_sem]
  have f0a : W0.frozen? ⟨w.heap.size, 0, none⟩ = false := by rw [← hWW0]; simp [go_sem]
  have c0b : W0.cell? ⟨w.heap.size, 1, none⟩ = some (.slice A k k) := by rw [← hWW0]; simp [go_sem]
  have f0b : W0.frozen? ⟨w.heap.size, 1, none⟩ = false := by rw [← hWW0]; simp [go_sem]
  have c1a : W0.cell? ⟨w.heap.size + 1, 0, none⟩ = some (.bool nb) := by rw [← hWW0]; simp [go_sem]
  have f1a : W0.frozen? ⟨w.heap.size + 1, 0, none⟩ = false := by rw [← hWW0]; simp [go_sem]
  have c1b : W0.cell? ⟨w.heap.size + 1, 1, none⟩ = some (.slice B m m) := by rw [← hWW0]; simp [go_sem]
  have f1b : W0.frozen? ⟨w.heap.size + 1, 1, none⟩ = false := by rw [← hWW0]; simp [go_sem]
  have c2a : W0.cell? ⟨w.heap.size + 1 + 1, 0, none⟩ = some (.bool false) := by rw [← hWW0]; simp [go_sem]
  have f2a : W0.frozen? ⟨w.heap.size + 1 + 1, 0, none⟩ = false := by rw [← hWW0]; simp [go_sem]
  have c2b : W0.cell? ⟨w.heap.size + 1 + 1, 1, none⟩ = some (.slice none 0 0) := by rw [← hWW0]; simp [go_sem]
  have f2b : W0.frozen? ⟨w.heap.size + 1 + 1, 1, none⟩ = false := by rw [← hWW0]; simp [go_sem]
  have c3a : W0.cell? ⟨w.heap.size + 1 + 1 + 1, 0, none⟩ = some (.bool false) := by rw [← hWW0]; simp [go_sem]
  have f3a : W0.frozen? ⟨w.heap.size + 1 + 1 + 1, 0, none⟩ = false := by rw [← hWW0]; simp [go_sem]
  have c3b : W0.cell? ⟨w.heap.size + 1 + 1 + 1, 1, none⟩ = some (.slice none 0 0) := by rw [← hWW0]; simp [go_sem]
  have f3b : W0.frozen? ⟨w.heap.size + 1 + 1 + 1, 1, none⟩ = false := by rw [← hWW0]; simp [go_sem]
  have HWW0 := Lib.hid hWW0
  clear hWW0
  have hk := ha.k
  have hm := hb.k
  have HX := Lib.hid hXW0
  have HB := Lib.hid (hb.ext hXW0)
  have HC := Lib.hid (Div_ok A B k m a.natAbs b.natAbs W0 (ha.nat.ext hXW0) (hb.nat.ext hXW0) (by omega) (by omega) (by omega))
  have hq := quo_any a b hb0
  have hbn : bitsN (a.natAbs / b.natAbs) ≤ 4096 := Nat.le_trans (bitsN_mono (Nat.div_le_self _ _)) ha.bits
  have hbm : bitsN (a.natAbs % b.natAbs) ≤ 4096 := Nat.le_trans (bitsN_mono (Nat.le_of_lt (Nat.mod_lt _ (by omega)))) hb.bits
  have ha0 : decide (a < 0) = true := ha.sign.symm
  have ha1 : a < 0 ∧ a.natAbs % b.natAbs ≠ 0 := ⟨by simpa using ha0, hm0⟩
  rw [if_pos ha1, if_pos ha1, ha0, ← hb.sign, show (true != nb) = !nb by cases nb <;> rfl] at hq
  have HQ := Lib.hid hq
  have hle : a.natAbs / b.natAbs + 1 ≤ a.natAbs := quo_le _ _ (by omega) hm0
  have HBits' := Lib.hid (show bitsN (a.natAbs / b.natAbs) ≤ 4096 ∧ bitsN (a.natAbs % b.natAbs) ≤ 4096 from ⟨hbn, hbm⟩)
  have HBits := Lib.hid (show bitsN (a.natAbs / b.natAbs + 1) ≤ 4096 ∧ bitsN (b.natAbs - a.natAbs % b.natAbs) ≤ 4096 from ⟨Nat.le_trans (bitsN_mono hle) ha.bits, Nat.le_trans (bitsN_mono (Nat.sub_le _ _)) hb.bits⟩)
  have HMlt := Lib.hid (Nat.mod_lt a.natAbs (show 0 < b.natAbs by omega))
  have HM0 := Lib.hid (bitsN_pos hm0)
  clear ha0 ha1 hm0 hle
  clear hXW0 ha hb hq hbn hbm
  go_enter Tryz.func80, Tryz.ntmps80
  go_wp2_with fail
  rw [HWW0.out]
  refine HC.out.mono ?_
  rintro e w1 ⟨A1, k1, A2, k2, rfl, hn1, hn2, hx⟩
  replace c0a := hx.cell c0a
  replace c1a := hx.cell c1a
  replace c1b := hx.cell c1b
  replace f2a := hx.free f2a (lt_of_cell c2a)
  replace c2a := hx.cell c2a
  replace f2b := hx.free f2b (lt_of_cell c2b)
  replace c2b := hx.cell c2b
  replace f3a := hx.free f3a (lt_of_cell c3a)
  replace c3a := hx.cell c3a
  replace f3b := hx.free f3b (lt_of_cell c3b)
  replace c3b := hx.cell c3b
  have hX := Lib.hid (HX.out.trans hx)
  have HN1 := Lib.hid hn1
  have HN2 := Lib.hid hn2
  have HB1 := Lib.hid (HB.out.ext hx)
  have hs1 : w.heap.size + 4 ≤ w1.heap.size := Nat.le_trans hsW0 hx.size
  have l0 : w.heap.size < w1.heap.size := by omega
  have l1 : w.heap.size + 1 < w1.heap.size := by omega
  have l2 : w.heap.size + 1 + 1 < w1.heap.size := by omega
  have l3 : w.heap.size + 1 + 1 + 1 < w1.heap.size := by omega
  clear hx hn1 hn2 HX HC HWW0 hsW0 HB f0a f0b f1a f1b c0b
  go_wp2_with fail
  obtain ⟨W1, hWW1⟩ : ∃ W1 : World, (w1.alloc (.cells #[.slice A1 k1 k1] 102)).alloc (.cells #[.slice A2 k2 k2] 102) = W1 := ⟨_, rfl⟩
  have hXW1 : Ext w1 W1 := by rw [← hWW1]; exact (((Ext.refl w1).alloc _).alloc _)
  have hsW1 : w1.heap.size + 2 ≤ W1.heap.size := by rw [← hWW1]; simp only [World.size_alloc]; omega
  have cd0 : W1.cell? ⟨w1.heap.size, 0, none⟩ = some (.slice A1 k1 k1) := by rw [← hWW1]; simp [go_sem]
  have fd0 : W1.frozen? ⟨w1.heap.size, 0, none⟩ = false := by rw [← hWW1]; simp [go_sem]
  have cd1 : W1.cell? ⟨w1.heap.size + 1, 0, none⟩ = some (.slice A2 k2 k2) := by rw [← hWW1]; simp [go_sem]
  have fd1 : W1.frozen? ⟨w1.heap.size + 1, 0, none⟩ = false := by rw [← hWW1]; simp [go_sem]
  have HWW1 := Lib.hid hWW1
  clear hWW1
  replace c0a := hXW1.cell c0a
  replace c1a := hXW1.cell c1a
  replace c1b := hXW1.cell c1b
  replace f2a := hXW1.free f2a (lt_of_cell c2a)
  replace c2a := hXW1.cell c2a
  replace f2b := hXW1.free f2b (lt_of_cell c2b)
  replace c2b := hXW1.cell c2b
  replace f3a := hXW1.free f3a (lt_of_cell c3a)
  replace c3a := hXW1.cell c3a
  replace f3b := hXW1.free f3b (lt_of_cell c3b)
  replace c3b := hXW1.cell c3b
  have HBi := Lib.hid (Bits_any A2 k2 _ W1 (HN2.out.ext hXW1) (by have := isNat_k HN2.out HBits'.out.2; omega))
  have hX1' := Lib.hid (hX.out.trans hXW1)
  have HQ1 := Lib.hid (HN1.out.ext hXW1)
  have HQ2 := Lib.hid (HN2.out.ext hXW1)
  have HQB := Lib.hid (HB1.out.ext hXW1)
  clear hXW1 hX HN1 HN2 HB1
  rw [HWW1.out]
  refine HBi.out.mono ?_
  rintro e Wb ⟨rfl, hx⟩
  replace c0a := hx.cell c0a
  replace c1a := hx.cell c1a
  replace c1b := hx.cell c1b
  replace f2a := hx.free f2a (lt_of_cell c2a)
  replace c2a := hx.cell c2a
  replace f2b := hx.free f2b (lt_of_cell c2b)
  replace c2b := hx.cell c2b
  replace f3a := hx.free f3a (lt_of_cell c3a)
  replace c3a := hx.cell c3a
  replace f3b := hx.free f3b (lt_of_cell c3b)
  replace c3b := hx.cell c3b
  replace fd0 := hx.free fd0 (lt_of_cell cd0)
  replace cd0 := hx.cell cd0
  replace fd1 := hx.free fd1 (lt_of_cell cd1)
  replace cd1 := hx.cell cd1
  have hX1 := Lib.hid (hX1'.out.trans hx)
  have HP1 := Lib.hid (HQ1.out.ext hx)
  have HP2 := Lib.hid (HQ2.out.ext hx)
  have HPB := Lib.hid (HQB.out.ext hx)
  have hsb : w1.heap.size + 2 ≤ Wb.heap.size := Nat.le_trans hsW1 hx.size
  clear hx hX1' HQ1 HQ2 HQB HBi HWW1 hsW1
  obtain ⟨bt, hbt⟩ : ∃ bt, bitsN (a.natAbs % b.natAbs) = bt := ⟨_, rfl⟩
  rw [hbt]
  have hbt0 : 0 < bt := by rw [← hbt]; exact HM0.out
  have hbd : decide ((0 : Int) < (bt : Int)) = true := by simp; omega
  clear hbt
  have HOf := Lib.hid (fun W => of_any 1 W (by omega))
  have HAd := Lib.hid (fun A' k' W (h1 : Ext Wb W) (h : IsNat W A' k' 1) => Add_any A1 A' k1 k' (a.natAbs / b.natAbs) 1 W (HP1.out.ext h1) h HBits'.out.1 (by decide))
  have hfN : fitN (a.natAbs / b.natAbs + 1) = a.natAbs / b.natAbs + 1 := if_pos HBits.out.1
  rw [hfN] at HAd
  clear hfN
  go_wp2
  go_region_with (first
    | (go_at_call 74; refine (HOf.out _).mono ?_; rintro e w2 ⟨A', k', rfl, hn, _, hx⟩; have hxA := ((Ext.refl Wb).drew).trans hx; have q0 := hxA.cell c0a; have q1 := hxA.cell c1a; have q2 := hxA.cell c1b; have q3 := hxA.cell cd0; have q4 := hxA.cell cd1; have r3 := hxA.free fd0 (lt_of_cell cd0); have HNn := Lib.hid hn; clear hn)
    | (go_at_call 101; refine (HAd.out _ _ w2 hxA HNn.out).mono ?_; rintro e w3 ⟨A3, k3, rfl, hn, hy⟩; have hyA := hxA.trans hy; have HN3 := Lib.hid hn; clear hn; have s3 := hyA.cell cd0; have t3 := hyA.free fd0 (lt_of_cell cd0)))
  all_goals
    have u0 := hyA.cell c0a
    have u1 := hyA.cell c1a
    have u2 := hyA.cell c1b
    have u3 := hyA.cell cd1
    have u4 := hyA.cell c2a
    have u5 := hyA.cell c2b
    have u6 := hyA.cell c3a
    have u7 := hyA.cell c3b
    have y3 := hyA.free fd1 (lt_of_cell cd1)
    have y4 := hyA.free f2a (lt_of_cell c2a)
    have y5 := hyA.free f2b (lt_of_cell c2b)
    have y6 := hyA.free f3a (lt_of_cell c3a)
    have y7 := hyA.free f3b (lt_of_cell c3b)
    have HX3 := Lib.hid (hX1.out.trans hyA)
    have HR3 := Lib.hid (HP2.out.ext hyA)
    have HB3 := Lib.hid (HPB.out.nat.ext hyA)
    clear q0 q1 q2 q3 q4 r3 hx hxA hy hyA c0a c1a c1b c2a c2b c3a c3b cd0 cd1 f2a f2b f3a f3b fd0 fd1 HP1 HP2 HNn hX1
    obtain ⟨Ws, hWs⟩ : ∃ Ws, w3.setCell ⟨w1.heap.size, 0, none⟩ (.slice A3 k3 k3) = Ws := ⟨_, rfl⟩
    rw [hWs]
    have v0 : Ws.cell? ⟨w.heap.size, 0, none⟩ = some (.bool true) := by rw [← hWs, World.cell?_setCell_other _ _ _ _ (by intro h; injection h with h1 h2; omega)]; exact u0
    have v1 : Ws.cell? ⟨w.heap.size + 1, 0, none⟩ = some (.bool nb) := by rw [← hWs, World.cell?_setCell_other _ _ _ _ (by intro h; injection h with h1 h2; omega)]; exact u1
    have v2 : Ws.cell? ⟨w.heap.size + 1, 1, none⟩ = some (.slice B m m) := by rw [← hWs, World.cell?_setCell_other _ _ _ _ (by intro h; injection h with h1 h2; omega)]; exact u2
    have v3 : Ws.cell? ⟨w1.heap.size + 1, 0, none⟩ = some (.slice A2 k2 k2) := by rw [← hWs, World.cell?_setCell_other _ _ _ _ (by intro h; injection h with h1 h2; omega)]; exact u3
    have x3 : Ws.frozen? ⟨w1.heap.size + 1, 0, none⟩ = false := by rw [← hWs, World.frozen?_setCell]; exact y3
    have v4 : Ws.cell? ⟨w.heap.size + 1 + 1, 0, none⟩ = some (.bool false) := by rw [← hWs, World.cell?_setCell_other _ _ _ _ (by intro h; injection h with h1 h2; omega)]; exact u4
    have x4 : Ws.frozen? ⟨w.heap.size + 1 + 1, 0, none⟩ = false := by rw [← hWs, World.frozen?_setCell]; exact y4
    have v5 : Ws.cell? ⟨w.heap.size + 1 + 1, 1, none⟩ = some (.slice none 0 0) := by rw [← hWs, World.cell?_setCell_other _ _ _ _ (by intro h; injection h with h1 h2; omega)]; exact u5
    have x5 : Ws.frozen? ⟨w.heap.size + 1 + 1, 1, none⟩ = false := by rw [← hWs, World.frozen?_setCell]; exact y5
    have v6 : Ws.cell? ⟨w.heap.size + 1 + 1 + 1, 0, none⟩ = some (.bool false) := by rw [← hWs, World.cell?_setCell_other _ _ _ _ (by intro h; injection h with h1 h2; omega)]; exact u6
    have x6 : Ws.frozen? ⟨w.heap.size + 1 + 1 + 1, 0, none⟩ = false := by rw [← hWs, World.frozen?_setCell]; exact y6
    have v7 : Ws.cell? ⟨w.heap.size + 1 + 1 + 1, 1, none⟩ = some (.slice none 0 0) := by rw [← hWs, World.cell?_setCell_other _ _ _ _ (by intro h; injection h with h1 h2; omega)]; exact u7
    have x7 : Ws.frozen? ⟨w.heap.size + 1 + 1 + 1, 1, none⟩ = false := by rw [← hWs, World.frozen?_setCell]; exact y7
    have v8 : Ws.cell? ⟨w1.heap.size, 0, none⟩ = some (.slice A3 k3 k3) := by rw [← hWs]; exact setc s3
    have x8 : Ws.frozen? ⟨w1.heap.size, 0, none⟩ = false := by rw [← hWs, World.frozen?_setCell]; exact t3
    clear u0 u1 u2 u3 u4 u5 u6 u7 y3 y4 y5 y6 y7
    have HXs : Hid (Ext w Ws) := by rw [← hWs]; exact HX3.out.setCell (p := ⟨w1.heap.size, 0, none⟩) (by simp only []; omega) _
    have HN3s := Lib.hid (show IsNat Ws A3 k3 _ by rw [← hWs]; exact HN3.out.setBox s3 _)
    have HR3s := Lib.hid (show IsNat Ws A2 k2 _ by rw [← hWs]; exact HR3.out.setBox s3 _)
    have HB3s := Lib.hid (show IsNat Ws B m _ by rw [← hWs]; exact HB3.out.setBox s3 _)
    have HSub := Lib.hid (Sub_ok B A2 m k2 b.natAbs (a.natAbs % b.natAbs) Ws HB3s.out HR3s.out (by omega) (by have := isNat_k HR3s.out HBits'.out.2; omega) (Nat.le_of_lt HMlt.out))
    clear hWs HX3 HN3 HR3 HB3 HR3s s3 t3
    go_wp2_with fail
    refine HSub.out.mono ?_
    rintro e w4 ⟨A4, k4, rfl, hn, _, hx⟩
    replace v0 := hx.cell v0
    replace v1 := hx.cell v1
    replace x3 := hx.free x3 (lt_of_cell v3)
    replace v3 := hx.cell v3
    replace x4 := hx.free x4 (lt_of_cell v4)
    replace v4 := hx.cell v4
    replace x5 := hx.free x5 (lt_of_cell v5)
    replace v5 := hx.cell v5
    replace x6 := hx.free x6 (lt_of_cell v6)
    replace v6 := hx.cell v6
    replace x7 := hx.free x7 (lt_of_cell v7)
    replace v7 := hx.cell v7
    replace v8 := hx.cell v8
    have HX4 := Lib.hid (HXs.out.trans hx)
    have HN4 := Lib.hid (HN3s.out.ext hx)
    have HR4 := Lib.hid hn
    clear hx hn HXs HN3s HB3s HSub v2 x8
    go_wp2
    obtain ⟨W5, hW5⟩ : ∃ W5, w4.setCell ⟨w1.heap.size + 1, 0, none⟩ (.slice A4 k4 k4) = W5 := ⟨_, rfl⟩
    rw [hW5]
    have c0a : W5.cell? ⟨w.heap.size, 0, none⟩ = some (.bool true) := by rw [← hW5, World.cell?_setCell_other _ _ _ _ (by intro h; injection h with h1 h2; omega)]; exact v0
    have c1a : W5.cell? ⟨w.heap.size + 1, 0, none⟩ = some (.bool nb) := by rw [← hW5, World.cell?_setCell_other _ _ _ _ (by intro h; injection h with h1 h2; omega)]; exact v1
    have c2a : W5.cell? ⟨w.heap.size + 1 + 1, 0, none⟩ = some (.bool false) := by rw [← hW5, World.cell?_setCell_other _ _ _ _ (by intro h; injection h with h1 h2; omega)]; exact v4
    have f2a : W5.frozen? ⟨w.heap.size + 1 + 1, 0, none⟩ = false := by rw [← hW5, World.frozen?_setCell]; exact x4
    have c2b : W5.cell? ⟨w.heap.size + 1 + 1, 1, none⟩ = some (.slice none 0 0) := by rw [← hW5, World.cell?_setCell_other _ _ _ _ (by intro h; injection h with h1 h2; omega)]; exact v5
    have f2b : W5.frozen? ⟨w.heap.size + 1 + 1, 1, none⟩ = false := by rw [← hW5, World.frozen?_setCell]; exact x5
    have c3a : W5.cell? ⟨w.heap.size + 1 + 1 + 1, 0, none⟩ = some (.bool false) := by rw [← hW5, World.cell?_setCell_other _ _ _ _ (by intro h; injection h with h1 h2; omega)]; exact v6
    have f3a : W5.frozen? ⟨w.heap.size + 1 + 1 + 1, 0, none⟩ = false := by rw [← hW5, World.frozen?_setCell]; exact x6
    have c3b : W5.cell? ⟨w.heap.size + 1 + 1 + 1, 1, none⟩ = some (.slice none 0 0) := by rw [← hW5, World.cell?_setCell_other _ _ _ _ (by intro h; injection h with h1 h2; omega)]; exact v7
    have f3b : W5.frozen? ⟨w.heap.size + 1 + 1 + 1, 1, none⟩ = false := by rw [← hW5, World.frozen?_setCell]; exact x7
    have cd0 : W5.cell? ⟨w1.heap.size, 0, none⟩ = some (.slice A3 k3 k3) := by rw [← hW5, World.cell?_setCell_other _ _ _ _ (by intro h; injection h with h1 h2; omega)]; exact v8
    have cd1 : W5.cell? ⟨w1.heap.size + 1, 0, none⟩ = some (.slice A4 k4 k4) := by rw [← hW5]; exact setc v3
    have hX1 : Hid (Ext w W5) := by rw [← hW5]; exact HX4.out.setCell (p := ⟨w1.heap.size + 1, 0, none⟩) (by simp only []; omega) _
    have HP1 := Lib.hid (show IsNat W5 A3 k3 _ by rw [← hW5]; exact HN4.out.setBox v3 _)
    have HP2 := Lib.hid (show IsNat W5 A4 k4 _ by rw [← hW5]; exact HR4.out.setBox v3 _)
    clear hW5 HX4 HN4 HR4 v0 v1 v3 v4 v5 v6 v7 v8 x3 x4 x5 x6 x7

    have HM1 := Lib.hid (fun W (h : Ext W5 W) => Make_any (!nb) A3 k3 (a.natAbs / b.natAbs + 1) W (HP1.out.ext h) HBits.out.1)
    have HM2 := Lib.hid (fun W (h : Ext W5 W) => Make_any false A4 k4 (b.natAbs - a.natAbs % b.natAbs) W (HP2.out.ext h) HBits.out.2)
    simp only [Bool.false_and] at HM2
    obtain ⟨nq, hnq⟩ : ∃ nq, ((!nb) && decide ((a.natAbs / b.natAbs + 1) ≠ 0)) = nq := ⟨_, rfl⟩
    have HS : Hid (nq = decide (a / b < 0)) := by have := HQ.out.2.2; rw [HQ.out.1] at this; rw [← hnq]; exact this
    rw [hnq] at HM1
    clear hnq
    have b0 : W5.drew.cell? ⟨w.heap.size, 0, none⟩ = some (.bool true) := c0a
    have b1 : W5.drew.cell? ⟨w.heap.size + 1, 0, none⟩ = some (.bool nb) := c1a
    have b2 : W5.drew.cell? ⟨w1.heap.size, 0, none⟩ = some (.slice A3 k3 k3) := cd0
    have b3 : W5.drew.cell? ⟨w1.heap.size + 1, 0, none⟩ = some (.slice A4 k4 k4) := cd1
    go_region_held3 (fun w' => w'.cell? ⟨w.heap.size, 0, none⟩ = some (.bool true) ∧ w'.cell? ⟨w.heap.size + 1, 0, none⟩ = some (.bool nb) ∧ w'.cell? ⟨w1.heap.size, 0, none⟩ = some (.slice A3 k3 k3) ∧ w'.cell? ⟨w1.heap.size + 1, 0, none⟩ = some (.slice A4 k4 k4)) (refine ⟨?_, ?_, ?_, ?_⟩ <;> first | (with_reducible first | exact b0 | exact b1 | exact b2 | exact b3 | exact q0 | exact q1 | exact q2 | exact q3 | exact s0 | exact s1 | exact s2 | exact s3) | (rw [World.cell?_setCell_other _ _ _ _ (by intro h; injection h with h1 h2; omega), World.cell?_setCell_other _ _ _ _ (by intro h; injection h with h1 h2; omega)]; (with_reducible first | exact b0 | exact b1 | exact b2 | exact b3 | exact q0 | exact q1 | exact q2 | exact q3 | exact s0 | exact s1 | exact s2 | exact s3)) | (rw [World.cell?_setCell_other _ _ _ _ (by intro h; injection h with h1 h2; omega), World.cell?_setCell_other _ _ _ _ (by intro h; injection h with h1 h2; omega), World.cell?_setCell_other _ _ _ _ (by intro h; injection h with h1 h2; omega), World.cell?_setCell_other _ _ _ _ (by intro h; injection h with h1 h2; omega)]; (with_reducible first | exact b0 | exact b1 | exact b2 | exact b3 | exact q0 | exact q1 | exact q2 | exact q3 | exact s0 | exact s1 | exact s2 | exact s3)))
      (first
        | (go_at_call_of 77 (Value.agg #[Value.slice A3 k3 k3]); refine (HM1.out _ (by with_reducible first | exact hxA | exact hyA | exact (Ext.refl W5).drew)).mono ?_; rintro e w2 ⟨rfl, hx⟩; have hxA : Ext W5 w2 := (by with_reducible first | exact Ext.trans hyA hx | exact Ext.trans ((Ext.refl W5).drew) hx); have q0 := hxA.cell c0a; have q1 := hxA.cell c1a; have q2 := hxA.cell cd0; have q3 := hxA.cell cd1; have q4 := hxA.cell c2a; have q5 := hxA.cell c2b; have q6 := hxA.cell c3a; have q7 := hxA.cell c3b; have r4 := hxA.free f2a (lt_of_cell c2a); have r5 := hxA.free f2b (lt_of_cell c2b); have r6 := hxA.free f3a (lt_of_cell c3a); have r7 := hxA.free f3b (lt_of_cell c3b))
        | (go_at_call_of 77 (Value.agg #[Value.slice A4 k4 k4]); refine (HM2.out _ (by with_reducible first | exact hxA | exact hyA | exact (Ext.refl W5).drew)).mono ?_; rintro e w3 ⟨rfl, hy⟩; have hyA : Ext W5 w3 := (by with_reducible first | exact Ext.trans hxA hy | exact Ext.trans ((Ext.refl W5).drew) hy); have s0 := hyA.cell c0a; have s1 := hyA.cell c1a; have s2 := hyA.cell cd0; have s3 := hyA.cell cd1; have s4 := hyA.cell c2a; have s5 := hyA.cell c2b; have s6 := hyA.cell c3a; have s7 := hyA.cell c3b; have t4 := hyA.free f2a (lt_of_cell c2a); have t5 := hyA.free f2b (lt_of_cell c2b); have t6 := hyA.free f3a (lt_of_cell c3a); have t7 := hyA.free f3b (lt_of_cell c3b)))
    go_wp2
    have HX3 := Lib.hid (hX1.out.trans hyA)
    have HP1' := Lib.hid (HP1.out.ext hyA)
    have HP2' := Lib.hid (HP2.out.ext hyA)
    clear c0a c1a c2a c2b c3a c3b cd0 cd1 f2a f2b f3a f3b hx hxA hy hyA q0 q1 q2 q3 q4 q5 q6 q7 r4 r5 r6 r7 b0 b1 b2 b3 s0 s1 s2 s3
    have c2a := s4
    have c2b := s5
    have c3a := s6
    have c3b := s7
    have f2a := t4
    have f2b := t5
    have f3a := t6
    have f3b := t7
    clear s4 s5 s6 s7 t4 t5 t6 t7
    obtain ⟨W4, hWW4⟩ : ∃ W4 : World, (((w3.setCell ⟨w.heap.size + 1 + 1, 0, none⟩ (.bool nq)).setCell ⟨w.heap.size + 1 + 1, 1, none⟩ (.slice A3 k3 k3)).setCell ⟨w.heap.size + 1 + 1 + 1, 0, none⟩ (.bool false)).setCell ⟨w.heap.size + 1 + 1 + 1, 1, none⟩ (.slice A4 k4 k4) = W4 := ⟨_, rfl⟩
    have z2a : W4.cell? ⟨w.heap.size + 1 + 1, 0, none⟩ = some (.bool nq) := by rw [← hWW4]; simp [go_sem, c2a, c2b, c3a, c3b]
    have zf2a : W4.frozen? ⟨w.heap.size + 1 + 1, 0, none⟩ = false := by rw [← hWW4]; simp [go_sem, f2a, f2b, f3a, f3b]
    have z2b : W4.cell? ⟨w.heap.size + 1 + 1, 1, none⟩ = some (.slice A3 k3 k3) := by rw [← hWW4]; simp [go_sem, c2a, c2b, c3a, c3b]
    have zf2b : W4.frozen? ⟨w.heap.size + 1 + 1, 1, none⟩ = false := by rw [← hWW4]; simp [go_sem, f2a, f2b, f3a, f3b]
    have z3a : W4.cell? ⟨w.heap.size + 1 + 1 + 1, 0, none⟩ = some (.bool false) := by rw [← hWW4]; simp [go_sem, c2a, c2b, c3a, c3b]
    have zf3a : W4.frozen? ⟨w.heap.size + 1 + 1 + 1, 0, none⟩ = false := by rw [← hWW4]; simp [go_sem, f2a, f2b, f3a, f3b]
    have z3b : W4.cell? ⟨w.heap.size + 1 + 1 + 1, 1, none⟩ = some (.slice A4 k4 k4) := by rw [← hWW4]; simp [go_sem, c2a, c2b, c3a, c3b]
    have zf3b : W4.frozen? ⟨w.heap.size + 1 + 1 + 1, 1, none⟩ = false := by rw [← hWW4]; simp [go_sem, f2a, f2b, f3a, f3b]
    have znW4 : ∀ (A : Option Addr) (k n : Nat), IsNat w3 A k n → IsNat W4 A k n := by intro A k n h; rw [← hWW4]; exact ((((h.setBool c2a _).setBox (by rw [World.cell?_setCell_other _ _ _ _ (by intro h; injection h with h1 h2; omega)]; exact c2b) _).setBool (by rw [World.cell?_setCell_other _ _ _ _ (by intro h; injection h with h1 h2; omega), World.cell?_setCell_other _ _ _ _ (by intro h; injection h with h1 h2; omega)]; exact c3a) _).setBox (by rw [World.cell?_setCell_other _ _ _ _ (by intro h; injection h with h1 h2; omega), World.cell?_setCell_other _ _ _ _ (by intro h; injection h with h1 h2; omega), World.cell?_setCell_other _ _ _ _ (by intro h; injection h with h1 h2; omega)]; exact c3b) _)
    have zxW4 : ∀ a : World, Ext a w3 → a.heap.size ≤ w.heap.size → Ext a W4 := by intro a h hs; rw [← hWW4]; exact (by repeat (first | exact h | refine Ext.drew ?_ | refine Ext.drewN ?_ _ | refine Ext.setCell ?_ (by first | exact Nat.le_refl _ | (simp only []; omega)) _ | refine Ext.alloc ?_ _))
    have HWW4 := Lib.hid hWW4
    clear hWW4
    rw [HWW4.out]
    have HX4 := Lib.hid (zxW4 w HX3.out (Nat.le_refl _))
    have HN1 := Lib.hid (znW4 _ _ _ HP1'.out)
    have HN2 := Lib.hid (znW4 _ _ _ HP2'.out)
    refine bodyPost_ret (v := .tuple #[.agg #[.bool nq, .slice A3 k3 k3], .agg #[.bool false, .slice A4 k4 k4], .int .i64 0]) (by simp [results, Tryz.results80, go_sem, z2a, z2b, z3a, z3b]) rfl ⟨nq, _, _, _, _, rfl, ⟨?_, HS.out, ?_⟩, ⟨?_, ?_, ?_⟩, HX4.out⟩
    · rw [HQ.out.1]; exact HN1.out
    · rw [HQ.out.1]; exact HBits.out.1
    · rw [HQ.out.2.1]; exact HN2.out
    · rw [HQ.out.2.1]; exact (decide_eq_false (Int.not_lt.2 (Int.natCast_nonneg _))).symm
    · rw [HQ.out.2.1]; exact HBits.out.2

end Go.Proofs.YtiihnoelclnahaaGreatDoor
