/- nat.Div. -/
import Derived.Test.YtiihnoelclnahaaGreatDoorNatLong
import Derived.RegionTactic
import Derived.Maps.AppendAt
import Derived.Deep.AppendLies
namespace Go.Proofs.YtiihnoelclnahaaGreatDoor
open Go.RowKit
set_option linter.unusedVariables false

theorem Div_zero (A B : Option Addr) (k a : Nat) (w : World) :
    Calls Tryz.prog 104 #[.agg #[.slice A k k], .agg #[.slice B 0 0]] w fun e w' => e = .returned (.tuple #[.agg #[.slice none 0 0], .agg #[.slice none 0 0], .int .i64 11]) ∧ Ext w w' := by
  go_enter Tryz.func104, Tryz.ntmps104
  go_wp2
  refine bodyPost_ret (v := .tuple #[.agg #[.slice none 0 0], .agg #[.slice none 0 0], .int .i64 11]) (by simp [results, Tryz.results104, go_sem]) rfl ⟨rfl, ?_⟩
  exact (by repeat (first | exact (Ext.refl w) | refine Ext.drew ?_ | refine Ext.drewN ?_ _ | refine Ext.setCell ?_ (by first | exact Nat.le_refl _ | (simp only []; omega)) _ | refine Ext.alloc ?_ _))

theorem Div_less (A B : Option Addr) (k m a b : Nat) (w : World) (ha : IsNat w A k a) (hb : IsNat w B m b) (hk : k ≤ 10000) (hm : m ≤ 10000) (hb0 : 0 < b) (hab : a < b) :
    Calls Tryz.prog 104 #[.agg #[.slice A k k], .agg #[.slice B m m]] w fun e w' => e = .returned (.tuple #[.agg #[.slice none 0 0], .agg #[.slice A k k], .int .i64 0]) ∧ Ext w w' := by
  have hm0 : 0 < m := by have := hb.k_zero; omega
  have hne : ((m : Int) == 0) = false := by rw [beq_eq_false_iff_ne]; omega
  obtain ⟨W0, hWW0⟩ : ∃ W0 : World, (((w.alloc (.cells #[.slice A k k] 102)).alloc (.cells #[.slice B m m] 102)).alloc (.cells #[.slice none 0 0] 102)).alloc (.cells #[.slice none 0 0] 102) = W0 := ⟨_, rfl⟩
  have hXW0 : Ext w W0 := by rw [← hWW0]; exact (((((Ext.refl w).alloc _).alloc _).alloc _).alloc _)
  have hsW0 : w.heap.size + 4 ≤ W0.heap.size := by rw [← hWW0]; simp only [World.size_alloc]; omega
  have c0 : W0.cell? ⟨w.heap.size, 0, none⟩ = some (.slice A k k) := by rw [← hWW0]; simp [go_sem]
  have f0 : W0.frozen? ⟨w.heap.size, 0, none⟩ = false := by rw [← hWW0]; simp [go_sem]
  have c1 : W0.cell? ⟨w.heap.size + 1, 0, none⟩ = some (.slice B m m) := by rw [← hWW0]; simp [go_sem]
  have f1 : W0.frozen? ⟨w.heap.size + 1, 0, none⟩ = false := by rw [← hWW0]; simp [go_sem]
  have c2 : W0.cell? ⟨w.heap.size + 1 + 1, 0, none⟩ = some (.slice none 0 0) := by rw [← hWW0]; simp [go_sem]
  have f2 : W0.frozen? ⟨w.heap.size + 1 + 1, 0, none⟩ = false := by rw [← hWW0]; simp [go_sem]
  have c3 : W0.cell? ⟨w.heap.size + 1 + 1 + 1, 0, none⟩ = some (.slice none 0 0) := by rw [← hWW0]; simp [go_sem]
  have f3 : W0.frozen? ⟨w.heap.size + 1 + 1 + 1, 0, none⟩ = false := by rw [← hWW0]; simp [go_sem]
  have HWW0 := Lib.hid hWW0
  clear hWW0
  have HC := Lib.hid (Cmp_any A B k m a b W0 (ha.ext hXW0) (hb.ext hXW0) (by omega) (by omega))
  have e : cmpN a b = -1 := if_pos hab
  rw [e] at HC
  have HX := Lib.hid hXW0
  clear ha hb e hXW0
  go_enter Tryz.func104, Tryz.ntmps104
  go_wp2_with fail
  rw [HWW0.out]
  refine HC.out.mono ?_
  rintro e w1 ⟨rfl, hx⟩
  replace c0 := hx.cell c0
  replace c1 := hx.cell c1
  replace f2 := hx.free f2 (lt_of_cell c2)
  replace c2 := hx.cell c2
  replace f3 := hx.free f3 (lt_of_cell c3)
  replace c3 := hx.cell c3
  have hX := Lib.hid (HX.out.trans hx)
  clear hx HWW0 HC
  go_wp2
  go_region
  go_wp2
  have y3 : (w1.setCell ⟨w.heap.size + 1 + 1, 0, none⟩ (.slice none 0 0)).cell? ⟨w.heap.size + 1 + 1 + 1, 0, none⟩ = some (.slice none 0 0) := by
    rw [World.cell?_setCell_other _ _ _ _ (by intro h; injection h with h1 _; omega)]; exact c3
  have y2 := setc (v := .slice none 0 0) c2
  have z3 := setc (v := .slice A k k) y3
  have z2 : ((w1.setCell ⟨w.heap.size + 1 + 1, 0, none⟩ (.slice none 0 0)).setCell ⟨w.heap.size + 1 + 1 + 1, 0, none⟩ (.slice A k k)).cell? ⟨w.heap.size + 1 + 1, 0, none⟩ = some (.slice none 0 0) := by
    rw [World.cell?_setCell_other _ _ _ _ (by intro h; injection h with h1 _; omega)]; exact y2
  refine bodyPost_ret (v := .tuple #[.agg #[.slice none 0 0], .agg #[.slice A k k], .int .i64 0]) (by simp [results, Tryz.results104, go_sem, z2, z3]) rfl ⟨rfl, (by repeat (first | exact hX.out | refine Ext.drew ?_ | refine Ext.drewN ?_ _ | refine Ext.setCell ?_ (by first | exact Nat.le_refl _ | (simp only []; omega)) _ | refine Ext.alloc ?_ _))⟩

set_option maxRecDepth 100000 in
theorem Div_short (A : Option Addr) (B : Option Addr) (k a b : Nat) (w : World) (ha : IsNat w A k a) (hb : IsNat w B 1 b) (hk : k ≤ 10000) (hab : b ≤ a) :
    Calls Tryz.prog 104 #[.agg #[.slice A k k], .agg #[.slice B 1 1]] w fun e w' => ∃ A1 k1 A2 k2, e = .returned (.tuple #[.agg #[.slice A1 k1 k1], .agg #[.slice A2 k2 k2], .int .i64 0]) ∧ IsNat w' A1 k1 (a / b) ∧ IsNat w' A2 k2 (a % b) ∧ Ext w w' := by
  have hb0 : 0 < b := by have := hb.k_zero; omega
  have hk0 : 0 < k := by have := ha.k_zero; omega
  obtain ⟨bb, bo, d, rfl, hbb, hd, hdl, cd⟩ := hb.cell 0 (by omega)
  rw [Nat.add_zero] at cd
  obtain ⟨ab, ao, d', rfl, hab', hd', hdl', cd'⟩ := ha.cell 0 (by omega)
  have hdb : b = d := by
    have h1 := hb.1
    have h2 := ofD_digs b
    match hh : digs b, h1 with
    | [x], _ => rw [hh] at hd h2; simp at hd; simp [ofD] at h2; omega
  subst hdb
  obtain ⟨W0, hWW0⟩ : ∃ W0 : World, (((w.alloc (.cells #[.slice (some ⟨ab, ao, none⟩) k k] 102)).alloc (.cells #[.slice (some ⟨bb, bo, none⟩) 1 1] 102)).alloc (.cells #[.slice none 0 0] 102)).alloc (.cells #[.slice none 0 0] 102) = W0 := ⟨_, rfl⟩
  have hXW0 : Ext w W0 := by rw [← hWW0]; exact (((((Ext.refl w).alloc _).alloc _).alloc _).alloc _)
  have hsW0 : w.heap.size + 4 ≤ W0.heap.size := by rw [← hWW0]; simp only [World.size_alloc]; omega
  have c0 : W0.cell? ⟨w.heap.size, 0, none⟩ = some (.slice (some ⟨ab, ao, none⟩) k k) := by rw [← hWW0]; simp [go_sem]
  have f0 : W0.frozen? ⟨w.heap.size, 0, none⟩ = false := by rw [← hWW0]; simp [go_sem]
  have c1 : W0.cell? ⟨w.heap.size + 1, 0, none⟩ = some (.slice (some ⟨bb, bo, none⟩) 1 1) := by rw [← hWW0]; simp [go_sem]
  have f1 : W0.frozen? ⟨w.heap.size + 1, 0, none⟩ = false := by rw [← hWW0]; simp [go_sem]
  have c2 : W0.cell? ⟨w.heap.size + 1 + 1, 0, none⟩ = some (.slice none 0 0) := by rw [← hWW0]; simp [go_sem]
  have f2 : W0.frozen? ⟨w.heap.size + 1 + 1, 0, none⟩ = false := by rw [← hWW0]; simp [go_sem]
  have c3 : W0.cell? ⟨w.heap.size + 1 + 1 + 1, 0, none⟩ = some (.slice none 0 0) := by rw [← hWW0]; simp [go_sem]
  have f3 : W0.frozen? ⟨w.heap.size + 1 + 1 + 1, 0, none⟩ = false := by rw [← hWW0]; simp [go_sem]
  have HWW0 := Lib.hid hWW0
  clear hWW0
  have HC := Lib.hid (Cmp_any _ _ k 1 a b W0 (ha.ext hXW0) (hb.ext hXW0) (by omega) (by omega))
  have hc0 : 0 ≤ cmpN a b := by unfold cmpN; rw [if_neg (by omega)]; split <;> omega
  replace cd := hXW0.cell cd
  have HX := Lib.hid hXW0
  have HA := Lib.hid (ha.ext hXW0)
  clear ha hb hXW0 hd' cd' hd
  go_enter Tryz.func104, Tryz.ntmps104
  go_wp2_with fail
  rw [HWW0.out]
  refine HC.out.mono ?_
  rintro e w1 ⟨rfl, hx⟩
  replace c0 := hx.cell c0
  replace c1 := hx.cell c1
  replace f2 := hx.free f2 (lt_of_cell c2)
  replace c2 := hx.cell c2
  replace f3 := hx.free f3 (lt_of_cell c3)
  replace c3 := hx.cell c3
  replace cd := hx.cell cd
  have hX := Lib.hid (HX.out.trans hx)
  have HA1 := Lib.hid (HA.out.ext hx)
  have hs1 : w.heap.size + 4 ≤ w1.heap.size := Nat.le_trans hsW0 hx.size
  clear hx HWW0 HC HX HA hsW0
  obtain ⟨i0, hi, hz0, hz1, hz2⟩ := info_parts Tryz.infoU32
  have hlen : ((digs a).map fun d : Nat => Value.int .u32 (d : Int)).length = k * 1 := by rw [List.length_map, Nat.mul_one]; exact HA1.out.1.symm
  have hcells : ∀ (j : Nat) u, ((digs a).map fun d : Nat => Value.int .u32 (d : Int))[j]? = some u → w1.cell? ((⟨ab, ao, none⟩ : Addr).add j) = some u := by
    intro j u hj
    rw [List.getElem?_map] at hj
    cases hh : (digs a)[j]? with
    | none => rw [hh] at hj; cases hj
    | some x =>
      rw [hh] at hj
      simp only [Option.map_some, Option.some.injEq] at hj
      subst hj
      obtain ⟨b1, o1, e1, _, h1⟩ := HA1.out.2 (by rw [← HA1.out.1]; exact hk0)
      obtain ⟨rfl, rfl⟩ : ab = b1 ∧ ao = o1 := by simpa using e1
      rw [← h1 j x hh]
      unfold Addr.add
      split
      · subst_vars; rfl
      · rfl
  have H1c : ∀ u ∈ ((digs a).map fun d : Nat => Value.int .u32 (d : Int)), u.oneCell' = true := by
    intro v hv
    obtain ⟨x, _, rfl⟩ := List.mem_map.1 hv
    rfl
  have HA2 := Lib.hid hlen
  have HA3 := Lib.hid hcells
  have HA4 := Lib.hid H1c
  have HI := Lib.hid (show _ ∧ _ from ⟨hi, hz0⟩)
  clear hlen hcells H1c
  go_wp2_with (at_builtin; refine wpList_append_own _ rfl _ _ 79 rfl w1.heap.size 145 i0 (.int .u32 0) 1 4 Tryz.underlying79 hi hz0 hz1 hz2 rfl (by decide) (.slice none 0 0) 0 [] rfl ⟨rfl, .inl ⟨rfl, rfl⟩⟩ ⟨ab, ao, none⟩ k k _ rfl HA2.out HA3.out HA4.out ?c1 ?c2 (Nat.le_refl _) ?_)
  case c1 => unfold maxLen; omega
  case c2 => omega
  intro v' w2 hown hgrow _
  rcases hown.2 with ⟨_, h0⟩ | ⟨g, cap, cur, rfl, hg, hh, hnc, hcm, hcs, hct⟩
  · omega
  have hX2 : Ext w1 w2 := (Ext.refl w1).grown hgrow (by simp [Value.ownBlock])
  have hRX : RowX w2 145 g (digs a) (cur.toList.drop k) := by
    rw [Nat.mul_one] at hct
    unfold RowX
    rw [hh, ← hct, List.take_append_drop]
  replace f2 := hX2.free f2 (lt_of_cell c2)
  replace c2 := hX2.cell c2
  replace f3 := hX2.free f3 (lt_of_cell c3)
  replace c3 := hX2.cell c3
  replace c1 := hX2.cell c1
  replace cd := hX2.cell cd
  have hX' := Lib.hid (hX.out.trans hX2)
  have HRX := Lib.hid hRX
  have HSh := Lib.hid (short_any g k cap (digs a) b _ w2 HA1.out.1 (by omega) (digs_lt a) hb0 hdl hRX)
  have hgs : w.heap.size + 4 ≤ g := Nat.le_trans hs1 hg
  have hcm2 : cap ≤ 1099511627776 ∨ 1099511627776 < cap := by omega
  clear hX2 hRX hh hct hcs hown hgrow HA2 HA3 HA4 HI hi hz0 hz1 hz2
  go_wp2_with fail
  refine HSh.out.mono ?_
  rintro e w3 ⟨l', r, rfl, hR3, hl', hd3, hr, hof, hx3⟩
  have d1 := hx3.cell c1 (show ¬ w.heap.size + 1 = g by omega)
  have d2 := hx3.cell c2 (show ¬ w.heap.size + 1 + 1 = g by omega)
  have d3 := hx3.cell c3 (show ¬ w.heap.size + 1 + 1 + 1 = g by omega)
  have g2 := hx3.free f2 (lt_of_cell c2) (show ¬ w.heap.size + 1 + 1 = g by omega)
  have g3 := hx3.free f3 (lt_of_cell c3) (show ¬ w.heap.size + 1 + 1 + 1 = g by omega)
  have HX3 := Lib.hid (hX'.out.but hx3 (by rintro g' rfl; omega))
  have HCut := Lib.hid (cut_nat (some ⟨g, 0, none⟩) k cap l' w3 hl'.symm hnc ?cc hd3 hR3.digs)
  case cc => omega
  have HV : Hid (ofD l' = a / b ∧ r = a % b) := by
    rw [ofD_digs] at hof
    have h1 := Nat.div_mod_unique (a := a) (b := b) (d := ofD l') (c := r) hb0
    have h2 := h1.2 ⟨by rw [hof, Nat.mul_comm]; omega, hr⟩
    exact ⟨h2.1.symm, h2.2.symm⟩
  clear hx3 hR3 hl' hd3 hof c1 c2 c3 f2 f3 cd HSh HRX hX' hX HA1
  go_wp2_with fail
  refine HCut.out.mono ?_
  rintro e w4 ⟨k4, rfl, hn4, hk4, hx4⟩
  replace g2 := hx4.free g2 (lt_of_cell d2)
  replace d2 := hx4.cell d2
  replace g3 := hx4.free g3 (lt_of_cell d3)
  replace d3 := hx4.cell d3
  have HX4 := Lib.hid (HX3.out.trans hx4)
  have HN4 := Lib.hid hn4
  have HOf := Lib.hid (of_any r w4 (by omega))
  have hr0 : (0 : Int) ≤ r := by omega
  clear hx4 hn4 HX3 HCut
  go_wp2_with fail
  refine HOf.out.mono ?_
  rintro e w5 ⟨A2, k2, rfl, hn5, hk5, hx5⟩
  replace g2 := hx5.free g2 (lt_of_cell d2)
  replace d2 := hx5.cell d2
  replace g3 := hx5.free g3 (lt_of_cell d3)
  replace d3 := hx5.cell d3
  have HX5 := Lib.hid (HX4.out.trans hx5)
  have HN5 := Lib.hid hn5
  have HN4' := Lib.hid (HN4.out.ext hx5)
  clear hx5 hn5 HX4 HN4 HOf
  have y3 : (w5.setCell ⟨w.heap.size + 1 + 1, 0, none⟩ (.slice (some ⟨g, 0, none⟩) k4 k4)).cell? ⟨w.heap.size + 1 + 1 + 1, 0, none⟩ = some (.slice none 0 0) := by
    rw [World.cell?_setCell_other _ _ _ _ (by intro h; injection h with h1 _; omega)]; exact d3
  have y2 := setc (v := .slice (some ⟨g, 0, none⟩) k4 k4) d2
  have z3 := setc (v := .slice A2 k2 k2) y3
  have z2 : ((w5.setCell ⟨w.heap.size + 1 + 1, 0, none⟩ (.slice (some ⟨g, 0, none⟩) k4 k4)).setCell ⟨w.heap.size + 1 + 1 + 1, 0, none⟩ (.slice A2 k2 k2)).cell? ⟨w.heap.size + 1 + 1, 0, none⟩ = some (.slice (some ⟨g, 0, none⟩) k4 k4) := by
    rw [World.cell?_setCell_other _ _ _ _ (by intro h; injection h with h1 _; omega)]; exact y2
  go_wp2
  refine bodyPost_ret (v := .tuple #[.agg #[.slice (some ⟨g, 0, none⟩) k4 k4], .agg #[.slice A2 k2 k2], .int .i64 0]) (by simp [results, Tryz.results104, go_sem, z2, z3]) rfl ⟨_, k4, A2, k2, rfl, ?_, ?_, (by repeat (first | exact HX5.out | refine Ext.drew ?_ | refine Ext.drewN ?_ _ | refine Ext.setCell ?_ (by first | exact Nat.le_refl _ | (simp only []; omega)) _ | refine Ext.alloc ?_ _))⟩
  · rw [← HV.out.1]; exact (HN4'.out.setBox d2 _).setBox y3 _
  · rw [← HV.out.2]; exact (HN5.out.setBox d2 _).setBox y3 _

set_option maxRecDepth 100000 in
theorem Div_long (A : Option Addr) (B : Option Addr) (k m a b : Nat) (w : World) (ha : IsNat w A k a) (hb : IsNat w B m b) (hk : k ≤ 10000) (hm : 2 ≤ m) (hab : b ≤ a) :
    Calls Tryz.prog 104 #[.agg #[.slice A k k], .agg #[.slice B m m]] w fun e w' => ∃ A1 k1 A2 k2, e = .returned (.tuple #[.agg #[.slice A1 k1 k1], .agg #[.slice A2 k2 k2], .int .i64 0]) ∧ IsNat w' A1 k1 (a / b) ∧ IsNat w' A2 k2 (a % b) ∧ Ext w w' := by
  have hmk : m ≤ k := by rw [hb.1, digs_length_le, ha.1]; exact Nat.lt_of_le_of_lt hab (digs_le a)
  have hn0 : ((m : Int) == 0) = false := by rw [beq_eq_false_iff_ne]; omega
  have hn1 : ((m : Int) == 1) = false := by rw [beq_eq_false_iff_ne]; omega
  obtain ⟨W0, hWW0⟩ : ∃ W0 : World, (((w.alloc (.cells #[.slice A k k] 102)).alloc (.cells #[.slice B m m] 102)).alloc (.cells #[.slice none 0 0] 102)).alloc (.cells #[.slice none 0 0] 102) = W0 := ⟨_, rfl⟩
  have hXW0 : Ext w W0 := by rw [← hWW0]; exact (((((Ext.refl w).alloc _).alloc _).alloc _).alloc _)
  have hsW0 : w.heap.size + 4 ≤ W0.heap.size := by rw [← hWW0]; simp only [World.size_alloc]; omega
  have c0 : W0.cell? ⟨w.heap.size, 0, none⟩ = some (.slice A k k) := by rw [← hWW0]; simp [go_sem]
  have f0 : W0.frozen? ⟨w.heap.size, 0, none⟩ = false := by rw [← hWW0]; simp [go_sem]
  have c1 : W0.cell? ⟨w.heap.size + 1, 0, none⟩ = some (.slice B m m) := by rw [← hWW0]; simp [go_sem]
  have f1 : W0.frozen? ⟨w.heap.size + 1, 0, none⟩ = false := by rw [← hWW0]; simp [go_sem]
  have c2 : W0.cell? ⟨w.heap.size + 1 + 1, 0, none⟩ = some (.slice none 0 0) := by rw [← hWW0]; simp [go_sem]
  have f2 : W0.frozen? ⟨w.heap.size + 1 + 1, 0, none⟩ = false := by rw [← hWW0]; simp [go_sem]
  have c3 : W0.cell? ⟨w.heap.size + 1 + 1 + 1, 0, none⟩ = some (.slice none 0 0) := by rw [← hWW0]; simp [go_sem]
  have f3 : W0.frozen? ⟨w.heap.size + 1 + 1 + 1, 0, none⟩ = false := by rw [← hWW0]; simp [go_sem]
  have HWW0 := Lib.hid hWW0
  clear hWW0
  have HC := Lib.hid (Cmp_any _ _ k m a b W0 (ha.ext hXW0) (hb.ext hXW0) (by omega) (by omega))
  have hc0 : 0 ≤ cmpN a b := by unfold cmpN; rw [if_neg (by omega)]; split <;> omega
  have HX := Lib.hid hXW0
  have HA := Lib.hid (ha.ext hXW0)
  have HB := Lib.hid (hb.ext hXW0)
  clear ha hb hXW0
  go_enter Tryz.func104, Tryz.ntmps104
  go_wp2_with fail
  rw [HWW0.out]
  refine HC.out.mono ?_
  rintro e w1 ⟨rfl, hx⟩
  replace c0 := hx.cell c0
  replace c1 := hx.cell c1
  replace f2 := hx.free f2 (lt_of_cell c2)
  replace c2 := hx.cell c2
  replace f3 := hx.free f3 (lt_of_cell c3)
  replace c3 := hx.cell c3
  have hX := Lib.hid (HX.out.trans hx)
  have HLo := Lib.hid (long_any A B k m a b w1 (HA.out.ext hx) (HB.out.ext hx) hk hm hab)
  clear hx HWW0 HC HX HA HB
  go_wp2_with fail
  refine HLo.out.mono ?_
  rintro e w5 ⟨A1, k4, A2, k2, rfl, hn4, hn5, hx5⟩
  replace f2 := hx5.free f2 (lt_of_cell c2)
  replace c2 := hx5.cell c2
  replace f3 := hx5.free f3 (lt_of_cell c3)
  replace c3 := hx5.cell c3
  have HX5 := Lib.hid (hX.out.trans hx5)
  have HN5 := Lib.hid hn5
  have HN4 := Lib.hid hn4
  clear hx5 hn5 hn4 hX HLo c0 c1
  have y3 : (w5.setCell ⟨w.heap.size + 1 + 1, 0, none⟩ (.slice A1 k4 k4)).cell? ⟨w.heap.size + 1 + 1 + 1, 0, none⟩ = some (.slice none 0 0) := by
    rw [World.cell?_setCell_other _ _ _ _ (by intro h; injection h with h1 _; omega)]; exact c3
  have y2 := setc (v := .slice A1 k4 k4) c2
  have z3 := setc (v := .slice A2 k2 k2) y3
  have z2 : ((w5.setCell ⟨w.heap.size + 1 + 1, 0, none⟩ (.slice A1 k4 k4)).setCell ⟨w.heap.size + 1 + 1 + 1, 0, none⟩ (.slice A2 k2 k2)).cell? ⟨w.heap.size + 1 + 1, 0, none⟩ = some (.slice A1 k4 k4) := by
    rw [World.cell?_setCell_other _ _ _ _ (by intro h; injection h with h1 _; omega)]; exact y2
  have HN4' := Lib.hid ((HN4.out.setBox c2 (.slice A1 k4 k4)).setBox y3 (.slice A2 k2 k2))
  have HN5' := Lib.hid ((HN5.out.setBox c2 (.slice A1 k4 k4)).setBox y3 (.slice A2 k2 k2))
  have HX6 : Hid (Ext w ((w5.setCell ⟨w.heap.size + 1 + 1, 0, none⟩ (.slice A1 k4 k4)).setCell ⟨w.heap.size + 1 + 1 + 1, 0, none⟩ (.slice A2 k2 k2))) := (by repeat (first | exact HX5.out | refine Ext.drew ?_ | refine Ext.drewN ?_ _ | refine Ext.setCell ?_ (by first | exact Nat.le_refl _ | (simp only []; omega)) _ | refine Ext.alloc ?_ _))
  go_wp2
  have h6f2 : ((w5.setCell ⟨w.heap.size + 1 + 1, 0, none⟩ (.slice A1 k4 k4)).setCell ⟨w.heap.size + 1 + 1 + 1, 0, none⟩ (.slice A2 k2 k2)).frozen? ⟨w.heap.size + 1 + 1, 0, none⟩ = false := by simp [f2]
  have h6f3 : ((w5.setCell ⟨w.heap.size + 1 + 1, 0, none⟩ (.slice A1 k4 k4)).setCell ⟨w.heap.size + 1 + 1 + 1, 0, none⟩ (.slice A2 k2 k2)).frozen? ⟨w.heap.size + 1 + 1 + 1, 0, none⟩ = false := by simp [f3]
  obtain ⟨W6, hW6⟩ : ∃ W6, (w5.setCell ⟨w.heap.size + 1 + 1, 0, none⟩ (.slice A1 k4 k4)).setCell ⟨w.heap.size + 1 + 1 + 1, 0, none⟩ (.slice A2 k2 k2) = W6 := ⟨_, rfl⟩
  rw [hW6] at z2 z3 h6f2 h6f3 HX6 HN4' HN5'
  rw [hW6]
  clear hW6 y2 y3 c2 c3 f2 f3
  go_region
  go_wp2
  have y3 : (W6.setCell ⟨w.heap.size + 1 + 1, 0, none⟩ (.slice A1 k4 k4)).cell? ⟨w.heap.size + 1 + 1 + 1, 0, none⟩ = some (.slice A2 k2 k2) := by
    rw [World.cell?_setCell_other _ _ _ _ (by intro h; injection h with h1 _; omega)]; exact z3
  have y2 := setc (v := .slice A1 k4 k4) z2
  have x3 := setc (v := .slice A2 k2 k2) y3
  have x2 : ((W6.setCell ⟨w.heap.size + 1 + 1, 0, none⟩ (.slice A1 k4 k4)).setCell ⟨w.heap.size + 1 + 1 + 1, 0, none⟩ (.slice A2 k2 k2)).cell? ⟨w.heap.size + 1 + 1, 0, none⟩ = some (.slice A1 k4 k4) := by
    rw [World.cell?_setCell_other _ _ _ _ (by intro h; injection h with h1 _; omega)]; exact y2
  refine bodyPost_ret (v := .tuple #[.agg #[.slice A1 k4 k4], .agg #[.slice A2 k2 k2], .int .i64 0]) (by simp [results, Tryz.results104, go_sem, x2, x3]) rfl ⟨_, k4, A2, k2, rfl, ?_, ?_, (by repeat (first | exact HX6.out | refine Ext.drew ?_ | refine Ext.drewN ?_ _ | refine Ext.setCell ?_ (by first | exact Nat.le_refl _ | (simp only []; omega)) _ | refine Ext.alloc ?_ _))⟩
  · exact (HN4'.out.setBox z2 _).setBox y3 _
  · exact (HN5'.out.setBox z2 _).setBox y3 _

theorem Div_ok (A B : Option Addr) (k m a b : Nat) (w : World) (ha : IsNat w A k a) (hb : IsNat w B m b) (hk : k ≤ 10000) (hm : m ≤ 10000) (hb0 : b ≠ 0) :
    Calls Tryz.prog 104 #[.agg #[.slice A k k], .agg #[.slice B m m]] w fun e w' => ∃ A1 k1 A2 k2, e = .returned (.tuple #[.agg #[.slice A1 k1 k1], .agg #[.slice A2 k2 k2], .int .i64 0]) ∧ IsNat w' A1 k1 (a / b) ∧ IsNat w' A2 k2 (a % b) ∧ Ext w w' := by
  rcases Nat.lt_or_ge a b with h | h
  · refine (Div_less A B k m a b w ha hb hk hm (by omega) h).mono fun e w' ⟨he, hx⟩ => ⟨none, 0, A, k, he, ?_, ?_, hx⟩
    · rw [Nat.div_eq_of_lt h]; exact isNat_zero _
    · rw [Nat.mod_eq_of_lt h]; exact ha.ext hx
  · have hm0 : m ≠ 0 := fun h0 => hb0 (hb.k_zero.1 h0)
    by_cases h1 : m = 1
    · subst h1; exact Div_short A B k a b w ha hb hk h
    · exact Div_long A B k m a b w ha hb hk (by omega) h
end Go.Proofs.YtiihnoelclnahaaGreatDoor
