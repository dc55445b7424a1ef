/- nat.Sub. -/
import Derived.Test.YtiihnoelclnahaaGreatDoorNatMem
namespace Go.Proofs.YtiihnoelclnahaaGreatDoor
open Go.RowKit
set_option linter.unusedVariables false

theorem Sub_less (A B : Option Addr) (k m a b : Nat) (w : World) (ha : IsNat w A k a) (hb : IsNat w B m b) (hk : k ≤ 100000) (hm : m ≤ 100000) (hab : a < b) :
    Calls Tryz.prog 103 #[.agg #[.slice A k k], .agg #[.slice B m m]] w fun e w' => e = .returned (.tuple #[.agg #[.slice none 0 0], .int .i64 10]) ∧ Ext w w' := by
  have HC := Lib.hid (Cmp_any A B k m a b _ (((ha.alloc (.cells #[.slice A k k] 102)).alloc (.cells #[.slice B m m] 102)).alloc (.cells #[.slice none 0 0] 102)) (((hb.alloc (.cells #[.slice A k k] 102)).alloc (.cells #[.slice B m m] 102)).alloc (.cells #[.slice none 0 0] 102)) hk hm)
  have e : cmpN a b = -1 := if_pos hab
  rw [e] at HC
  clear ha hb e
  go_enter Tryz.func103, Tryz.ntmps103
  go_wp2_with fail
  refine HC.out.mono ?_
  rintro e w1 ⟨rfl, hx⟩
  have c2 := hx.cell (b := w.heap.size + 2) (o := 0) (v := .slice none 0 0) (by simp [go_sem])
  have f2 := hx.free (b := w.heap.size + 2) (o := 0) (by simp [go_sem]) (by simp only [World.size_alloc]; omega)
  have c3 := setc (v := .slice none 0 0) c2
  have hX := Lib.hid (((((Ext.refl w).alloc _).alloc _).alloc _).trans hx)
  clear hx
  go_wp2
  refine bodyPost_ret (v := .tuple #[.agg #[.slice none 0 0], .int .i64 10]) (by simp [results, Tryz.results103, go_sem, c3]) rfl ⟨rfl, hX.out.setCell (p := ⟨w.heap.size + 2, 0, none⟩) (by simp only []; omega) _⟩

set_option maxRecDepth 100000 in
theorem Sub_ok (A B : Option Addr) (k m a b : Nat) (w : World) (ha : IsNat w A k a) (hb : IsNat w B m b) (hk : k ≤ 100000) (hm : m ≤ 100000) (hab : b ≤ a) :
    Calls Tryz.prog 103 #[.agg #[.slice A k k], .agg #[.slice B m m]] w fun e w' => ∃ A' k', e = .returned (.tuple #[.agg #[.slice A' k' k'], .int .i64 0]) ∧ IsNat w' A' k' (a - b) ∧ k' ≤ k ∧ Ext w w' := by
  have HA := Lib.hid (((ha.alloc (.cells #[.slice A k k] 102)).alloc (.cells #[.slice B m m] 102)).alloc (.cells #[.slice none 0 0] 102))
  have HB := Lib.hid (((hb.alloc (.cells #[.slice A k k] 102)).alloc (.cells #[.slice B m m] 102)).alloc (.cells #[.slice none 0 0] 102))
  have HC := Lib.hid (Cmp_any A B k m a b _ HA.out HB.out hk hm)
  have hc0 : 0 ≤ cmpN a b := by unfold cmpN; rw [if_neg (by omega)]; split <;> omega
  have hmk : m ≤ k := by have h1 := ha.1; have h2 := hb.1; rcases Nat.lt_or_ge k m with h | h; have := cmpN_of_length (a := a) (b := b) (by omega); omega; exact h
  have hmak := fun W => make_u32 (k : Int) k rfl (by omega) W
  clear ha hb
  go_enter Tryz.func103, Tryz.ntmps103
  go_wp2_with fail
  refine HC.out.mono ?_
  rintro e w1 ⟨rfl, hx⟩
  have c0 := hx.cell (b := w.heap.size) (o := 0) (v := .slice A k k) (by simp [go_sem])
  have c1 := hx.cell (b := w.heap.size + 1) (o := 0) (v := .slice B m m) (by simp [go_sem])
  have c2 := hx.cell (b := w.heap.size + 2) (o := 0) (v := .slice none 0 0) (by simp [go_sem])
  have f2 := hx.free (b := w.heap.size + 2) (o := 0) (by simp [go_sem]) (by simp only [World.size_alloc]; omega)
  have h3 : w.heap.size + 2 < w1.heap.size := by have := hx.size; simp only [World.size_alloc] at this; omega
  have h4 : w.heap.size + 1 < w1.heap.size := by omega
  have h5 : w.heap.size < w1.heap.size := by omega
  have HA1 := Lib.hid (HA.out.ext hx)
  have HB1 := Lib.hid (HB.out.ext hx)
  have hX := Lib.hid (((((Ext.refl w).alloc _).alloc _).alloc _).trans hx)
  have hX0 : Hid (w.heap.size ≤ w1.heap.size) := by unfold Hid; omega
  have HZ := Lib.hid (Row.zeros w1 145 k)
  have HZ1 := Lib.hid (HA1.out.alloc (.cells (zerosA k) 145)).2
  have HK1 : Hid ((digs a).length = k) := HA1.out.1.symm
  clear hx HC HA HB
  go_wp2_with (with_reducible refine wpList_copy_digs rfl (.tmp 16) (.tmp 18) rfl w1.heap.size k k A k k rfl rfl (List.replicate k 0) (digs a) HZ.out (by simp) HK1.out (Nat.le_refl _) HZ1.out ?_)
  intro w2 HR2 HB2
  have d0 := old HB2.out (b := w.heap.size) (o := 0) (v := .slice A k k) (by simp [go_sem, h5, c0]) h5
  have d1 := old HB2.out (b := w.heap.size + 1) (o := 0) (v := .slice B m m) (by simp [go_sem, h4, c1]) h4
  have d2 := old HB2.out (b := w.heap.size + 2) (o := 0) (v := .slice none 0 0) (by simp [go_sem, h3, c2]) h3
  have g2 := oldf HB2.out (b := w.heap.size + 2) (o := 0) (by simp [go_sem, h3, f2]) h3
  clear c0 c1 c2 f2 HZ HZ1
  have hs2 : w1.heap.size < w2.heap.size := by have := Below.size HB2.out; simp only [World.size_alloc] at this; omega
  have HRa : Hid (Row w2 145 w1.heap.size (digs a)) := by
    have := HR2.out
    first | exact this | rwa [List.drop_eq_nil_of_le (by simp), List.append_nil] at this
  have HBd : Hid (Digs w2 B (digs b)) := by
    refine HB1.out.2.below (Below.trans (b := w1.alloc (.cells (zerosA k) 145)) ((Ext.refl w1).alloc _) HB2.out)
  have HBK : Hid (m = (digs b).length) := HB1.out.1
  have HNE : Hid (∀ o, B ≠ some ⟨w1.heap.size, o, none⟩ ∨ m = 0) := by
    intro o
    rcases Nat.eq_zero_or_pos m with h0 | h0
    · exact .inr h0
    · obtain ⟨b2, o2, d, e, hlt, _⟩ := HB1.out.cell 0 h0
      refine .inl ?_
      rw [e]; intro he; injection he with he; injection he with h1 _; omega
  have HXA : Hid (Ext w w2) := hX.out.trans (Below.trans (b := w1.alloc (.cells (zerosA k) 145)) ((Ext.refl w1).alloc _) HB2.out)
  have HXL := Lib.hid (less_any w1.heap.size k k (digs a) (digs b) B m m w2 HK1.out.symm hk (Nat.le_refl _) HBK.out hmk (Nat.le_refl _) (digs_lt a) (digs_lt b) HRa.out HBd.out HNE.out (by rw [ofD_digs, ofD_digs]; exact hab))
  clear HR2 HB2 HA1 HB1 hX HK1
  go_wp2_with fail
  refine HXL.out.mono ?_
  rintro e w3 ⟨rfl, l', hR3, hl', hd3, hof, hx3⟩
  have e0 := hx3.cell d0 (by omega)
  have e1 := hx3.cell d1 (by omega)
  have e2 := hx3.cell d2 (by omega)
  have g3 := hx3.free g2 (by omega) (by omega)
  have HCut := Lib.hid (cut_nat (some ⟨w1.heap.size, 0, none⟩) k k l' w3 hl'.symm (Nat.le_refl _) (by omega) hd3 hR3.digs)
  have HOF := Lib.hid hof
  have HX3 : Hid (Ext w w3) := HXA.out.but hx3 (by intro g hg; have := hX0.out; omega)
  clear hx3 hR3 hl' hd3 hof d0 d1 d2 g2 HXL
  go_wp2_with fail
  refine HCut.out.mono ?_
  rintro e w4 ⟨k4, rfl, hn4, hk4, hx4⟩
  have i2 := hx4.cell e2
  have i3 := hx4.free g3 (lt_of_cell e2)
  have i4 := setc (v := .slice (some ⟨w1.heap.size, 0, none⟩) k4 k4) i2
  have HX4 := Lib.hid (HX3.out.trans hx4)
  have HN4 := Lib.hid hn4
  clear hx4 e0 e1 e2 g3 HCut hn4
  go_wp2
  refine bodyPost_ret (v := .tuple #[.agg #[.slice (some ⟨w1.heap.size, 0, none⟩) k4 k4], .int .i64 0]) (by simp [results, Tryz.results103, go_sem, i4]) rfl ⟨_, k4, rfl, ?_, hk4, HX4.out.setCell (p := ⟨w.heap.size + 2, 0, none⟩) (by simp only []; omega) _⟩
  have e : ofD l' = a - b := by have := HOF.out; rw [ofD_digs, ofD_digs] at this; omega
  rw [← e]
  exact HN4.out.set_ _ (by intro o' he; injection he with he; injection he with h1 _; omega)
end Go.Proofs.YtiihnoelclnahaaGreatDoor
