/- nat.Add. (Printed by gen_add.py.) -/
import Derived.Test.YtiihnoelclnahaaGreatDoorNatMem
namespace Go.Proofs.YtiihnoelclnahaaGreatDoor
set_option linter.unusedSimpArgs false
open Go.RowKit
set_option linter.unusedVariables false

/-- One digit more put together. -/
theorem add_step (l lb p : List Nat) (i c x y q r : Nat) (hx : x = (l[i]?).getD 0) (hy : y = (lb[i]?).getD 0) (hp : p.length = i) (e : c + x + y = q + 4294967296 * r)
    (h : ofD p + 4294967296 ^ i * c = ofD (l.take i) + ofD (lb.take i)) :
    ofD (p ++ [q]) + 4294967296 ^ (i + 1) * r = ofD (l.take (i + 1)) + ofD (lb.take (i + 1)) := by
  rw [ofD_take_succ' l, ofD_take_succ' lb, ofD_snoc, hp, ← hx, ← hy, Nat.pow_succ]
  have := congrArg (4294967296 ^ i * ·) e
  simp only [Nat.mul_add] at this
  rw [← Nat.mul_assoc] at this
  generalize 4294967296 ^ i = B at *
  generalize B * q = bq at *
  generalize B * y = qy at *
  generalize B * c = qb at *
  generalize B * x = qx at *
  generalize B * 4294967296 * r = qz at *
  omega

theorem getD_snoc0 (l : List Nat) (i : Nat) : ((l ++ [0])[i]?).getD 0 = (l[i]?).getD 0 := by
  rcases Nat.lt_trichotomy i l.length with h | h | h
  · rw [List.getElem?_append_left h]
  · subst h; simp
  · rw [List.getElem?_eq_none (by simp; omega), List.getElem?_eq_none (by omega)]

theorem twice_le (B c : Nat) (h : 1 ≤ c) : B + B ≤ B * 4294967296 * c := by
  have : B * 4294967296 * 1 ≤ B * 4294967296 * c := Nat.mul_le_mul_left _ h
  rw [Nat.mul_one] at this
  refine Nat.le_trans ?_ this
  rw [← Nat.mul_two]
  exact Nat.mul_le_mul_left _ (by decide)

theorem add_end'' (B C x y z v : Nat) (h1 : x < B) (h2 : y < C) (h3 : C ≤ B) (h : z + v = x + y) (hv : v = 0 ∨ B + B ≤ v) : z = x + y := by omega

theorem add_end' (B C x y z c : Nat) (h1 : x < B) (h2 : y < C) (h3 : C ≤ B) (h : z + B * 4294967296 * c = x + y) : z = x + y := by
  refine add_end'' B C x y z _ h1 h2 h3 h ?_
  rcases Nat.eq_zero_or_pos c with h0 | h0
  · exact .inl (by rw [h0, Nat.mul_zero])
  · exact .inr (twice_le B c h0)

theorem add_end (l lb p : List Nat) (c : Nat) (hp : p.length = l.length + 1) (hm : lb.length ≤ l.length) (hl : ∀ d ∈ l, d < 4294967296) (hlb : ∀ d ∈ lb, d < 4294967296)
    (h : ofD p + 4294967296 ^ (l.length + 1) * c = ofD (l.take (l.length + 1)) + ofD (lb.take (l.length + 1))) : ofD p = ofD l + ofD lb := by
  rw [List.take_of_length_le (Nat.le_succ _), List.take_of_length_le (Nat.le_succ_of_le hm), Nat.pow_succ] at h
  have h1 := ofD_lt l hl
  have h2 := ofD_lt lb hlb
  have h3 : 4294967296 ^ lb.length ≤ 4294967296 ^ l.length := Nat.pow_le_pow_right (Nat.succ_pos _) hm
  exact add_end' _ _ _ _ _ _ h1 h2 h3 h

set_option maxRecDepth 100000 in
set_option maxHeartbeats 800000 in
theorem Add_ok1 (A B : Option Addr) (k m a b : Nat) (w : World) (ha : IsNat w A k a) (hb : IsNat w B m b) (hk : k ≤ 50000) (hm : m ≤ 50000) (hkm : m ≤ k) (hbits : bitsN (a + b) ≤ 4096) :
    Calls Tryz.prog 101 #[.agg #[.slice A k k], .agg #[.slice B m m]] w fun e w' => ∃ A' k', e = .returned (.tuple #[.agg #[.slice A' k' k'], .int .i64 0]) ∧ IsNat w' A' k' (a + b) ∧ k' ≤ max k m + 1 ∧ Ext w w' := by
  have HA0 := ha.1
  have HB0 := hb.1
  have hx0 : Ext w (((w.alloc (.cells #[.slice A k k] 102)).alloc (.cells #[.slice B m m] 102)).alloc (.cells #[.slice none 0 0] 102)) := (((Ext.refl w).alloc _).alloc _).alloc _
  have HA := Lib.hid (ha.ext hx0)
  have HB := Lib.hid (hb.ext hx0)
  have HXW := Lib.hid hx0
  have HZ := Lib.hid (Row.zeros (((w.alloc (.cells #[.slice A k k] 102)).alloc (.cells #[.slice B m m] 102)).alloc (.cells #[.slice none 0 0] 102)) 145 (k + 1))
  have HZ1 := Lib.hid ((HA.out.alloc (.cells (zerosA (k + 1)) 145)).2)
  have hlt : ¬ ((k : Int) < m) := by omega
  have HK : Hid ((digs a).length = k) := HA.out.1.symm
  have HM : Hid ((digs b).length = m) := HB.out.1.symm
  have hmak := fun W => make_u32 ((k : Int) + 1) (k + 1) (by omega) (by omega) W
  have hmk : m ≤ k := by omega
  have HBits := Lib.hid hbits
  clear hx0 ha hb HA0 HB0 hbits
  go_enter Tryz.func101, Tryz.ntmps101
  go_wp2_with (with_reducible refine wpList_copy_digs rfl (.tmp 23) (.tmp 25) rfl (w.heap.size + 3) (k + 1) (k + 1) A k k rfl rfl (List.replicate (k + 1) 0) (digs a) (by simpa [World.setCell] using HZ.out) (by simp) HK.out (by omega) HZ1.out ?_)
  intro w2 HR2 HB2
  have c1 := old HB2.out (b := w.heap.size + 1) (o := 0) (v := .slice B m m) (by simp [go_sem]) (by omega)
  have c2 := old HB2.out (b := w.heap.size + 2) (o := 0) (v := .slice none 0 0) (by simp [go_sem]) (by omega)
  have f2 := oldf HB2.out (b := w.heap.size + 2) (o := 0) (by simp [go_sem]) (by omega)
  have hs2 : w.heap.size + 3 < w2.heap.size := by have := Below.size HB2.out; simp at this; omega
  have HR : Hid (Row w2 145 (w.heap.size + 3) (digs a ++ [0])) := by
    have := HR2.out
    have e : List.drop k (List.replicate (k + 1) 0) = [0] := by simp
    first | exact this | (rw [e] at this; exact this) | (simpa using this)
  have HXN : Hid (Ext (((w.alloc (.cells #[.slice A k k] 102)).alloc (.cells #[.slice B m m] 102)).alloc (.cells #[.slice none 0 0] 102)) w2) := by
    refine Below.trans (b := (((w.alloc (.cells #[.slice A k k] 102)).alloc (.cells #[.slice B m m] 102)).alloc (.cells #[.slice none 0 0] 102)).alloc (.cells (zerosA (k + 1)) 145)) ((Ext.refl _).alloc _) (Below.mono HB2.out (by simp [World.setCell]))
  have HBd := Lib.hid ((HB.out.ext HXN.out).2)
  have HX2 := Lib.hid (HXW.out.trans HXN.out)
  have HNE : Hid (∀ o, B ≠ some ⟨w.heap.size + 3, o, none⟩ ∨ m = 0) := by
    intro o
    rcases Nat.eq_zero_or_pos m with h0 | h0
    · exact .inr h0
    · obtain ⟨b2, o2, d, e, hlt, _⟩ := HB.out.cell 0 h0
      refine .inl ?_
      rw [e]; intro he; injection he with he; injection he with h1 _; simp [World.setCell] at hlt; omega
  clear HR2 HB2 HZ HZ1 HA HB HXN HXW
  go_wp2
  go_loopw [7, 29] (fun cv i wr => ∃ (j c : Nat) (p : List Nat), j ≤ k + 1 ∧ c ≤ 1 ∧ i = .int .i64 j ∧ cv = .int .u64 c ∧ Hid (p.length = j) ∧ Hid (∀ d ∈ p, d < 4294967296) ∧ Hid (Row wr 145 (w.heap.size + 3) (p ++ (digs a ++ [0]).drop j)) ∧ Hid (ofD p + 4294967296 ^ j * c = ofD ((digs a).take j) + ofD ((digs b).take j)) ∧ Hid (ExtBut (· = w.heap.size + 3) w2 wr)) (fun _ i _ => k + 1 - (intOf i).toNat)
  case atStart => exact ⟨0, 0, [], Nat.zero_le _, by omega, rfl, rfl, rfl, by simp [Hid], by simpa [Hid] using HR.out, by simp [Hid, ofD], ExtBut.refl _ _⟩
  case round =>
    obtain ⟨j, c, p, hj, hc, rfl, rfl, HP, HPL, HRj, HE, HX⟩ := hrel
    have e1 := HX.out.cell c1 (by omega)
    have e2 := HX.out.cell c2 (by omega)
    have g2 := HX.out.free f2 (by omega) (by omega)
    by_cases h0 : j < k + 1
    · obtain ⟨x, hx0⟩ : ∃ x, (digs a ++ [0])[j]? = some x := ⟨_, List.getElem?_eq_getElem (by simp; have := HK.out; omega)⟩
      have HXX : Hid (x = ((digs a)[j]?).getD 0) := by rw [← getD_snoc0, hx0]; rfl
      have hxl : x < 4294967296 := by rw [HXX.out]; exact getD_lt (digs_lt a) j
      have cx := HRj.out.cell (row_at HP.out hx0)
      have fx := HRj.out.free j
      have HX0 := Lib.hid hx0
      clear hx0
      have k1 : (0 : Int) ≤ (c : Int) + x := by omega
      by_cases h1 : j < m
      · obtain ⟨b2, o2, eB, hb2, hc2⟩ := HBd.out.cell j (by have := HM.out; omega)
        have hne2 : ¬ b2 = w.heap.size + 3 := fun e => by rcases HNE.out o2 with h2 | h2; exact h2 (by rw [eB, e]); omega
        have hyl : (digs b)[j]'(by have := HM.out; omega) < 4294967296 := digs_lt _ _ (List.getElem_mem _)
        have HY : Hid ((digs b)[j]'(by have := HM.out; omega) = ((digs b)[j]?).getD 0) := by rw [List.getElem?_eq_getElem (by have := HM.out; omega)]; rfl
        have cy := HX.out.cell hc2 hne2
        generalize (digs b)[j]'(by have := HM.out; omega) = y at *
        obtain ⟨q, hq⟩ : ∃ q, (c + x + y) % 4294967296 = q := ⟨_, rfl⟩
        obtain ⟨r, hr⟩ : ∃ r, (c + x + y) / 4294967296 = r := ⟨_, rfl⟩
        have hqi : ((c : Int) + x + y) % 4294967296 = q := by omega
        have hri : ((c : Int) + x + y) / 4294967296 = r := by omega
        have HQ : Hid (c + x + y = q + 4294967296 * r ∧ q < 4294967296 ∧ r ≤ 1) := ⟨by omega, by omega, by omega⟩
        have HS := Lib.hid (add_step (digs a) (digs b) p j c x y q r HXX.out HY.out HP.out HQ.out.1 HE.out)
        have HRN := Lib.hid (HRj.out.set_ j q)
        have HRN2 : Hid (Row (wr.setCell ⟨w.heap.size + 3, j, none⟩ (.int .u32 (q : Nat))) 145 (w.heap.size + 3) ((p ++ [q]) ++ (digs a ++ [0]).drop (j + 1))) := by
          have := HRN.out; rwa [row_set HP.out HX0.out] at this
        have HXN := Lib.hid (HX.out.setCell (p := ⟨w.heap.size + 3, j, none⟩) (.inl rfl) (.int .u32 (q : Nat)))
        clear hq hr hc2 HRN HRj HX HX0 HY
        cases eB
        go_wp2
        go_roundw
        case rel => exact ⟨j + 1, r, p ++ [q], by omega, HQ.out.2.2, by go_num, rfl, by simp [Hid, HP.out], by
          intro d hd
          rcases List.mem_append.1 hd with hd | hd
          · exact HPL.out d hd
          · simp at hd; subst hd; exact HQ.out.2.1, HRN2, HS, HXN⟩
        case measure => simp [intOf]; omega
      · have HY : Hid ((0 : Nat) = ((digs b)[j]?).getD 0) := by rw [List.getElem?_eq_none (by have := HM.out; omega)]; rfl
        obtain ⟨q, hq⟩ : ∃ q, (c + x) % 4294967296 = q := ⟨_, rfl⟩
        obtain ⟨r, hr⟩ : ∃ r, (c + x) / 4294967296 = r := ⟨_, rfl⟩
        have hqi : ((c : Int) + x) % 4294967296 = q := by omega
        have hri : ((c : Int) + x) / 4294967296 = r := by omega
        have HQ : Hid (c + x + 0 = q + 4294967296 * r ∧ q < 4294967296 ∧ r ≤ 1) := ⟨by omega, by omega, by omega⟩
        have HS := Lib.hid (add_step (digs a) (digs b) p j c x 0 q r HXX.out HY.out HP.out HQ.out.1 HE.out)
        have HRN := Lib.hid (HRj.out.set_ j q)
        have HRN2 : Hid (Row (wr.setCell ⟨w.heap.size + 3, j, none⟩ (.int .u32 (q : Nat))) 145 (w.heap.size + 3) ((p ++ [q]) ++ (digs a ++ [0]).drop (j + 1))) := by
          have := HRN.out; rwa [row_set HP.out HX0.out] at this
        have HXN := Lib.hid (HX.out.setCell (p := ⟨w.heap.size + 3, j, none⟩) (.inl rfl) (.int .u32 (q : Nat)))
        clear hq hr HRN HRj HX HX0 HY
        go_wp2
        go_roundw
        case rel => exact ⟨j + 1, r, p ++ [q], by omega, HQ.out.2.2, by go_num, rfl, by simp [Hid, HP.out], by
          intro d hd
          rcases List.mem_append.1 hd with hd | hd
          · exact HPL.out d hd
          · simp at hd; subst hd; exact HQ.out.2.1, HRN2, HS, HXN⟩
        case measure => simp [intOf]; omega
    · have hjk : j = k + 1 := by omega
      have HRow : Hid (Row wr 145 (w.heap.size + 3) p) := by
        have := HRj.out
        rwa [List.drop_eq_nil_of_le (by simp; have := HK.out; omega), List.append_nil] at this
      have HSum : Hid (ofD p = a + b) := by
        have := add_end (digs a) (digs b) p c (by rw [HP.out, HK.out, hjk]) (by rw [HK.out, HM.out]; exact hmk) (digs_lt _) (digs_lt _) (by rw [HK.out, ← hjk]; exact HE.out)
        rw [ofD_digs, ofD_digs] at this
        unfold Hid; omega
      have HXr := Lib.hid (HX2.out.but HX.out (by rintro g rfl; omega))
      have HCut := Lib.hid (cut_nat (some ⟨w.heap.size + 3, 0, none⟩) (k + 1) (k + 1) p wr (by rw [HP.out, hjk]) (Nat.le_refl _) (by omega) HPL.out HRow.out.digs)
      have HJ := Lib.hid hjk
      clear hjk HRj HX HP HPL HE
      go_wp2_with fail
      refine HCut.out.mono ?_
      rintro e w4 ⟨k4, rfl, hn4, hk4, hx4⟩
      have i2 := hx4.cell e2
      have i3 := hx4.free g2 (lt_of_cell e2)
      rw [HSum.out] at hn4
      have HX4 := Lib.hid (HXr.out.trans hx4)
      have HFits := Lib.hid (fits_ok _ k4 (a + b) w4 hn4 (by omega) HBits.out)
      have HN4 := Lib.hid hn4
      clear hx4 e1 e2 g2 HCut hn4
      go_wp2_with fail
      refine HFits.out.mono ?_
      rintro e w5 ⟨rfl, hx5⟩
      have j2 := hx5.cell i2
      have j3 := hx5.free i3 (lt_of_cell i2)
      have j4 := setc (v := .slice (some ⟨w.heap.size + 3, 0, none⟩) k4 k4) j2
      have HX5 := Lib.hid (HX4.out.trans hx5)
      have HN5 := Lib.hid (HN4.out.ext hx5)
      clear hx5 i2 i3
      go_wp2
      refine bodyPost_ret (v := .tuple #[.agg #[.slice (some ⟨w.heap.size + 3, 0, none⟩) k4 k4], .int .i64 0]) (by simp [results, Tryz.results101, go_sem, j4]) rfl ⟨_, k4, rfl, HN5.out.set_ _ (by intro o' he; injection he with he; injection he with h1 _; omega), by omega, HX5.out.setCell (p := ⟨w.heap.size + 2, 0, none⟩) (by simp only []; omega) _⟩

set_option maxRecDepth 100000 in
set_option maxHeartbeats 800000 in
theorem Add_ok2 (A B : Option Addr) (k m a b : Nat) (w : World) (ha : IsNat w A k a) (hb : IsNat w B m b) (hk : k ≤ 50000) (hm : m ≤ 50000) (hkm : k < m) (hbits : bitsN (a + b) ≤ 4096) :
    Calls Tryz.prog 101 #[.agg #[.slice A k k], .agg #[.slice B m m]] w fun e w' => ∃ A' k', e = .returned (.tuple #[.agg #[.slice A' k' k'], .int .i64 0]) ∧ IsNat w' A' k' (a + b) ∧ k' ≤ max k m + 1 ∧ Ext w w' := by
  have HA0 := ha.1
  have HB0 := hb.1
  have hx0 : Ext w (((w.alloc (.cells #[.slice B m m] 102)).alloc (.cells #[.slice A k k] 102)).alloc (.cells #[.slice none 0 0] 102)) := (((Ext.refl w).alloc _).alloc _).alloc _
  have HA := Lib.hid (hb.ext hx0)
  have HB := Lib.hid (ha.ext hx0)
  have HXW := Lib.hid hx0
  have HZ := Lib.hid (Row.zeros (((w.alloc (.cells #[.slice B m m] 102)).alloc (.cells #[.slice A k k] 102)).alloc (.cells #[.slice none 0 0] 102)) 145 (m + 1))
  have HZ1 := Lib.hid ((HA.out.alloc (.cells (zerosA (m + 1)) 145)).2)
  have hlt : (k : Int) < m := by omega
  have HK : Hid ((digs b).length = m) := HA.out.1.symm
  have HM : Hid ((digs a).length = k) := HB.out.1.symm
  have hmak := fun W => make_u32 ((m : Int) + 1) (m + 1) (by omega) (by omega) W
  have hmk : k ≤ m := by omega
  have HBits := Lib.hid hbits
  clear hx0 ha hb HA0 HB0 hbits
  go_enter Tryz.func101, Tryz.ntmps101
  go_wp2_with (with_reducible refine wpList_copy_digs rfl (.tmp 23) (.tmp 25) rfl (w.heap.size + 3) (m + 1) (m + 1) B m m rfl rfl (List.replicate (m + 1) 0) (digs b) (by simpa [World.setCell] using HZ.out) (by simp) HK.out (by omega) HZ1.out ?_)
  intro w2 HR2 HB2
  have c1 := old HB2.out (b := w.heap.size + 1) (o := 0) (v := .slice A k k) (by simp [go_sem]) (by omega)
  have c2 := old HB2.out (b := w.heap.size + 2) (o := 0) (v := .slice none 0 0) (by simp [go_sem]) (by omega)
  have f2 := oldf HB2.out (b := w.heap.size + 2) (o := 0) (by simp [go_sem]) (by omega)
  have hs2 : w.heap.size + 3 < w2.heap.size := by have := Below.size HB2.out; simp at this; omega
  have HR : Hid (Row w2 145 (w.heap.size + 3) (digs b ++ [0])) := by
    have := HR2.out
    have e : List.drop m (List.replicate (m + 1) 0) = [0] := by simp
    first | exact this | (rw [e] at this; exact this) | (simpa using this)
  have HXN : Hid (Ext (((w.alloc (.cells #[.slice B m m] 102)).alloc (.cells #[.slice A k k] 102)).alloc (.cells #[.slice none 0 0] 102)) w2) := by
    refine Below.trans (b := (((w.alloc (.cells #[.slice B m m] 102)).alloc (.cells #[.slice A k k] 102)).alloc (.cells #[.slice none 0 0] 102)).alloc (.cells (zerosA (m + 1)) 145)) ((Ext.refl _).alloc _) (Below.mono HB2.out (by simp [World.setCell]))
  have HBd := Lib.hid ((HB.out.ext HXN.out).2)
  have HX2 := Lib.hid (HXW.out.trans HXN.out)
  have HNE : Hid (∀ o, A ≠ some ⟨w.heap.size + 3, o, none⟩ ∨ k = 0) := by
    intro o
    rcases Nat.eq_zero_or_pos k with h0 | h0
    · exact .inr h0
    · obtain ⟨b2, o2, d, e, hlt, _⟩ := HB.out.cell 0 h0
      refine .inl ?_
      rw [e]; intro he; injection he with he; injection he with h1 _; simp [World.setCell] at hlt; omega
  clear HR2 HB2 HZ HZ1 HA HB HXN HXW
  go_wp2
  go_loopw [7, 29] (fun cv i wr => ∃ (j c : Nat) (p : List Nat), j ≤ m + 1 ∧ c ≤ 1 ∧ i = .int .i64 j ∧ cv = .int .u64 c ∧ Hid (p.length = j) ∧ Hid (∀ d ∈ p, d < 4294967296) ∧ Hid (Row wr 145 (w.heap.size + 3) (p ++ (digs b ++ [0]).drop j)) ∧ Hid (ofD p + 4294967296 ^ j * c = ofD ((digs b).take j) + ofD ((digs a).take j)) ∧ Hid (ExtBut (· = w.heap.size + 3) w2 wr)) (fun _ i _ => m + 1 - (intOf i).toNat)
  case atStart => exact ⟨0, 0, [], Nat.zero_le _, by omega, rfl, rfl, rfl, by simp [Hid], by simpa [Hid] using HR.out, by simp [Hid, ofD], ExtBut.refl _ _⟩
  case round =>
    obtain ⟨j, c, p, hj, hc, rfl, rfl, HP, HPL, HRj, HE, HX⟩ := hrel
    have e1 := HX.out.cell c1 (by omega)
    have e2 := HX.out.cell c2 (by omega)
    have g2 := HX.out.free f2 (by omega) (by omega)
    by_cases h0 : j < m + 1
    · obtain ⟨x, hx0⟩ : ∃ x, (digs b ++ [0])[j]? = some x := ⟨_, List.getElem?_eq_getElem (by simp; have := HK.out; omega)⟩
      have HXX : Hid (x = ((digs b)[j]?).getD 0) := by rw [← getD_snoc0, hx0]; rfl
      have hxl : x < 4294967296 := by rw [HXX.out]; exact getD_lt (digs_lt b) j
      have cx := HRj.out.cell (row_at HP.out hx0)
      have fx := HRj.out.free j
      have HX0 := Lib.hid hx0
      clear hx0
      have k1 : (0 : Int) ≤ (c : Int) + x := by omega
      by_cases h1 : j < k
      · obtain ⟨b2, o2, eB, hb2, hc2⟩ := HBd.out.cell j (by have := HM.out; omega)
        have hne2 : ¬ b2 = w.heap.size + 3 := fun e => by rcases HNE.out o2 with h2 | h2; exact h2 (by rw [eB, e]); omega
        have hyl : (digs a)[j]'(by have := HM.out; omega) < 4294967296 := digs_lt _ _ (List.getElem_mem _)
        have HY : Hid ((digs a)[j]'(by have := HM.out; omega) = ((digs a)[j]?).getD 0) := by rw [List.getElem?_eq_getElem (by have := HM.out; omega)]; rfl
        have cy := HX.out.cell hc2 hne2
        generalize (digs a)[j]'(by have := HM.out; omega) = y at *
        obtain ⟨q, hq⟩ : ∃ q, (c + x + y) % 4294967296 = q := ⟨_, rfl⟩
        obtain ⟨r, hr⟩ : ∃ r, (c + x + y) / 4294967296 = r := ⟨_, rfl⟩
        have hqi : ((c : Int) + x + y) % 4294967296 = q := by omega
        have hri : ((c : Int) + x + y) / 4294967296 = r := by omega
        have HQ : Hid (c + x + y = q + 4294967296 * r ∧ q < 4294967296 ∧ r ≤ 1) := ⟨by omega, by omega, by omega⟩
        have HS := Lib.hid (add_step (digs b) (digs a) p j c x y q r HXX.out HY.out HP.out HQ.out.1 HE.out)
        have HRN := Lib.hid (HRj.out.set_ j q)
        have HRN2 : Hid (Row (wr.setCell ⟨w.heap.size + 3, j, none⟩ (.int .u32 (q : Nat))) 145 (w.heap.size + 3) ((p ++ [q]) ++ (digs b ++ [0]).drop (j + 1))) := by
          have := HRN.out; rwa [row_set HP.out HX0.out] at this
        have HXN := Lib.hid (HX.out.setCell (p := ⟨w.heap.size + 3, j, none⟩) (.inl rfl) (.int .u32 (q : Nat)))
        clear hq hr hc2 HRN HRj HX HX0 HY
        cases eB
        go_wp2
        go_roundw
        case rel => exact ⟨j + 1, r, p ++ [q], by omega, HQ.out.2.2, by go_num, rfl, by simp [Hid, HP.out], by
          intro d hd
          rcases List.mem_append.1 hd with hd | hd
          · exact HPL.out d hd
          · simp at hd; subst hd; exact HQ.out.2.1, HRN2, HS, HXN⟩
        case measure => simp [intOf]; omega
      · have HY : Hid ((0 : Nat) = ((digs a)[j]?).getD 0) := by rw [List.getElem?_eq_none (by have := HM.out; omega)]; rfl
        obtain ⟨q, hq⟩ : ∃ q, (c + x) % 4294967296 = q := ⟨_, rfl⟩
        obtain ⟨r, hr⟩ : ∃ r, (c + x) / 4294967296 = r := ⟨_, rfl⟩
        have hqi : ((c : Int) + x) % 4294967296 = q := by omega
        have hri : ((c : Int) + x) / 4294967296 = r := by omega
        have HQ : Hid (c + x + 0 = q + 4294967296 * r ∧ q < 4294967296 ∧ r ≤ 1) := ⟨by omega, by omega, by omega⟩
        have HS := Lib.hid (add_step (digs b) (digs a) p j c x 0 q r HXX.out HY.out HP.out HQ.out.1 HE.out)
        have HRN := Lib.hid (HRj.out.set_ j q)
        have HRN2 : Hid (Row (wr.setCell ⟨w.heap.size + 3, j, none⟩ (.int .u32 (q : Nat))) 145 (w.heap.size + 3) ((p ++ [q]) ++ (digs b ++ [0]).drop (j + 1))) := by
          have := HRN.out; rwa [row_set HP.out HX0.out] at this
        have HXN := Lib.hid (HX.out.setCell (p := ⟨w.heap.size + 3, j, none⟩) (.inl rfl) (.int .u32 (q : Nat)))
        clear hq hr HRN HRj HX HX0 HY
        go_wp2
        go_roundw
        case rel => exact ⟨j + 1, r, p ++ [q], by omega, HQ.out.2.2, by go_num, rfl, by simp [Hid, HP.out], by
          intro d hd
          rcases List.mem_append.1 hd with hd | hd
          · exact HPL.out d hd
          · simp at hd; subst hd; exact HQ.out.2.1, HRN2, HS, HXN⟩
        case measure => simp [intOf]; omega
    · have hjk : j = m + 1 := by omega
      have HRow : Hid (Row wr 145 (w.heap.size + 3) p) := by
        have := HRj.out
        rwa [List.drop_eq_nil_of_le (by simp; have := HK.out; omega), List.append_nil] at this
      have HSum : Hid (ofD p = a + b) := by
        have := add_end (digs b) (digs a) p c (by rw [HP.out, HK.out, hjk]) (by rw [HK.out, HM.out]; exact hmk) (digs_lt _) (digs_lt _) (by rw [HK.out, ← hjk]; exact HE.out)
        rw [ofD_digs, ofD_digs] at this
        unfold Hid; omega
      have HXr := Lib.hid (HX2.out.but HX.out (by rintro g rfl; omega))
      have HCut := Lib.hid (cut_nat (some ⟨w.heap.size + 3, 0, none⟩) (m + 1) (m + 1) p wr (by rw [HP.out, hjk]) (Nat.le_refl _) (by omega) HPL.out HRow.out.digs)
      have HJ := Lib.hid hjk
      clear hjk HRj HX HP HPL HE
      go_wp2_with fail
      refine HCut.out.mono ?_
      rintro e w4 ⟨k4, rfl, hn4, hk4, hx4⟩
      have i2 := hx4.cell e2
      have i3 := hx4.free g2 (lt_of_cell e2)
      rw [HSum.out] at hn4
      have HX4 := Lib.hid (HXr.out.trans hx4)
      have HFits := Lib.hid (fits_ok _ k4 (a + b) w4 hn4 (by omega) HBits.out)
      have HN4 := Lib.hid hn4
      clear hx4 e1 e2 g2 HCut hn4
      go_wp2_with fail
      refine HFits.out.mono ?_
      rintro e w5 ⟨rfl, hx5⟩
      have j2 := hx5.cell i2
      have j3 := hx5.free i3 (lt_of_cell i2)
      have j4 := setc (v := .slice (some ⟨w.heap.size + 3, 0, none⟩) k4 k4) j2
      have HX5 := Lib.hid (HX4.out.trans hx5)
      have HN5 := Lib.hid (HN4.out.ext hx5)
      clear hx5 i2 i3
      go_wp2
      refine bodyPost_ret (v := .tuple #[.agg #[.slice (some ⟨w.heap.size + 3, 0, none⟩) k4 k4], .int .i64 0]) (by simp [results, Tryz.results101, go_sem, j4]) rfl ⟨_, k4, rfl, HN5.out.set_ _ (by intro o' he; injection he with he; injection he with h1 _; omega), by omega, HX5.out.setCell (p := ⟨w.heap.size + 2, 0, none⟩) (by simp only []; omega) _⟩

set_option maxRecDepth 100000 in
set_option maxHeartbeats 800000 in
theorem Add_long1 (A B : Option Addr) (k m a b : Nat) (w : World) (ha : IsNat w A k a) (hb : IsNat w B m b) (hk : k ≤ 50000) (hm : m ≤ 50000) (hkm : m ≤ k) (hbits : 4096 < bitsN (a + b)) :
    Calls Tryz.prog 101 #[.agg #[.slice A k k], .agg #[.slice B m m]] w fun e w' => e = .returned (.tuple #[.agg #[.slice none 0 0], .int .i64 3]) ∧ Ext w w' := by
  have HA0 := ha.1
  have HB0 := hb.1
  have hx0 : Ext w (((w.alloc (.cells #[.slice A k k] 102)).alloc (.cells #[.slice B m m] 102)).alloc (.cells #[.slice none 0 0] 102)) := (((Ext.refl w).alloc _).alloc _).alloc _
  have HA := Lib.hid (ha.ext hx0)
  have HB := Lib.hid (hb.ext hx0)
  have HXW := Lib.hid hx0
  have HZ := Lib.hid (Row.zeros (((w.alloc (.cells #[.slice A k k] 102)).alloc (.cells #[.slice B m m] 102)).alloc (.cells #[.slice none 0 0] 102)) 145 (k + 1))
  have HZ1 := Lib.hid ((HA.out.alloc (.cells (zerosA (k + 1)) 145)).2)
  have hlt : ¬ ((k : Int) < m) := by omega
  have HK : Hid ((digs a).length = k) := HA.out.1.symm
  have HM : Hid ((digs b).length = m) := HB.out.1.symm
  have hmak := fun W => make_u32 ((k : Int) + 1) (k + 1) (by omega) (by omega) W
  have hmk : m ≤ k := by omega
  have HBits := Lib.hid hbits
  clear hx0 ha hb HA0 HB0 hbits
  go_enter Tryz.func101, Tryz.ntmps101
  go_wp2_with (with_reducible refine wpList_copy_digs rfl (.tmp 23) (.tmp 25) rfl (w.heap.size + 3) (k + 1) (k + 1) A k k rfl rfl (List.replicate (k + 1) 0) (digs a) (by simpa [World.setCell] using HZ.out) (by simp) HK.out (by omega) HZ1.out ?_)
  intro w2 HR2 HB2
  have c1 := old HB2.out (b := w.heap.size + 1) (o := 0) (v := .slice B m m) (by simp [go_sem]) (by omega)
  have c2 := old HB2.out (b := w.heap.size + 2) (o := 0) (v := .slice none 0 0) (by simp [go_sem]) (by omega)
  have f2 := oldf HB2.out (b := w.heap.size + 2) (o := 0) (by simp [go_sem]) (by omega)
  have hs2 : w.heap.size + 3 < w2.heap.size := by have := Below.size HB2.out; simp at this; omega
  have HR : Hid (Row w2 145 (w.heap.size + 3) (digs a ++ [0])) := by
    have := HR2.out
    have e : List.drop k (List.replicate (k + 1) 0) = [0] := by simp
    first | exact this | (rw [e] at this; exact this) | (simpa using this)
  have HXN : Hid (Ext (((w.alloc (.cells #[.slice A k k] 102)).alloc (.cells #[.slice B m m] 102)).alloc (.cells #[.slice none 0 0] 102)) w2) := by
    refine Below.trans (b := (((w.alloc (.cells #[.slice A k k] 102)).alloc (.cells #[.slice B m m] 102)).alloc (.cells #[.slice none 0 0] 102)).alloc (.cells (zerosA (k + 1)) 145)) ((Ext.refl _).alloc _) (Below.mono HB2.out (by simp [World.setCell]))
  have HBd := Lib.hid ((HB.out.ext HXN.out).2)
  have HX2 := Lib.hid (HXW.out.trans HXN.out)
  have HNE : Hid (∀ o, B ≠ some ⟨w.heap.size + 3, o, none⟩ ∨ m = 0) := by
    intro o
    rcases Nat.eq_zero_or_pos m with h0 | h0
    · exact .inr h0
    · obtain ⟨b2, o2, d, e, hlt, _⟩ := HB.out.cell 0 h0
      refine .inl ?_
      rw [e]; intro he; injection he with he; injection he with h1 _; simp [World.setCell] at hlt; omega
  clear HR2 HB2 HZ HZ1 HA HB HXN HXW
  go_wp2
  go_loopw [7, 29] (fun cv i wr => ∃ (j c : Nat) (p : List Nat), j ≤ k + 1 ∧ c ≤ 1 ∧ i = .int .i64 j ∧ cv = .int .u64 c ∧ Hid (p.length = j) ∧ Hid (∀ d ∈ p, d < 4294967296) ∧ Hid (Row wr 145 (w.heap.size + 3) (p ++ (digs a ++ [0]).drop j)) ∧ Hid (ofD p + 4294967296 ^ j * c = ofD ((digs a).take j) + ofD ((digs b).take j)) ∧ Hid (ExtBut (· = w.heap.size + 3) w2 wr)) (fun _ i _ => k + 1 - (intOf i).toNat)
  case atStart => exact ⟨0, 0, [], Nat.zero_le _, by omega, rfl, rfl, rfl, by simp [Hid], by simpa [Hid] using HR.out, by simp [Hid, ofD], ExtBut.refl _ _⟩
  case round =>
    obtain ⟨j, c, p, hj, hc, rfl, rfl, HP, HPL, HRj, HE, HX⟩ := hrel
    have e1 := HX.out.cell c1 (by omega)
    have e2 := HX.out.cell c2 (by omega)
    have g2 := HX.out.free f2 (by omega) (by omega)
    by_cases h0 : j < k + 1
    · obtain ⟨x, hx0⟩ : ∃ x, (digs a ++ [0])[j]? = some x := ⟨_, List.getElem?_eq_getElem (by simp; have := HK.out; omega)⟩
      have HXX : Hid (x = ((digs a)[j]?).getD 0) := by rw [← getD_snoc0, hx0]; rfl
      have hxl : x < 4294967296 := by rw [HXX.out]; exact getD_lt (digs_lt a) j
      have cx := HRj.out.cell (row_at HP.out hx0)
      have fx := HRj.out.free j
      have HX0 := Lib.hid hx0
      clear hx0
      have k1 : (0 : Int) ≤ (c : Int) + x := by omega
      by_cases h1 : j < m
      · obtain ⟨b2, o2, eB, hb2, hc2⟩ := HBd.out.cell j (by have := HM.out; omega)
        have hne2 : ¬ b2 = w.heap.size + 3 := fun e => by rcases HNE.out o2 with h2 | h2; exact h2 (by rw [eB, e]); omega
        have hyl : (digs b)[j]'(by have := HM.out; omega) < 4294967296 := digs_lt _ _ (List.getElem_mem _)
        have HY : Hid ((digs b)[j]'(by have := HM.out; omega) = ((digs b)[j]?).getD 0) := by rw [List.getElem?_eq_getElem (by have := HM.out; omega)]; rfl
        have cy := HX.out.cell hc2 hne2
        generalize (digs b)[j]'(by have := HM.out; omega) = y at *
        obtain ⟨q, hq⟩ : ∃ q, (c + x + y) % 4294967296 = q := ⟨_, rfl⟩
        obtain ⟨r, hr⟩ : ∃ r, (c + x + y) / 4294967296 = r := ⟨_, rfl⟩
        have hqi : ((c : Int) + x + y) % 4294967296 = q := by omega
        have hri : ((c : Int) + x + y) / 4294967296 = r := by omega
        have HQ : Hid (c + x + y = q + 4294967296 * r ∧ q < 4294967296 ∧ r ≤ 1) := ⟨by omega, by omega, by omega⟩
        have HS := Lib.hid (add_step (digs a) (digs b) p j c x y q r HXX.out HY.out HP.out HQ.out.1 HE.out)
        have HRN := Lib.hid (HRj.out.set_ j q)
        have HRN2 : Hid (Row (wr.setCell ⟨w.heap.size + 3, j, none⟩ (.int .u32 (q : Nat))) 145 (w.heap.size + 3) ((p ++ [q]) ++ (digs a ++ [0]).drop (j + 1))) := by
          have := HRN.out; rwa [row_set HP.out HX0.out] at this
        have HXN := Lib.hid (HX.out.setCell (p := ⟨w.heap.size + 3, j, none⟩) (.inl rfl) (.int .u32 (q : Nat)))
        clear hq hr hc2 HRN HRj HX HX0 HY
        cases eB
        go_wp2
        go_roundw
        case rel => exact ⟨j + 1, r, p ++ [q], by omega, HQ.out.2.2, by go_num, rfl, by simp [Hid, HP.out], by
          intro d hd
          rcases List.mem_append.1 hd with hd | hd
          · exact HPL.out d hd
          · simp at hd; subst hd; exact HQ.out.2.1, HRN2, HS, HXN⟩
        case measure => simp [intOf]; omega
      · have HY : Hid ((0 : Nat) = ((digs b)[j]?).getD 0) := by rw [List.getElem?_eq_none (by have := HM.out; omega)]; rfl
        obtain ⟨q, hq⟩ : ∃ q, (c + x) % 4294967296 = q := ⟨_, rfl⟩
        obtain ⟨r, hr⟩ : ∃ r, (c + x) / 4294967296 = r := ⟨_, rfl⟩
        have hqi : ((c : Int) + x) % 4294967296 = q := by omega
        have hri : ((c : Int) + x) / 4294967296 = r := by omega
        have HQ : Hid (c + x + 0 = q + 4294967296 * r ∧ q < 4294967296 ∧ r ≤ 1) := ⟨by omega, by omega, by omega⟩
        have HS := Lib.hid (add_step (digs a) (digs b) p j c x 0 q r HXX.out HY.out HP.out HQ.out.1 HE.out)
        have HRN := Lib.hid (HRj.out.set_ j q)
        have HRN2 : Hid (Row (wr.setCell ⟨w.heap.size + 3, j, none⟩ (.int .u32 (q : Nat))) 145 (w.heap.size + 3) ((p ++ [q]) ++ (digs a ++ [0]).drop (j + 1))) := by
          have := HRN.out; rwa [row_set HP.out HX0.out] at this
        have HXN := Lib.hid (HX.out.setCell (p := ⟨w.heap.size + 3, j, none⟩) (.inl rfl) (.int .u32 (q : Nat)))
        clear hq hr HRN HRj HX HX0 HY
        go_wp2
        go_roundw
        case rel => exact ⟨j + 1, r, p ++ [q], by omega, HQ.out.2.2, by go_num, rfl, by simp [Hid, HP.out], by
          intro d hd
          rcases List.mem_append.1 hd with hd | hd
          · exact HPL.out d hd
          · simp at hd; subst hd; exact HQ.out.2.1, HRN2, HS, HXN⟩
        case measure => simp [intOf]; omega
    · have hjk : j = k + 1 := by omega
      have HRow : Hid (Row wr 145 (w.heap.size + 3) p) := by
        have := HRj.out
        rwa [List.drop_eq_nil_of_le (by simp; have := HK.out; omega), List.append_nil] at this
      have HSum : Hid (ofD p = a + b) := by
        have := add_end (digs a) (digs b) p c (by rw [HP.out, HK.out, hjk]) (by rw [HK.out, HM.out]; exact hmk) (digs_lt _) (digs_lt _) (by rw [HK.out, ← hjk]; exact HE.out)
        rw [ofD_digs, ofD_digs] at this
        unfold Hid; omega
      have HXr := Lib.hid (HX2.out.but HX.out (by rintro g rfl; omega))
      have HCut := Lib.hid (cut_nat (some ⟨w.heap.size + 3, 0, none⟩) (k + 1) (k + 1) p wr (by rw [HP.out, hjk]) (Nat.le_refl _) (by omega) HPL.out HRow.out.digs)
      have HJ := Lib.hid hjk
      clear hjk HRj HX HP HPL HE
      go_wp2_with fail
      refine HCut.out.mono ?_
      rintro e w4 ⟨k4, rfl, hn4, hk4, hx4⟩
      have i2 := hx4.cell e2
      have i3 := hx4.free g2 (lt_of_cell e2)
      rw [HSum.out] at hn4
      have HX4 := Lib.hid (HXr.out.trans hx4)
      have HFits := Lib.hid (fits_long _ k4 (a + b) w4 hn4 (by omega) HBits.out)
      have HN4 := Lib.hid hn4
      clear hx4 e1 e2 g2 HCut hn4
      go_wp2_with fail
      refine HFits.out.mono ?_
      rintro e w5 ⟨rfl, hx5⟩
      have j2 := hx5.cell i2
      have j3 := hx5.free i3 (lt_of_cell i2)
      have j4 := setc (v := .slice none 0 0) j2
      have HX5 := Lib.hid (HX4.out.trans hx5)
      clear hx5 i2 i3
      go_wp2
      refine bodyPost_ret (v := .tuple #[.agg #[.slice none 0 0], .int .i64 3]) (by simp [results, Tryz.results101, go_sem, j4]) rfl ⟨rfl, HX5.out.setCell (p := ⟨w.heap.size + 2, 0, none⟩) (by simp only []; omega) _⟩

set_option maxRecDepth 100000 in
set_option maxHeartbeats 800000 in
theorem Add_long2 (A B : Option Addr) (k m a b : Nat) (w : World) (ha : IsNat w A k a) (hb : IsNat w B m b) (hk : k ≤ 50000) (hm : m ≤ 50000) (hkm : k < m) (hbits : 4096 < bitsN (a + b)) :
    Calls Tryz.prog 101 #[.agg #[.slice A k k], .agg #[.slice B m m]] w fun e w' => e = .returned (.tuple #[.agg #[.slice none 0 0], .int .i64 3]) ∧ Ext w w' := by
  have HA0 := ha.1
  have HB0 := hb.1
  have hx0 : Ext w (((w.alloc (.cells #[.slice B m m] 102)).alloc (.cells #[.slice A k k] 102)).alloc (.cells #[.slice none 0 0] 102)) := (((Ext.refl w).alloc _).alloc _).alloc _
  have HA := Lib.hid (hb.ext hx0)
  have HB := Lib.hid (ha.ext hx0)
  have HXW := Lib.hid hx0
  have HZ := Lib.hid (Row.zeros (((w.alloc (.cells #[.slice B m m] 102)).alloc (.cells #[.slice A k k] 102)).alloc (.cells #[.slice none 0 0] 102)) 145 (m + 1))
  have HZ1 := Lib.hid ((HA.out.alloc (.cells (zerosA (m + 1)) 145)).2)
  have hlt : (k : Int) < m := by omega
  have HK : Hid ((digs b).length = m) := HA.out.1.symm
  have HM : Hid ((digs a).length = k) := HB.out.1.symm
  have hmak := fun W => make_u32 ((m : Int) + 1) (m + 1) (by omega) (by omega) W
  have hmk : k ≤ m := by omega
  have HBits := Lib.hid hbits
  clear hx0 ha hb HA0 HB0 hbits
  go_enter Tryz.func101, Tryz.ntmps101
  go_wp2_with (with_reducible refine wpList_copy_digs rfl (.tmp 23) (.tmp 25) rfl (w.heap.size + 3) (m + 1) (m + 1) B m m rfl rfl (List.replicate (m + 1) 0) (digs b) (by simpa [World.setCell] using HZ.out) (by simp) HK.out (by omega) HZ1.out ?_)
  intro w2 HR2 HB2
  have c1 := old HB2.out (b := w.heap.size + 1) (o := 0) (v := .slice A k k) (by simp [go_sem]) (by omega)
  have c2 := old HB2.out (b := w.heap.size + 2) (o := 0) (v := .slice none 0 0) (by simp [go_sem]) (by omega)
  have f2 := oldf HB2.out (b := w.heap.size + 2) (o := 0) (by simp [go_sem]) (by omega)
  have hs2 : w.heap.size + 3 < w2.heap.size := by have := Below.size HB2.out; simp at this; omega
  have HR : Hid (Row w2 145 (w.heap.size + 3) (digs b ++ [0])) := by
    have := HR2.out
    have e : List.drop m (List.replicate (m + 1) 0) = [0] := by simp
    first | exact this | (rw [e] at this; exact this) | (simpa using this)
  have HXN : Hid (Ext (((w.alloc (.cells #[.slice B m m] 102)).alloc (.cells #[.slice A k k] 102)).alloc (.cells #[.slice none 0 0] 102)) w2) := by
    refine Below.trans (b := (((w.alloc (.cells #[.slice B m m] 102)).alloc (.cells #[.slice A k k] 102)).alloc (.cells #[.slice none 0 0] 102)).alloc (.cells (zerosA (m + 1)) 145)) ((Ext.refl _).alloc _) (Below.mono HB2.out (by simp [World.setCell]))
  have HBd := Lib.hid ((HB.out.ext HXN.out).2)
  have HX2 := Lib.hid (HXW.out.trans HXN.out)
  have HNE : Hid (∀ o, A ≠ some ⟨w.heap.size + 3, o, none⟩ ∨ k = 0) := by
    intro o
    rcases Nat.eq_zero_or_pos k with h0 | h0
    · exact .inr h0
    · obtain ⟨b2, o2, d, e, hlt, _⟩ := HB.out.cell 0 h0
      refine .inl ?_
      rw [e]; intro he; injection he with he; injection he with h1 _; simp [World.setCell] at hlt; omega
  clear HR2 HB2 HZ HZ1 HA HB HXN HXW
  go_wp2
  go_loopw [7, 29] (fun cv i wr => ∃ (j c : Nat) (p : List Nat), j ≤ m + 1 ∧ c ≤ 1 ∧ i = .int .i64 j ∧ cv = .int .u64 c ∧ Hid (p.length = j) ∧ Hid (∀ d ∈ p, d < 4294967296) ∧ Hid (Row wr 145 (w.heap.size + 3) (p ++ (digs b ++ [0]).drop j)) ∧ Hid (ofD p + 4294967296 ^ j * c = ofD ((digs b).take j) + ofD ((digs a).take j)) ∧ Hid (ExtBut (· = w.heap.size + 3) w2 wr)) (fun _ i _ => m + 1 - (intOf i).toNat)
  case atStart => exact ⟨0, 0, [], Nat.zero_le _, by omega, rfl, rfl, rfl, by simp [Hid], by simpa [Hid] using HR.out, by simp [Hid, ofD], ExtBut.refl _ _⟩
  case round =>
    obtain ⟨j, c, p, hj, hc, rfl, rfl, HP, HPL, HRj, HE, HX⟩ := hrel
    have e1 := HX.out.cell c1 (by omega)
    have e2 := HX.out.cell c2 (by omega)
    have g2 := HX.out.free f2 (by omega) (by omega)
    by_cases h0 : j < m + 1
    · obtain ⟨x, hx0⟩ : ∃ x, (digs b ++ [0])[j]? = some x := ⟨_, List.getElem?_eq_getElem (by simp; have := HK.out; omega)⟩
      have HXX : Hid (x = ((digs b)[j]?).getD 0) := by rw [← getD_snoc0, hx0]; rfl
      have hxl : x < 4294967296 := by rw [HXX.out]; exact getD_lt (digs_lt b) j
      have cx := HRj.out.cell (row_at HP.out hx0)
      have fx := HRj.out.free j
      have HX0 := Lib.hid hx0
      clear hx0
      have k1 : (0 : Int) ≤ (c : Int) + x := by omega
      by_cases h1 : j < k
      · obtain ⟨b2, o2, eB, hb2, hc2⟩ := HBd.out.cell j (by have := HM.out; omega)
        have hne2 : ¬ b2 = w.heap.size + 3 := fun e => by rcases HNE.out o2 with h2 | h2; exact h2 (by rw [eB, e]); omega
        have hyl : (digs a)[j]'(by have := HM.out; omega) < 4294967296 := digs_lt _ _ (List.getElem_mem _)
        have HY : Hid ((digs a)[j]'(by have := HM.out; omega) = ((digs a)[j]?).getD 0) := by rw [List.getElem?_eq_getElem (by have := HM.out; omega)]; rfl
        have cy := HX.out.cell hc2 hne2
        generalize (digs a)[j]'(by have := HM.out; omega) = y at *
        obtain ⟨q, hq⟩ : ∃ q, (c + x + y) % 4294967296 = q := ⟨_, rfl⟩
        obtain ⟨r, hr⟩ : ∃ r, (c + x + y) / 4294967296 = r := ⟨_, rfl⟩
        have hqi : ((c : Int) + x + y) % 4294967296 = q := by omega
        have hri : ((c : Int) + x + y) / 4294967296 = r := by omega
        have HQ : Hid (c + x + y = q + 4294967296 * r ∧ q < 4294967296 ∧ r ≤ 1) := ⟨by omega, by omega, by omega⟩
        have HS := Lib.hid (add_step (digs b) (digs a) p j c x y q r HXX.out HY.out HP.out HQ.out.1 HE.out)
        have HRN := Lib.hid (HRj.out.set_ j q)
        have HRN2 : Hid (Row (wr.setCell ⟨w.heap.size + 3, j, none⟩ (.int .u32 (q : Nat))) 145 (w.heap.size + 3) ((p ++ [q]) ++ (digs b ++ [0]).drop (j + 1))) := by
          have := HRN.out; rwa [row_set HP.out HX0.out] at this
        have HXN := Lib.hid (HX.out.setCell (p := ⟨w.heap.size + 3, j, none⟩) (.inl rfl) (.int .u32 (q : Nat)))
        clear hq hr hc2 HRN HRj HX HX0 HY
        cases eB
        go_wp2
        go_roundw
        case rel => exact ⟨j + 1, r, p ++ [q], by omega, HQ.out.2.2, by go_num, rfl, by simp [Hid, HP.out], by
          intro d hd
          rcases List.mem_append.1 hd with hd | hd
          · exact HPL.out d hd
          · simp at hd; subst hd; exact HQ.out.2.1, HRN2, HS, HXN⟩
        case measure => simp [intOf]; omega
      · have HY : Hid ((0 : Nat) = ((digs a)[j]?).getD 0) := by rw [List.getElem?_eq_none (by have := HM.out; omega)]; rfl
        obtain ⟨q, hq⟩ : ∃ q, (c + x) % 4294967296 = q := ⟨_, rfl⟩
        obtain ⟨r, hr⟩ : ∃ r, (c + x) / 4294967296 = r := ⟨_, rfl⟩
        have hqi : ((c : Int) + x) % 4294967296 = q := by omega
        have hri : ((c : Int) + x) / 4294967296 = r := by omega
        have HQ : Hid (c + x + 0 = q + 4294967296 * r ∧ q < 4294967296 ∧ r ≤ 1) := ⟨by omega, by omega, by omega⟩
        have HS := Lib.hid (add_step (digs b) (digs a) p j c x 0 q r HXX.out HY.out HP.out HQ.out.1 HE.out)
        have HRN := Lib.hid (HRj.out.set_ j q)
        have HRN2 : Hid (Row (wr.setCell ⟨w.heap.size + 3, j, none⟩ (.int .u32 (q : Nat))) 145 (w.heap.size + 3) ((p ++ [q]) ++ (digs b ++ [0]).drop (j + 1))) := by
          have := HRN.out; rwa [row_set HP.out HX0.out] at this
        have HXN := Lib.hid (HX.out.setCell (p := ⟨w.heap.size + 3, j, none⟩) (.inl rfl) (.int .u32 (q : Nat)))
        clear hq hr HRN HRj HX HX0 HY
        go_wp2
        go_roundw
        case rel => exact ⟨j + 1, r, p ++ [q], by omega, HQ.out.2.2, by go_num, rfl, by simp [Hid, HP.out], by
          intro d hd
          rcases List.mem_append.1 hd with hd | hd
          · exact HPL.out d hd
          · simp at hd; subst hd; exact HQ.out.2.1, HRN2, HS, HXN⟩
        case measure => simp [intOf]; omega
    · have hjk : j = m + 1 := by omega
      have HRow : Hid (Row wr 145 (w.heap.size + 3) p) := by
        have := HRj.out
        rwa [List.drop_eq_nil_of_le (by simp; have := HK.out; omega), List.append_nil] at this
      have HSum : Hid (ofD p = a + b) := by
        have := add_end (digs b) (digs a) p c (by rw [HP.out, HK.out, hjk]) (by rw [HK.out, HM.out]; exact hmk) (digs_lt _) (digs_lt _) (by rw [HK.out, ← hjk]; exact HE.out)
        rw [ofD_digs, ofD_digs] at this
        unfold Hid; omega
      have HXr := Lib.hid (HX2.out.but HX.out (by rintro g rfl; omega))
      have HCut := Lib.hid (cut_nat (some ⟨w.heap.size + 3, 0, none⟩) (m + 1) (m + 1) p wr (by rw [HP.out, hjk]) (Nat.le_refl _) (by omega) HPL.out HRow.out.digs)
      have HJ := Lib.hid hjk
      clear hjk HRj HX HP HPL HE
      go_wp2_with fail
      refine HCut.out.mono ?_
      rintro e w4 ⟨k4, rfl, hn4, hk4, hx4⟩
      have i2 := hx4.cell e2
      have i3 := hx4.free g2 (lt_of_cell e2)
      rw [HSum.out] at hn4
      have HX4 := Lib.hid (HXr.out.trans hx4)
      have HFits := Lib.hid (fits_long _ k4 (a + b) w4 hn4 (by omega) HBits.out)
      have HN4 := Lib.hid hn4
      clear hx4 e1 e2 g2 HCut hn4
      go_wp2_with fail
      refine HFits.out.mono ?_
      rintro e w5 ⟨rfl, hx5⟩
      have j2 := hx5.cell i2
      have j3 := hx5.free i3 (lt_of_cell i2)
      have j4 := setc (v := .slice none 0 0) j2
      have HX5 := Lib.hid (HX4.out.trans hx5)
      clear hx5 i2 i3
      go_wp2
      refine bodyPost_ret (v := .tuple #[.agg #[.slice none 0 0], .int .i64 3]) (by simp [results, Tryz.results101, go_sem, j4]) rfl ⟨rfl, HX5.out.setCell (p := ⟨w.heap.size + 2, 0, none⟩) (by simp only []; omega) _⟩

theorem Add_ok (A B : Option Addr) (k m a b : Nat) (w : World) (ha : IsNat w A k a) (hb : IsNat w B m b) (hk : k ≤ 50000) (hm : m ≤ 50000) (hbits : bitsN (a + b) ≤ 4096) :
    Calls Tryz.prog 101 #[.agg #[.slice A k k], .agg #[.slice B m m]] w fun e w' => ∃ A' k', e = .returned (.tuple #[.agg #[.slice A' k' k'], .int .i64 0]) ∧ IsNat w' A' k' (a + b) ∧ k' ≤ max k m + 1 ∧ Ext w w' := by
  rcases Nat.lt_or_ge k m with h | h
  · exact Add_ok2 A B k m a b w ha hb hk hm h hbits
  · exact Add_ok1 A B k m a b w ha hb hk hm h hbits

theorem Add_long (A B : Option Addr) (k m a b : Nat) (w : World) (ha : IsNat w A k a) (hb : IsNat w B m b) (hk : k ≤ 50000) (hm : m ≤ 50000) (hbits : 4096 < bitsN (a + b)) :
    Calls Tryz.prog 101 #[.agg #[.slice A k k], .agg #[.slice B m m]] w fun e w' => e = .returned (.tuple #[.agg #[.slice none 0 0], .int .i64 3]) ∧ Ext w w' := by
  rcases Nat.lt_or_ge k m with h | h
  · exact Add_long2 A B k m a b w ha hb hk hm h hbits
  · exact Add_long1 A B k m a b w ha hb hk hm h hbits
end Go.Proofs.YtiihnoelclnahaaGreatDoor
