/- nat.down. -/
import Derived.Test.YtiihnoelclnahaaGreatDoorNatUp
namespace Go.Proofs.YtiihnoelclnahaaGreatDoor
open Go.RowKit
set_option linter.unusedVariables false

theorem or_high (d y : Nat) (hd : d < 4294967296) (hy : y < 4294967296) : bits .or .u64 (d : Int) ((y : Int) * 4294967296) = ((d + y * 4294967296 : Nat) : Int) := by
  have e : (y : Int) * 4294967296 = ((y * 4294967296 : Nat) : Int) := by simp
  rw [e, (bits_nat .u64 64 (by decide) wraps_u64 d (y * 4294967296) (by omega) (by omega)).2]
  congr 1
  rw [Nat.or_comm, Nat.mul_comm y, ← Nat.two_pow_add_eq_or_of_lt (i := 32) hd y]
  omega

theorem ofD_drop_div (l : List Nat) (j : Nat) (hl : ∀ d ∈ l, d < 4294967296) : ofD l / 4294967296 ^ j = ofD (l.drop j) := by
  rcases Nat.lt_or_ge l.length j with h | h
  · rw [List.drop_eq_nil_of_le (by omega)]
    refine Nat.div_eq_of_lt (Nat.lt_of_lt_of_le (ofD_lt l hl) (Nat.pow_le_pow_right (by omega) (by omega)))
  · have e := ofD_take_drop l j h
    have h2 := ofD_lt (l.take j) (fun d hd => hl d (List.mem_of_mem_take hd))
    have h3 : (l.take j).length = j := by simp; omega
    rw [h3] at h2
    rw [e, Nat.add_mul_div_left _ _ (Nat.pow_pos (by omega)), Nat.div_eq_of_lt h2, Nat.zero_add]

theorem ofD_drop_cons (l : List Nat) (j : Nat) : ofD (l.drop j) = (l[j]?).getD 0 + 4294967296 * ofD (l.drop (j + 1)) := by
  rcases Nat.lt_or_ge j l.length with h | h
  · rw [List.drop_eq_getElem_cons h, List.getElem?_eq_getElem h]; rfl
  · rw [List.drop_eq_nil_of_le h, List.drop_eq_nil_of_le (by omega), List.getElem?_eq_none h]; rfl

theorem down_digit (x h n : Nat) (hn : n < 32) : (x + 4294967296 * (4294967296 * h)) / 2 ^ n % 4294967296 = x / 2 ^ n % 4294967296 := by
  have e : (4294967296 : Nat) = 2 ^ n * 2 ^ (32 - n) := by rw [← Nat.pow_add, show n + (32 - n) = 32 by omega]
  have e2 : 4294967296 * (4294967296 * h) = 2 ^ n * (4294967296 * (2 ^ (32 - n) * h)) := by
    conv => lhs; lhs; rw [e]
    rw [Nat.mul_assoc]
    congr 1
    rw [← Nat.mul_assoc, Nat.mul_comm (2 ^ (32 - n)), Nat.mul_assoc]
  rw [e2, Nat.add_mul_div_left _ _ (Nat.two_pow_pos n), Nat.add_mul_mod_self_left]

theorem down_step (l p : List Nat) (j n q x y : Nat) (hn : n < 32) (hl : ∀ d ∈ l, d < 4294967296) (hx : x = (l[j]?).getD 0) (hy : y = (l[j + 1]?).getD 0) (hp : p.length = j) (e : (x + y * 4294967296) / 2 ^ n % 4294967296 = q)
    (h : ofD p = ofD l / 2 ^ n % 4294967296 ^ j) : ofD (p ++ [q]) = ofD l / 2 ^ n % 4294967296 ^ (j + 1) := by
  rw [ofD_snoc, hp, Nat.pow_succ, Nat.mod_mul, ← h, Nat.div_div_eq_div_mul, Nat.mul_comm (2 ^ n), ← Nat.div_div_eq_div_mul, ofD_drop_div l j hl, ofD_drop_cons l j, ofD_drop_cons l (j + 1), ← hx, ← hy, ← e]
  rw [Nat.mul_add, ← Nat.add_assoc, Nat.mul_comm 4294967296 y]
  rw [down_digit _ _ n hn]

theorem down_names (d y n : Nat) (hn : n < 32) (hd : d < 4294967296) (hy : y < 4294967296) : ∃ s t q : Nat, bits .or .u64 (d : Int) ((y : Int) * 4294967296) = (s : Int) ∧ (s : Int) / 2 ^ n = t ∧ (t : Int) % 4294967296 = q ∧ ((d + y * 4294967296) / 2 ^ n % 4294967296 = q ∧ q < 4294967296) :=
  ⟨d + y * 4294967296, (d + y * 4294967296) / 2 ^ n, _, or_high d y hd hy, by simp, rfl, by simp, Nat.mod_lt _ (by omega)⟩

theorem down_any (A : Option Addr) (m c0 : Nat) (l : List Nat) (n : Nat) (w : World) (hm : m = l.length) (hmk : m ≤ 100000) (hl : ∀ d ∈ l, d < 4294967296) (hA : Digs w A l) (hn : n < 32) :
    Calls Tryz.prog 127 #[.slice A m c0, .int .i64 n] w fun e w' => ∃ A' k', e = .returned (.agg #[.slice A' k' k']) ∧ IsNat w' A' k' (ofD l / 2 ^ n) ∧ k' ≤ m ∧ Ext w w' := by
  have HMK := Lib.hid hm; clear hm
  have HL := Lib.hid hl; clear hl
  have HA := Lib.hid hA; clear hA
  have hmak := fun W => make_u32 (m : Int) m rfl (by omega) W
  have HZ0 := Row.zeros (w.alloc (.cells #[.slice none 0 0] 102)) 145 m
  rw [World.size_alloc] at HZ0
  have HZ := Lib.hid HZ0
  clear HZ0
  have HX0 := Lib.hid (((Ext.refl w).alloc (.cells #[.slice none 0 0] 102)).alloc (.cells (zerosA m) 145))
  go_enter Tryz.func127, Tryz.ntmps127
  go_wp2
  obtain ⟨W0, hW0⟩ : ∃ W0 : World, (w.alloc (.cells #[.slice none 0 0] 102)).alloc (.cells (zerosA m) 145) = W0 := ⟨_, rfl⟩
  have c2 : W0.cell? ⟨w.heap.size, 0, none⟩ = some (.slice none 0 0) := by rw [← hW0]; simp [go_sem]
  have f2 : W0.frozen? ⟨w.heap.size, 0, none⟩ = false := by rw [← hW0]; simp [go_sem]
  rw [hW0] at HZ HX0
  rw [hW0]
  have hs0 : w.heap.size + 1 < W0.heap.size := by rw [← hW0]; simp
  clear hW0 hmak
  go_loopw [13] (fun iv wr => ∃ (j : Nat) (p : List Nat), j ≤ m ∧ iv = .int .i64 j ∧ Hid (p.length = j) ∧ Hid (∀ d ∈ p, d < 4294967296) ∧ Hid (∃ z, Row wr 145 (w.heap.size + 1) (p ++ z) ∧ z.length = m - j) ∧ Hid (ofD p = ofD l / 2 ^ n % 4294967296 ^ j) ∧ Hid (ExtBut (· = w.heap.size + 1) W0 wr)) (fun i _ => m - (intOf i).toNat)
  case atStart => exact ⟨0, [], Nat.zero_le _, rfl, rfl, by simp [Hid], ⟨_, HZ.out, by simp⟩, by simp [Hid, ofD, Nat.mod_one], ExtBut.refl _ _⟩
  case round =>
    obtain ⟨j, p, hj, rfl, HP, HPL, HRj, HE, HX⟩ := hrel
    have e2 := HX.out.cell c2 (by omega)
    have g2 := HX.out.free f2 (by omega) (by omega)
    by_cases h0 : j < m
    · obtain ⟨z, hz, hzl⟩ := HRj.out
      obtain ⟨z0, zs, rfl⟩ : ∃ z0 zs, z = z0 :: zs := by
        cases z with
        | nil => simp at hzl; omega
        | cons a b => exact ⟨a, b, rfl⟩
      have cz : wr.cell? ⟨w.heap.size + 1, j, none⟩ = some (.int .u32 (z0 : Int)) := hz.cell (by rw [List.getElem?_append_right (by have := HP.out; omega), HP.out, Nat.sub_self]; rfl)
      have fz := hz.free j
      have hn0 : (0 : Int) ≤ n := by omega
      obtain ⟨b2, o2, eB, hb2, hc2⟩ := HA.out.cell j (by have := HMK.out; omega)
      have HDE : Hid (l[j]'(by have := HMK.out; omega) = (l[j]?).getD 0) := by rw [List.getElem?_eq_getElem (by have := HMK.out; omega)]; rfl
      have hd : l[j]'(by have := HMK.out; omega) < 4294967296 := HL.out _ (List.getElem_mem _)
      have hne2 : ¬ b2 = w.heap.size + 1 := by omega
      have cx := HX.out.cell (HX0.out.cell hc2) hne2
      generalize l[j]'(by have := HMK.out; omega) = d at *
      by_cases h1 : j + 1 < m
      · obtain ⟨b3, o3, eC, hb3, hc3⟩ := HA.out.cell (j + 1) (by have := HMK.out; omega)
        have HYE : Hid (l[j + 1]'(by have := HMK.out; omega) = (l[j + 1]?).getD 0) := by rw [List.getElem?_eq_getElem (by have := HMK.out; omega)]; rfl
        have hy : l[j + 1]'(by have := HMK.out; omega) < 4294967296 := HL.out _ (List.getElem_mem _)
        have hne3 : ¬ b3 = w.heap.size + 1 := by omega
        have cy := HX.out.cell (HX0.out.cell hc3) hne3
        generalize l[j + 1]'(by have := HMK.out; omega) = y at *
        cases eB
        cases eC
        obtain ⟨s, t, q, hs1, hs2, hs3, hs4⟩ := down_names d y n hn hd hy
        have HS := Lib.hid hs4
        clear hs4
        have HSt := Lib.hid (down_step l p j n q d y hn HL.out HDE.out HYE.out HP.out HS.out.1 HE.out)
        have HRN : Hid (∃ z, Row (wr.setCell ⟨w.heap.size + 1, j, none⟩ (.int .u32 (q : Nat))) 145 (w.heap.size + 1) ((p ++ [q]) ++ z) ∧ z.length = m - (j + 1)) := by
          have := hz.set_ j q
          have e : (p ++ z0 :: zs).set j q = (p ++ [q]) ++ zs := by rw [List.set_append_right _ _ (by have := HP.out; omega), HP.out, Nat.sub_self, List.set_cons_zero, List.append_assoc, List.singleton_append]
          rw [e] at this
          exact ⟨zs, this, by simp at hzl; omega⟩
        have HXN := Lib.hid (HX.out.setCell (p := ⟨w.heap.size + 1, j, none⟩) (.inl rfl) (.int .u32 (q : Nat)))
        clear hz hzl HX HRj hc2 hc3
        go_wp2
        go_roundw
        case rel => exact ⟨j + 1, p ++ [q], by omega, by go_num, by simp [Hid, HP.out], by
          intro d hd
          rcases List.mem_append.1 hd with hd | hd
          · exact HPL.out d hd
          · simp at hd; subst hd; exact HS.out.2, HRN, HSt, HXN⟩
        case measure => simp [intOf]; omega
      · have HYE : Hid ((0 : Nat) = (l[j + 1]?).getD 0) := by rw [List.getElem?_eq_none (by have := HMK.out; omega)]; rfl
        cases eB
        obtain ⟨t, q, hs2, hs3, hs4⟩ : ∃ t q : Nat, (d : Int) / 2 ^ n = t ∧ (t : Int) % 4294967296 = q ∧ ((d + 0 * 4294967296) / 2 ^ n % 4294967296 = q ∧ q < 4294967296) :=
          ⟨d / 2 ^ n, _, by simp, by simp; rfl, by simp, Nat.mod_lt _ (by omega)⟩
        have HS := Lib.hid hs4
        clear hs4
        have HSt := Lib.hid (down_step l p j n q d 0 hn HL.out HDE.out HYE.out HP.out HS.out.1 HE.out)
        have HRN : Hid (∃ z, Row (wr.setCell ⟨w.heap.size + 1, j, none⟩ (.int .u32 (q : Nat))) 145 (w.heap.size + 1) ((p ++ [q]) ++ z) ∧ z.length = m - (j + 1)) := by
          have := hz.set_ j q
          have e : (p ++ z0 :: zs).set j q = (p ++ [q]) ++ zs := by rw [List.set_append_right _ _ (by have := HP.out; omega), HP.out, Nat.sub_self, List.set_cons_zero, List.append_assoc, List.singleton_append]
          rw [e] at this
          exact ⟨zs, this, by simp at hzl; omega⟩
        have HXN := Lib.hid (HX.out.setCell (p := ⟨w.heap.size + 1, j, none⟩) (.inl rfl) (.int .u32 (q : Nat)))
        clear hz hzl HX HRj hc2
        go_wp2
        go_roundw
        case rel => exact ⟨j + 1, p ++ [q], by omega, by go_num, by simp [Hid, HP.out], by
          intro d hd
          rcases List.mem_append.1 hd with hd | hd
          · exact HPL.out d hd
          · simp at hd; subst hd; exact HS.out.2, HRN, HSt, HXN⟩
        case measure => simp [intOf]; omega
    · obtain rfl : j = m := by omega
      have HR : Hid (Row wr 145 (w.heap.size + 1) p) := by
        obtain ⟨z, hz, hzl⟩ := HRj.out
        have : z = [] := List.eq_nil_of_length_eq_zero (by omega)
        rw [this, List.append_nil] at hz
        exact hz
      have HV : Hid (ofD p = ofD l / 2 ^ n) := by
        have := HE.out
        rwa [Nat.mod_eq_of_lt] at this
        refine Nat.lt_of_le_of_lt (Nat.div_le_self _ _) ?_
        have h2 := ofD_lt l HL.out
        rwa [← HMK.out] at h2
      have HXX := Lib.hid (HX0.out.but HX.out (by rintro g rfl; omega))
      have HCut := Lib.hid (cut_nat (some ⟨w.heap.size + 1, 0, none⟩) j j p wr HP.out.symm (Nat.le_refl _) (by omega) HPL.out HR.out.digs)
      clear HRj HE HX
      go_wp2_with fail
      refine HCut.out.mono ?_
      rintro e w4 ⟨k4, rfl, hn4, hk4, hx4⟩
      have i2 := hx4.cell e2
      have i3 := hx4.free g2 (lt_of_cell e2)
      have i4 := setc (v := .slice (some ⟨w.heap.size + 1, 0, none⟩) k4 k4) i2
      rw [HV.out] at hn4
      have HX4 := Lib.hid (HXX.out.trans hx4)
      have HN4 := Lib.hid hn4
      clear hx4 e2 g2 HCut hn4
      go_wp2
      refine bodyPost_ret (v := .agg #[.slice (some ⟨w.heap.size + 1, 0, none⟩) k4 k4]) (by simp [results, Tryz.results127, go_sem, i4]) rfl ⟨_, k4, rfl, HN4.out.setBox i2 _, hk4, HX4.out.setCell (p := ⟨w.heap.size, 0, none⟩) (Nat.le_refl _) _⟩
end Go.Proofs.YtiihnoelclnahaaGreatDoor
