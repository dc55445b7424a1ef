/- nat.up, nat.down. -/
import Derived.Test.YtiihnoelclnahaaGreatDoorNatShort
namespace Go.Proofs.YtiihnoelclnahaaGreatDoor
open Go.RowKit
set_option linter.unusedVariables false

theorem pow32_le {n : Nat} (hn : n < 32) : 2 ^ n ≤ 2147483648 := Nat.le_trans (Nat.pow_le_pow_right (by omega) (Nat.le_of_lt_succ hn)) (Nat.le_refl (2 ^ 31))

theorem or_low (c d n : Nat) (hc : c < 2 ^ n) (hn : n < 32) (hd : d < 4294967296) : bits .or .u64 (c : Int) (IntKind.u64.wrap ((d : Int) * 2 ^ n)) = ((c + d * 2 ^ n : Nat) : Int) := by
  have hp := pow32_le hn
  have h1 : d * 2 ^ n ≤ 4294967295 * 2147483648 := Nat.mul_le_mul (by omega) hp
  have e : (d : Int) * 2 ^ n = ((d * 2 ^ n : Nat) : Int) := by simp
  rw [e, wraps_u64 _ (by omega) (by omega), (bits_nat .u64 64 (by decide) wraps_u64 c (d * 2 ^ n) (by omega) (by omega)).2]
  congr 1
  rw [Nat.or_comm, Nat.mul_comm d, ← Nat.two_pow_add_eq_or_of_lt hc d]
  omega

theorem up_names (c d n : Nat) (hc : c < 2 ^ n) (hn : n < 32) (hd : d < 4294967296) : ∃ s q r : Nat, bits .or .u64 (c : Int) (IntKind.u64.wrap ((d : Int) * 2 ^ n)) = (s : Int) ∧ (s : Int) % 4294967296 = q ∧ (s : Int) / 4294967296 = r ∧
    (c + d * 2 ^ n = q + 4294967296 * r ∧ q < 4294967296 ∧ r < 2 ^ n ∧ r < 2147483648) := by
  have hp := pow32_le hn
  refine ⟨c + d * 2 ^ n, (c + d * 2 ^ n) % 4294967296, (c + d * 2 ^ n) / 4294967296, or_low c d n hc hn hd, by simp, by simp, (Nat.mod_add_div _ _).symm, Nat.mod_lt _ (by omega), ?_, ?_⟩
  · exact Nat.div_lt_of_lt_mul (by
      have : (d + 1) * 2 ^ n ≤ 4294967296 * 2 ^ n := Nat.mul_le_mul_right _ hd
      rw [Nat.add_mul] at this; omega)
  · refine Nat.lt_of_lt_of_le (m := 2 ^ n) ?_ hp
    exact Nat.div_lt_of_lt_mul (by
      have : (d + 1) * 2 ^ n ≤ 4294967296 * 2 ^ n := Nat.mul_le_mul_right _ hd
      rw [Nat.add_mul] at this; omega)

theorem up_step_nat (R c dn q r op ol : Nat) (e : c + dn = q + 4294967296 * r) (h : op + R * c = ol) : op + R * q + R * 4294967296 * r = ol + R * dn := by
  have := congrArg (R * ·) e
  simp only [Nat.mul_add] at this
  rw [Nat.mul_assoc]
  omega

theorem up_step (l p : List Nat) (j c d n q r : Nat) (hd : d = (l[j]?).getD 0) (hp : p.length = j) (e : c + d * 2 ^ n = q + 4294967296 * r) (h : ofD p + 4294967296 ^ j * c = ofD (l.take j) * 2 ^ n) :
    ofD (p ++ [q]) + 4294967296 ^ (j + 1) * r = ofD (l.take (j + 1)) * 2 ^ n := by
  rw [ofD_take_succ', ← hd, ofD_snoc, hp, Nat.pow_succ, Nat.add_mul, Nat.mul_assoc _ d]
  exact up_step_nat _ _ _ _ _ _ _ e h

theorem up_end (B x c y : Nat) (h : x + B * c = y) (hy : y < B) : x = y := by
  rcases Nat.eq_zero_or_pos c with h0 | h0
  · subst h0; simpa using h
  · have : B * 1 ≤ B * c := Nat.mul_le_mul_left _ h0
    omega

/-- How far digits are shifted: below 32. -/
theorem up_any (A : Option Addr) (m c0 : Nat) (l : List Nat) (n size : Nat) (w : World) (hm : m = l.length) (hmk : m ≤ 100000) (hl : ∀ d ∈ l, d < 4294967296) (hA : Digs w A l) (hn : n < 32) (hsz : size ≤ 100000) (hms : m ≤ size)
    (hfit : ofD l * 2 ^ n < 4294967296 ^ size) :
    Calls Tryz.prog 125 #[.slice A m c0, .int .i64 n, .int .i64 size] w fun e w' => ∃ (g : Nat) (p : List Nat), e = .returned (.slice (some ⟨g, 0, none⟩) size size) ∧ w.heap.size ≤ g ∧ Row w' 145 g p ∧ p.length = size ∧ (∀ d ∈ p, d < 4294967296) ∧ ofD p = ofD l * 2 ^ n ∧ Ext w w' := by
  have HMK := Lib.hid hm; clear hm
  have HL := Lib.hid hl; clear hl
  have HA := Lib.hid hA; clear hA
  have HF := Lib.hid hfit; clear hfit
  have hmak := fun W => make_u32 (size : Int) size rfl (by omega) W
  have HZ := Lib.hid (Row.zeros w 145 size)
  have HX0 := Lib.hid ((Ext.refl w).alloc (.cells (zerosA size) 145))
  go_enter Tryz.func125, Tryz.ntmps125
  go_wp2
  obtain ⟨W0, hW0⟩ : ∃ W0 : World, w.alloc (.cells (zerosA size) 145) = W0 := ⟨_, rfl⟩
  rw [hW0] at HZ HX0
  rw [hW0]
  have hs0 : w.heap.size < W0.heap.size := by rw [← hW0]; simp
  clear hW0 hmak
  go_loopw [8, 14] (fun cv iv wr => ∃ (j c : Nat) (p : List Nat), j ≤ size ∧ c < 2147483648 ∧ Hid (c < 2 ^ n) ∧ iv = .int .i64 j ∧ cv = .int .u64 c ∧ Hid (p.length = j) ∧ Hid (∀ d ∈ p, d < 4294967296) ∧ Hid (∃ z, Row wr 145 w.heap.size (p ++ z) ∧ z.length = size - j) ∧ Hid (ofD p + 4294967296 ^ j * c = ofD (l.take j) * 2 ^ n) ∧ Hid (ExtBut (· = w.heap.size) W0 wr)) (fun _ i _ => size - (intOf i).toNat)
  case atStart => exact ⟨0, 0, [], Nat.zero_le _, by omega, Nat.two_pow_pos _, rfl, rfl, rfl, by simp [Hid], ⟨_, HZ.out, by simp⟩, by simp [Hid, ofD], ExtBut.refl _ _⟩
  case round =>
    obtain ⟨j, c, p, hj, hc, HC, rfl, rfl, HP, HPL, HRj, HE, HX⟩ := hrel
    by_cases h0 : j < size
    · obtain ⟨z, hz, hzl⟩ := HRj.out
      obtain ⟨z0, zs, rfl⟩ : ∃ z0 zs, z = z0 :: zs := by
        cases z with
        | nil => simp at hzl; omega
        | cons a b => exact ⟨a, b, rfl⟩
      have cz : wr.cell? ⟨w.heap.size, j, none⟩ = some (.int .u32 (z0 : Int)) := hz.cell (by rw [List.getElem?_append_right (by have := HP.out; omega), HP.out, Nat.sub_self]; rfl)
      have fz := hz.free j
      have hn0 : (0 : Int) ≤ n := by omega
      by_cases h1 : j < m
      · obtain ⟨b2, o2, eB, hb2, hc2⟩ := HA.out.cell j (by have := HMK.out; omega)
        have HDE : Hid (l[j]'(by have := HMK.out; omega) = (l[j]?).getD 0) := by rw [List.getElem?_eq_getElem (by have := HMK.out; omega)]; rfl
        have hd : l[j]'(by have := HMK.out; omega) < 4294967296 := HL.out _ (List.getElem_mem _)
        have hne2 : ¬ b2 = w.heap.size := by omega
        have cy := HX.out.cell (HX0.out.cell hc2) hne2
        generalize l[j]'(by have := HMK.out; omega) = d at *
        cases eB
        obtain ⟨s, q, r, hs1, hs2, hs3, hs4⟩ := up_names c d n HC.out hn hd
        have HS := Lib.hid hs4
        clear hs4
        have HSt := Lib.hid (up_step l p j c d n q r HDE.out HP.out HS.out.1 HE.out)
        have HRN : Hid (∃ z, Row (wr.setCell ⟨w.heap.size, j, none⟩ (.int .u32 (q : Nat))) 145 w.heap.size ((p ++ [q]) ++ z) ∧ z.length = size - (j + 1)) := by
          have := hz.set_ j q
          have e : (p ++ z0 :: zs).set j q = (p ++ [q]) ++ zs := by rw [List.set_append_right _ _ (by have := HP.out; omega), HP.out, Nat.sub_self, List.set_cons_zero, List.append_assoc, List.singleton_append]
          rw [e] at this
          exact ⟨zs, this, by simp at hzl; omega⟩
        have HXN := Lib.hid (HX.out.setCell (p := ⟨w.heap.size, j, none⟩) (.inl rfl) (.int .u32 (q : Nat)))
        clear hz hzl HX HRj
        go_wp2
        go_roundw
        case rel => exact ⟨j + 1, r, p ++ [q], by omega, HS.out.2.2.2, HS.out.2.2.1, by go_num, rfl, by simp [Hid, HP.out], by
          intro d hd
          rcases List.mem_append.1 hd with hd | hd
          · exact HPL.out d hd
          · simp at hd; subst hd; exact HS.out.2.1, HRN, HSt, HXN⟩
        case measure => simp [intOf]; omega
      · have hs2 : (c : Int) % 4294967296 = c := by omega
        have hs3 : (c : Int) / 4294967296 = (0 : Nat) := by omega
        have HSt := Lib.hid (up_step l p j c 0 n c 0 (by rw [List.getElem?_eq_none (by have := HMK.out; omega)]; rfl) HP.out (by simp) HE.out)
        have HRN : Hid (∃ z, Row (wr.setCell ⟨w.heap.size, j, none⟩ (.int .u32 (c : Nat))) 145 w.heap.size ((p ++ [c]) ++ z) ∧ z.length = size - (j + 1)) := by
          have := hz.set_ j c
          have e : (p ++ z0 :: zs).set j c = (p ++ [c]) ++ zs := by rw [List.set_append_right _ _ (by have := HP.out; omega), HP.out, Nat.sub_self, List.set_cons_zero, List.append_assoc, List.singleton_append]
          rw [e] at this
          exact ⟨zs, this, by simp at hzl; omega⟩
        have HXN := Lib.hid (HX.out.setCell (p := ⟨w.heap.size, j, none⟩) (.inl rfl) (.int .u32 (c : Nat)))
        clear hz hzl HX HRj
        go_wp2
        go_roundw
        case rel => exact ⟨j + 1, 0, p ++ [c], by omega, by omega, Nat.two_pow_pos _, by go_num, rfl, by simp [Hid, HP.out], by
          intro d hd
          rcases List.mem_append.1 hd with hd | hd
          · exact HPL.out d hd
          · simp at hd; omega, HRN, HSt, HXN⟩
        case measure => simp [intOf]; omega
    · obtain rfl : j = size := by omega
      have HR : Hid (Row wr 145 w.heap.size p) := by
        obtain ⟨z, hz, hzl⟩ := HRj.out
        have : z = [] := List.eq_nil_of_length_eq_zero (by omega)
        rw [this, List.append_nil] at hz
        exact hz
      have HV : Hid (ofD p = ofD l * 2 ^ n) := by
        have := HE.out
        rw [List.take_of_length_le (by have := HMK.out; omega)] at this
        exact up_end _ _ _ _ this HF.out
      have HXX := Lib.hid (HX0.out.but HX.out (by rintro g rfl; omega))
      clear HRj HE HX
      go_wp2
      go_ret
      exact ⟨w.heap.size, p, rfl, Nat.le_refl _, HR.out, HP.out, HPL.out, HV.out, HXX.out⟩
end Go.Proofs.YtiihnoelclnahaaGreatDoor
