/- nat.product and nat.Mul. -/
import Derived.Test.YtiihnoelclnahaaGreatDoorNatAdd
import Derived.Deep.RegionHeld3
namespace Go.Proofs.YtiihnoelclnahaaGreatDoor
open Go.RowKit
set_option linter.unusedVariables false

/-- One digit more multiplied and put to. (P: B^i, R: B^(i + j).) -/
theorem mul_step_nat (P R c x y z q r op oO ob : Nat) (e : c + x * y + z = q + 4294967296 * r) (T : Nat) (hT : T = R * 4294967296) (hR : ∃ Q, R = P * Q ∧ ob = ob) (obn : Nat) (hob : x * P * obn = x * P * ob + R * (x * y))
    (h : op + R * c = oO + x * P * ob) : op + R * q + T * r = oO + R * z + x * P * obn := by
  subst hT
  rw [hob]
  have := congrArg (R * ·) e
  simp only [Nat.mul_add] at this
  rw [Nat.mul_assoc R 4294967296 r]
  omega

theorem mul_step (O lb p : List Nat) (i j c x y z q r : Nat) (hz : O[i + j]? = some z) (hy : lb[j]? = some y) (hp : p.length = i + j) (e : c + x * y + z = q + 4294967296 * r)
    (h : ofD p + 4294967296 ^ (i + j) * c = ofD (O.take (i + j)) + x * 4294967296 ^ i * ofD (lb.take j)) :
    ofD (p ++ [q]) + 4294967296 ^ (i + (j + 1)) * r = ofD (O.take (i + (j + 1))) + x * 4294967296 ^ i * ofD (lb.take (j + 1)) := by
  rw [← Nat.add_assoc, ofD_take_succ' O, ofD_take_succ' lb, ofD_snoc, hp, hz, hy, Option.getD_some, Option.getD_some]
  refine mul_step_nat (4294967296 ^ i) (4294967296 ^ (i + j)) c x y z q r (ofD p) (ofD (O.take (i + j))) (ofD (lb.take j)) e _ (Nat.pow_succ ..) ⟨4294967296 ^ j, Nat.pow_add _ _ _, rfl⟩ _ ?_ h
  rw [Nat.mul_add, Nat.pow_add]
  congr 1
  rw [Nat.mul_comm x y, Nat.mul_assoc x, ← Nat.mul_assoc _ _ y, Nat.mul_comm x, Nat.mul_assoc]

theorem mul_bound (c x y z : Nat) (hc : c < 4294967296) (hx : x < 4294967296) (hy : y < 4294967296) (hz : z < 4294967296) :
    x * y + z < 18446744073709551616 ∧ c + x * y + z < 18446744073709551616 ∧ (c + x * y + z) / 4294967296 < 4294967296 := by
  have h1 : x * y ≤ 4294967295 * 4294967295 := Nat.mul_le_mul (by omega) (by omega)
  omega

theorem mul_names (c x y z : Nat) (hc : c < 4294967296) (hx : x < 4294967296) (hy : y < 4294967296) (hz : z < 4294967296) : ∃ s q r : Nat,
    IntKind.u64.wrap ((c : Int) + IntKind.u64.wrap (IntKind.u64.wrap ((x : Int) * y) + z)) = (s : Int) ∧ (s : Int) % 4294967296 = q ∧ (s : Int) / 4294967296 = r ∧ (c + x * y + z = q + 4294967296 * r ∧ q < 4294967296 ∧ r < 4294967296) := by
  obtain ⟨h1, h2, h3⟩ := mul_bound c x y z hc hx hy hz
  obtain ⟨v, hv⟩ : ∃ v, x * y = v := ⟨_, rfl⟩
  rw [hv] at h1 h2 h3 ⊢
  refine ⟨c + v + z, (c + v + z) % 4294967296, (c + v + z) / 4294967296, ?_, by omega, by omega, by omega, by omega, h3⟩
  have e : (x : Int) * y = (v : Int) := by rw [← hv]; simp
  have w1 : ∀ n : Int, 0 ≤ n → n < 18446744073709551616 → IntKind.u64.wrap n = n := by
    intro n h0 h1; show n % 18446744073709551616 = n; omega
  rw [e, w1 v (by omega) (by omega), w1 (v + z) (by omega) (by omega), w1 _ (by omega) (by omega)]
  omega

theorem ofD_drop_zero (O : List Nat) (n N : Nat) (hN : O.length = N) (h : ∀ j, n ≤ j → j < N → O[j]? = some 0) : ofD (O.drop n) = 0 := by
  refine ofD_zeros _ (fun d hd => ?_)
  obtain ⟨i, hi, rfl⟩ := List.getElem_of_mem hd
  rw [List.length_drop] at hi
  have := h (n + i) (by omega) (by omega)
  rw [List.getElem_drop]
  rw [List.getElem?_eq_getElem (by omega)] at this
  injection this

theorem prod_end (O p la lb : List Nat) (i m k c x b : Nat) (hO : O.length = k + m) (hm : lb.length = m) (hb : ofD lb = b) (hp : p.length = i + m) (hv : ofD O = ofD (la.take i) * b)
    (hz : ∀ j, i + m ≤ j → j < k + m → O[j]? = some 0) (h : ofD p + 4294967296 ^ (i + m) * c = ofD (O.take (i + m)) + x * 4294967296 ^ i * ofD (lb.take m)) (hx : la[i]? = some x) :
    ofD ((p ++ [c]) ++ O.drop (i + m + 1)) = ofD (la.take (i + 1)) * b := by
  have h1 := ofD_drop_zero O (i + m) _ hO hz
  have h2 := ofD_drop_zero O (i + m + 1) _ hO (fun j hj => hz j (by omega))
  have e3 : ofD (O.take (i + m)) = ofD O := by
    rcases Nat.lt_or_ge O.length (i + m) with h3 | h3
    · rw [List.take_of_length_le (by omega)]
    · rw [ofD_take_drop O (i + m) h3, h1, Nat.mul_zero, Nat.add_zero]
  have e4 : lb.take m = lb := List.take_of_length_le (by omega)
  rw [ofD_append, h2, Nat.mul_zero, Nat.add_zero, ofD_snoc, hp, h, ofD_take_succ', hx, Option.getD_some, e3, e4, hb, Nat.add_mul, ← hv, Nat.mul_comm x]

/-- The product's row between two rounds. -/
structure ProdInv (g k m a b i : Nat) (wr : World) (O : List Nat) : Prop where
  row : Row wr 145 g O
  len : O.length = k + m
  lt : ∀ d ∈ O, d < 4294967296
  val : ofD O = ofD ((digs a).take i) * b
  rest : ∀ j, i + m ≤ j → j < k + m → O[j]? = some 0

structure MulInv (g i m b x : Nat) (O : List Nat) (wr : World) (j c : Nat) (p : List Nat) : Prop where
  len : p.length = i + j
  lt : ∀ d ∈ p, d < 4294967296
  row : Row wr 145 g (p ++ O.drop (i + j))
  val : ofD p + 4294967296 ^ (i + j) * c = ofD (O.take (i + j)) + x * 4294967296 ^ i * ofD ((digs b).take j)

set_option maxRecDepth 100000 in
theorem product_any (A B : Option Addr) (k m a b : Nat) (w : World) (ha : IsNat w A k a) (hb : IsNat w B m b) (hk : k ≤ 50000) (hm : m ≤ 50000) :
    Calls Tryz.prog 99 #[.agg #[.slice A k k], .agg #[.slice B m m]] w fun e w' => ∃ A' k', e = .returned (.agg #[.slice A' k' k']) ∧ IsNat w' A' k' (a * b) ∧ k' ≤ k + m ∧ Ext w w' := by
  have hmak := fun W => make_u32 ((k : Int) + m) (k + m) (by omega) (by omega) W
  have HX0 := Lib.hid ((((Ext.refl w).alloc (.cells #[.slice A k k] 102)).alloc (.cells #[.slice B m m] 102)).alloc (.cells #[.slice none 0 0] 102))
  have HW := Lib.hid (HX0.out.alloc (.cells (zerosA (k + m)) 145))
  have HA := Lib.hid (ha.ext HW.out)
  have HB := Lib.hid (hb.ext HW.out)
  have HZ := Lib.hid (Row.zeros (((w.alloc (.cells #[.slice A k k] 102)).alloc (.cells #[.slice B m m] 102)).alloc (.cells #[.slice none 0 0] 102)) 145 (k + m))
  have HZ' : Hid (Row ((((w.alloc (.cells #[.slice A k k] 102)).alloc (.cells #[.slice B m m] 102)).alloc (.cells #[.slice none 0 0] 102)).alloc (.cells (zerosA (k + m)) 145)) 145 (w.heap.size + 3) (List.replicate (k + m) 0)) := by
    have := HZ.out
    rw [World.size_alloc, World.size_alloc, World.size_alloc] at this
    exact this
  clear HZ
  have HZ := HZ'
  clear HZ'
  have HAlt : Hid (∀ o g, A = some ⟨g, o, none⟩ → k = 0 ∨ g < w.heap.size) := by
    intro o g e
    rcases Nat.eq_zero_or_pos k with h0 | h0
    · exact .inl h0
    · obtain ⟨b2, o2, d, e2, hlt, _⟩ := ha.cell 0 h0
      rw [e] at e2; injection e2 with e2; injection e2 with e2 _; subst e2; exact .inr hlt
  have HBlt : Hid (∀ o g, B = some ⟨g, o, none⟩ → m = 0 ∨ g < w.heap.size) := by
    intro o g e
    rcases Nat.eq_zero_or_pos m with h0 | h0
    · exact .inl h0
    · obtain ⟨b2, o2, d, e2, hlt, _⟩ := hb.cell 0 h0
      rw [e] at e2; injection e2 with e2; injection e2 with e2 _; subst e2; exact .inr hlt
  have HK : Hid ((digs a).length = k) := ha.1.symm
  have HM : Hid ((digs b).length = m) := hb.1.symm
  clear ha hb
  go_enter Tryz.func99, Tryz.ntmps99
  go_wp2
  obtain ⟨W0, hW0⟩ : ∃ W0 : World, (((w.alloc (.cells #[.slice A k k] 102)).alloc (.cells #[.slice B m m] 102)).alloc (.cells #[.slice none 0 0] 102)).alloc (.cells (zerosA (k + m)) 145) = W0 := ⟨_, rfl⟩
  have c0 : W0.cell? ⟨w.heap.size, 0, none⟩ = some (.slice A k k) := by rw [← hW0]; simp [go_sem]
  have c1 : W0.cell? ⟨w.heap.size + 1, 0, none⟩ = some (.slice B m m) := by rw [← hW0]; simp [go_sem]
  have c2 : W0.cell? ⟨w.heap.size + 2, 0, none⟩ = some (.slice none 0 0) := by rw [← hW0]; simp [go_sem]
  have f2 : W0.frozen? ⟨w.heap.size + 2, 0, none⟩ = false := by rw [← hW0]; simp [go_sem]
  have hs : w.heap.size + 3 < W0.heap.size := by rw [← hW0]; simp
  rw [hW0] at HW HA HB HZ
  rw [hW0]
  clear hW0 hmak
  go_loopw [22] (fun i wr => ∃ (i' : Nat) (O : List Nat), i' ≤ k ∧ i = .int .i64 i' ∧ Hid (ProdInv (w.heap.size + 3) k m a b i' wr O) ∧ Hid (ExtBut (· = w.heap.size + 3) W0 wr)) (fun i _ => k - (intOf i).toNat)
  case atStart =>
    refine ⟨0, List.replicate (k + m) 0, Nat.zero_le _, rfl, ⟨HZ.out, by simp, by simp, by simp [ofD, ofD_replicate_zero], ?_⟩, ExtBut.refl _ _⟩
    intro j h1 h2
    rw [List.getElem?_replicate, if_pos h2]
  case round =>
    obtain ⟨i, O, hi, rfl, HI, HX⟩ := hrel
    obtain ⟨wo, rfl⟩ : ∃ wo : World, wo = wr := ⟨_, rfl⟩
    have d0 := HX.out.cell c0 (by omega)
    have d1 := HX.out.cell c1 (by omega)
    have d2 := HX.out.cell c2 (by omega)
    have g2 := HX.out.free f2 (by omega) (by omega)
    have hso : w.heap.size + 3 < wo.heap.size := Nat.lt_of_lt_of_le hs HX.out.size
    by_cases h0 : i < k
    · obtain ⟨bA, oA, x, eA, hbA, hxA, hxl, hcA⟩ := HA.out.cell i h0
      have hneA : ¬ bA = w.heap.size + 3 := fun e => by rcases HAlt.out _ _ eA with h2 | h2 <;> omega
      have cA := HX.out.cell hcA hneA
      have HXA := Lib.hid hxA
      clear hxA hcA
      cases eA
      go_wp2
      go_loopw [8, 30] (fun cv jv wr2 => ∃ (j c : Nat) (p : List Nat), j ≤ m ∧ c < 4294967296 ∧ jv = .int .i64 j ∧ cv = .int .u64 c ∧ Hid (MulInv (w.heap.size + 3) i m b x O wr2 j c p) ∧ Hid (ExtBut (· = w.heap.size + 3) wo wr2)) (fun _ jv _ => m - (intOf jv).toNat)
      case atStart =>
        refine ⟨0, 0, O.take i, Nat.zero_le _, by omega, rfl, rfl, ⟨by have := HI.out.len; simp; omega, fun d hd => HI.out.lt d (List.mem_of_mem_take hd), by have := HI.out.row; simpa using this, by simp [ofD]⟩, ExtBut.refl _ _⟩
      case round =>
        obtain ⟨j, c, p, hj, hc, rfl, rfl, HJ, HXJ⟩ := hrel
        have e1 := HXJ.out.cell d1 (by omega)
        by_cases h1 : j < m
        · obtain ⟨bB, oB, y, eB, hbB, hyB, hyl, hcB⟩ := HB.out.cell j h1
          have hneB : ¬ bB = w.heap.size + 3 := fun e => by rcases HBlt.out _ _ eB with h2 | h2 <;> omega
          have cB := HXJ.out.cell (HX.out.cell hcB hneB) hneB
          obtain ⟨z, hz⟩ : ∃ z, O[i + j]? = some z := ⟨_, List.getElem?_eq_getElem (by have := HI.out.len; omega)⟩
          have hzl : z < 4294967296 := by obtain ⟨h1, rfl⟩ := List.getElem?_eq_some_iff.1 hz; exact HI.out.lt _ (List.getElem_mem h1)
          have cz := HJ.out.row.cell (row_at HJ.out.len hz)
          have fz := HJ.out.row.free (i + j)
          have HYB := Lib.hid hyB
          have HZZ := Lib.hid hz
          clear hyB hz hcB
          cases eB
          obtain ⟨s, q, r, hs1, hs2, hs3, hs4⟩ := mul_names c x y z hc hxl hyl hzl
          have HS := Lib.hid hs4
          clear hs4
          have HSt := Lib.hid (mul_step O (digs b) p i j c x y z q r HZZ.out HYB.out HJ.out.len HS.out.1 HJ.out.val)
          have HRN := Lib.hid (HJ.out.row.set_ (i + j) q)
          have HRN2 : Hid (Row (wr.setCell ⟨w.heap.size + 3, i + j, none⟩ (.int .u32 (q : Nat))) 145 (w.heap.size + 3) ((p ++ [q]) ++ O.drop (i + j + 1))) := by
            have := HRN.out; rwa [row_set HJ.out.len HZZ.out] at this
          have HXN := Lib.hid (HXJ.out.setCell (p := ⟨w.heap.size + 3, i + j, none⟩) (.inl rfl) (.int .u32 (q : Nat)))
          have HPL := Lib.hid HJ.out.lt
          have HPN := Lib.hid HJ.out.len
          clear HRN HJ HXJ HZZ HYB
          go_wp2
          go_roundw
          case rel => exact ⟨j + 1, r, p ++ [q], by omega, HS.out.2.2, by go_num, rfl, ⟨by simp [HPN.out]; omega, by
            intro d hd
            rcases List.mem_append.1 hd with hd | hd
            · exact HPL.out d hd
            · simp at hd; subst hd; exact HS.out.2.1, HRN2.out, HSt.out⟩, HXN⟩
          case measure => simp [intOf]; omega
        · obtain rfl : j = m := by omega
          obtain ⟨z, hz⟩ : ∃ z, O[i + j]? = some z := ⟨_, List.getElem?_eq_getElem (by have := HI.out.len; omega)⟩
          have fz := HJ.out.row.free (i + j)
          have cz := HJ.out.row.cell (row_at HJ.out.len hz)
          have hz0 : z = 0 := by have := HI.out.rest (i + j) (by omega) (by omega); rw [hz] at this; injection this
          have HZZ := Lib.hid hz
          have HZ0 := Lib.hid hz0
          have HRN := Lib.hid (HJ.out.row.set_ (i + j) c)
          have HRN2 : Hid (Row (wr.setCell ⟨w.heap.size + 3, i + j, none⟩ (.int .u32 (c : Nat))) 145 (w.heap.size + 3) ((p ++ [c]) ++ O.drop (i + j + 1))) := by
            have := HRN.out; rwa [row_set HJ.out.len HZZ.out] at this
          have HXN := Lib.hid (HX.out.trans (HXJ.out.setCell (p := ⟨w.heap.size + 3, i + j, none⟩) (.inl rfl) (.int .u32 (c : Nat))))
          have HPI : Hid (ProdInv (w.heap.size + 3) k j a b (i + 1) (wr.setCell ⟨w.heap.size + 3, i + j, none⟩ (.int .u32 (c : Nat))) ((p ++ [c]) ++ O.drop (i + j + 1))) := by
            refine ⟨HRN2.out, ?_, ?_, ?_, ?_⟩
            · have := HJ.out.len; have := HI.out.len; simp; omega
            · intro d hd
              rcases List.mem_append.1 hd with hd | hd
              · rcases List.mem_append.1 hd with hd | hd
                · exact HJ.out.lt d hd
                · simp at hd; subst hd; exact hc
              · exact HI.out.lt d (List.mem_of_mem_drop hd)
            · exact prod_end O p (digs a) (digs b) i j k c x b HI.out.len HM.out (ofD_digs b) HJ.out.len HI.out.val HI.out.rest HJ.out.val HXA.out
            · intro l h1 h2
              rw [List.getElem?_append_right (by simp; have := HJ.out.len; omega), List.getElem?_drop]
              have e : i + j + 1 + (l - (p ++ [c]).length) = l := by simp; have := HJ.out.len; omega
              rw [e]
              exact HI.out.rest l (by omega) h2
          have hcm : (c : Int) % 4294967296 = c := by omega
          clear HRN HRN2 HJ HXJ HZZ HX HI hz hz0
          go_wp2
          go_roundw
          case rel => exact ⟨i + 1, _, by omega, by go_num, HPI, HXN⟩
          case measure => simp [intOf]; omega
    · obtain rfl : i = k := by omega
      have HV : Hid (ofD O = a * b) := by
        have := HI.out.val
        rwa [List.take_of_length_le (by have := HK.out; omega), ofD_digs] at this
      have HCut := Lib.hid (cut_nat (some ⟨w.heap.size + 3, 0, none⟩) (i + m) (i + m) O wo HI.out.len.symm (Nat.le_refl _) (by omega) HI.out.lt HI.out.row.digs)
      have HXr := Lib.hid (HW.out.but HX.out (by rintro g rfl; omega))
      clear HI HX
      go_wp2_with fail
      refine HCut.out.mono ?_
      rintro e w4 ⟨k4, rfl, hn4, hk4, hx4⟩
      have i2 := hx4.cell d2
      have i3 := hx4.free g2 (lt_of_cell d2)
      have i4 := setc (v := .slice (some ⟨w.heap.size + 3, 0, none⟩) k4 k4) i2
      rw [HV.out] at hn4
      have HX4 := Lib.hid (HXr.out.trans hx4)
      have HN4 := Lib.hid hn4
      clear hx4 d0 d1 d2 g2 HCut hn4
      go_wp2
      refine bodyPost_ret (v := .agg #[.slice (some ⟨w.heap.size + 3, 0, none⟩) k4 k4]) (by simp [results, Tryz.results99, go_sem, i4]) rfl ⟨_, k4, rfl, HN4.out.set_ _ (by intro o' he; injection he with he; injection he with h1 _; omega), hk4, HX4.out.setCell (p := ⟨w.heap.size + 2, 0, none⟩) (by simp only []; omega) _⟩

theorem bitsN_mul_le (a b : Nat) : bitsN (a * b) ≤ bitsN a + bitsN b := by
  rw [bitsN_le, Nat.pow_add]
  have h1 := (bitsN_le a _).1 (Nat.le_refl _)
  have h2 := (bitsN_le b _).1 (Nat.le_refl _)
  exact Nat.mul_lt_mul'' h1 h2
theorem bitsN_ge {n : Nat} (h : n ≠ 0) : 2 ^ (bitsN n - 1) ≤ n := by
  have := bitsN_pos h
  rcases Nat.lt_or_ge n (2 ^ (bitsN n - 1)) with h1 | h1
  · have := (bitsN_le n (bitsN n - 1)).2 h1; omega
  · exact h1
theorem bitsN_mul_ge {a b : Nat} (ha : a ≠ 0) (hb : b ≠ 0) : bitsN a + bitsN b - 1 ≤ bitsN (a * b) := by
  have h1 := bitsN_ge ha
  have h2 := bitsN_ge hb
  have p1 := bitsN_pos ha
  have p2 := bitsN_pos hb
  have h3 := Nat.mul_le_mul h1 h2
  rw [← Nat.pow_add] at h3
  rcases Nat.lt_or_ge (bitsN (a * b)) (bitsN a + bitsN b - 1) with h | h
  · have h4 := (bitsN_le (a * b) (bitsN a - 1 + (bitsN b - 1))).1 (by omega)
    omega
  · exact h
theorem mul_long_of {a b : Nat} (ha : bitsN a ≤ 4096) (hb : bitsN b ≤ 4096) (h : 4097 < bitsN a + bitsN b) : 4096 < bitsN (a * b) := by
  have h1 : a ≠ 0 := by rintro rfl; rw [bitsN_zero] at h; omega
  have h2 : b ≠ 0 := by rintro rfl; rw [bitsN_zero] at h; omega
  have := bitsN_mul_ge h1 h2
  omega

set_option maxRecDepth 100000 in
theorem Mul_ok (A B : Option Addr) (k m a b : Nat) (w : World) (ha : IsNat w A k a) (hb : IsNat w B m b) (hk : k ≤ 50000) (hm : m ≤ 50000) (hA : bitsN a ≤ 4096) (hB : bitsN b ≤ 4096) (hab : bitsN (a * b) ≤ 4096) :
    Calls Tryz.prog 76 #[.agg #[.slice A k k], .agg #[.slice B m m]] w fun e w' => ∃ A' k', e = .returned (.tuple #[.agg #[.slice A' k' k'], .int .i64 0]) ∧ IsNat w' A' k' (a * b) ∧ k' ≤ k + m ∧ Ext w w' := by
  have hsum : ((bitsN a : Nat) : Int) + (bitsN b : Nat) ≤ 4097 := by
    have : bitsN a + bitsN b ≤ 4097 := by
      rcases Nat.lt_or_ge 4097 (bitsN a + bitsN b) with h | h
      · have := mul_long_of hA hB h; omega
      · exact h
    omega
  have HBits := Lib.hid hab
  clear hab
  have HX0 := Lib.hid ((((Ext.refl w).alloc (.cells #[.slice A k k] 102)).alloc (.cells #[.slice B m m] 102)).alloc (.cells #[.slice none 0 0] 102))
  have hwr : IntKind.i64.wrap (((bitsN a : Nat) : Int) + (bitsN b : Nat)) = ((bitsN a : Nat) : Int) + (bitsN b : Nat) := by
    have h1 := ha.bits
    have h2 := hb.bits
    exact IntWalk.i64_in _ (by omega)
  have HAA := Lib.hid (ha.ext HX0.out)
  have HBB := Lib.hid (hb.ext HX0.out)
  clear ha hb
  go_enter Tryz.func76, Tryz.ntmps76
  go_wp2_with fail
  obtain ⟨W0, hW0⟩ : ∃ W0 : World, ((w.alloc (.cells #[.slice A k k] 102)).alloc (.cells #[.slice B m m] 102)).alloc (.cells #[.slice none 0 0] 102) = W0 := ⟨_, rfl⟩
  have c0 : W0.cell? ⟨w.heap.size, 0, none⟩ = some (.slice A k k) := by rw [← hW0]; simp [go_sem]
  have c1 : W0.cell? ⟨w.heap.size + 1, 0, none⟩ = some (.slice B m m) := by rw [← hW0]; simp [go_sem]
  have c2 : W0.cell? ⟨w.heap.size + 2, 0, none⟩ = some (.slice none 0 0) := by rw [← hW0]; simp [go_sem]
  have f2 : W0.frozen? ⟨w.heap.size + 2, 0, none⟩ = false := by rw [← hW0]; simp [go_sem]
  have hs : w.heap.size + 2 < W0.heap.size := by rw [← hW0]; simp
  rw [hW0] at HX0 HAA HBB
  rw [hW0]
  clear hW0
  have HE0 := Lib.hid (Ext.refl W0)
  go_region_held3 (fun w' => w'.cell? ⟨w.heap.size, 0, none⟩ = some (.slice A k k) ∧ w'.cell? ⟨w.heap.size + 1, 0, none⟩ = some (.slice B m m) ∧ Ext W0 w')
    (first | (exact ⟨c0, c1, HE0.out.drew⟩) | (exact ⟨Ext.cell hx c0, Ext.cell hx c1, Ext.trans HE0.out.drew hx⟩) | (exact ⟨Ext.cell hx (‹_ ∧ _ ∧ Ext W0 _›).1, Ext.cell hx (‹_ ∧ _ ∧ Ext W0 _›).2.1, Ext.trans (‹_ ∧ _ ∧ Ext W0 _›).2.2 hx⟩) | assumption)
    (first
      | (go_at_call_of 75 (Value.agg #[.slice A k k]); refine (Bits_any A k a _ ?_ (by omega)).mono ?_; (refine HAA.out.ext ?_; first | exact HE0.out.drew | exact (‹_ ∧ _ ∧ Ext W0 _›).2.2); rintro e w' ⟨rfl, hx⟩)
      | (go_at_call_of 75 (Value.agg #[.slice B m m]); refine (Bits_any B m b _ ?_ (by omega)).mono ?_; (refine HBB.out.ext ?_; first | exact HE0.out.drew | exact (‹_ ∧ _ ∧ Ext W0 _›).2.2); rintro e w' ⟨rfl, hx⟩))
  obtain ⟨q0, q1, q2⟩ := ‹_ ∧ _ ∧ Ext W0 _›
  have c3 := q2.cell c2
  have f3 := q2.free f2 (lt_of_cell c2)
  have HQ := Lib.hid (HX0.out.trans q2)
  have HQA := Lib.hid (HAA.out.ext q2)
  have HQB := Lib.hid (HBB.out.ext q2)
  clear q2 hx c2 f2 c0 c1
  go_wp2_with fail
  refine (product_any A B k m a b _ HQA.out HQB.out hk hm).mono ?_
  rintro e w3 ⟨A3, k3, rfl, hn3, hk3, hx3⟩
  have c4 := hx3.cell c3
  have f4 := hx3.free f3 (lt_of_cell c3)
  have HX3 := Lib.hid (HQ.out.trans hx3)
  have HF := Lib.hid (fits_ok A3 k3 (a * b) w3 hn3 (by omega) HBits.out)
  have HN3 := Lib.hid hn3
  have HL3 : Hid (∀ o g, A3 = some ⟨g, o, none⟩ → k3 = 0 ∨ g < w3.heap.size) := by
    intro o g e
    rcases Nat.eq_zero_or_pos k3 with h0 | h0
    · exact .inl h0
    · obtain ⟨b2, o2, d, e2, hlt, _⟩ := hn3.cell 0 h0
      rw [e] at e2; injection e2 with e2; injection e2 with e2 _; subst e2; exact .inr hlt
  clear hx3 hn3
  go_wp2_with fail
  refine HF.out.mono ?_
  rintro e w4 ⟨rfl, hx4⟩
  have c5 := hx4.cell c4
  have f5 := hx4.free f4 (lt_of_cell c4)
  have HX4 := Lib.hid (HX3.out.trans hx4)
  have c6 := setc (v := .slice A3 k3 k3) c5
  have HN4 := Lib.hid (HN3.out.ext hx4)
  clear hx4 c4 f4 c3 f3
  go_wp2
  refine bodyPost_ret (v := .tuple #[.agg #[.slice A3 k3 k3], .int .i64 0]) (by simp [results, Tryz.results76, go_sem, c6]) rfl ⟨A3, k3, rfl, ?_, hk3, HX4.out.setCell (p := ⟨w.heap.size + 2, 0, none⟩) (by simp only []; omega) _⟩
  exact HN4.out.setBox c5 _

set_option maxRecDepth 100000 in
theorem Mul_long1 (A B : Option Addr) (k m a b : Nat) (w : World) (ha : IsNat w A k a) (hb : IsNat w B m b) (hk : k ≤ 50000) (hm : m ≤ 50000) (hab : 4097 < bitsN a + bitsN b) :
    Calls Tryz.prog 76 #[.agg #[.slice A k k], .agg #[.slice B m m]] w fun e w' => e = .returned (.tuple #[.agg #[.slice none 0 0], .int .i64 3]) ∧ Ext w w' := by
  have hsum : (4097 : Int) < (bitsN a : Nat) + (bitsN b : Nat) := by omega
  clear hab
  have HX0 := Lib.hid ((((Ext.refl w).alloc (.cells #[.slice A k k] 102)).alloc (.cells #[.slice B m m] 102)).alloc (.cells #[.slice none 0 0] 102))
  have hwr : IntKind.i64.wrap (((bitsN a : Nat) : Int) + (bitsN b : Nat)) = ((bitsN a : Nat) : Int) + (bitsN b : Nat) := by
    have h1 := ha.bits
    have h2 := hb.bits
    exact IntWalk.i64_in _ (by omega)
  have HAA := Lib.hid (ha.ext HX0.out)
  have HBB := Lib.hid (hb.ext HX0.out)
  clear ha hb
  go_enter Tryz.func76, Tryz.ntmps76
  go_wp2_with fail
  obtain ⟨W0, hW0⟩ : ∃ W0 : World, ((w.alloc (.cells #[.slice A k k] 102)).alloc (.cells #[.slice B m m] 102)).alloc (.cells #[.slice none 0 0] 102) = W0 := ⟨_, rfl⟩
  have c0 : W0.cell? ⟨w.heap.size, 0, none⟩ = some (.slice A k k) := by rw [← hW0]; simp [go_sem]
  have c1 : W0.cell? ⟨w.heap.size + 1, 0, none⟩ = some (.slice B m m) := by rw [← hW0]; simp [go_sem]
  have c2 : W0.cell? ⟨w.heap.size + 2, 0, none⟩ = some (.slice none 0 0) := by rw [← hW0]; simp [go_sem]
  have f2 : W0.frozen? ⟨w.heap.size + 2, 0, none⟩ = false := by rw [← hW0]; simp [go_sem]
  have hs : w.heap.size + 2 < W0.heap.size := by rw [← hW0]; simp
  rw [hW0] at HX0 HAA HBB
  rw [hW0]
  clear hW0
  have HE0 := Lib.hid (Ext.refl W0)
  go_region_held3 (fun w' => w'.cell? ⟨w.heap.size, 0, none⟩ = some (.slice A k k) ∧ w'.cell? ⟨w.heap.size + 1, 0, none⟩ = some (.slice B m m) ∧ Ext W0 w')
    (first | (exact ⟨c0, c1, HE0.out.drew⟩) | (exact ⟨Ext.cell hx c0, Ext.cell hx c1, Ext.trans HE0.out.drew hx⟩) | (exact ⟨Ext.cell hx (‹_ ∧ _ ∧ Ext W0 _›).1, Ext.cell hx (‹_ ∧ _ ∧ Ext W0 _›).2.1, Ext.trans (‹_ ∧ _ ∧ Ext W0 _›).2.2 hx⟩) | assumption)
    (first
      | (go_at_call_of 75 (Value.agg #[.slice A k k]); refine (Bits_any A k a _ ?_ (by omega)).mono ?_; (refine HAA.out.ext ?_; first | exact HE0.out.drew | exact (‹_ ∧ _ ∧ Ext W0 _›).2.2); rintro e w' ⟨rfl, hx⟩)
      | (go_at_call_of 75 (Value.agg #[.slice B m m]); refine (Bits_any B m b _ ?_ (by omega)).mono ?_; (refine HBB.out.ext ?_; first | exact HE0.out.drew | exact (‹_ ∧ _ ∧ Ext W0 _›).2.2); rintro e w' ⟨rfl, hx⟩))
  obtain ⟨q0, q1, q2⟩ := ‹_ ∧ _ ∧ Ext W0 _›
  have c3 := q2.cell c2
  have f3 := q2.free f2 (lt_of_cell c2)
  have HQ := Lib.hid (HX0.out.trans q2)
  have HQA := Lib.hid (HAA.out.ext q2)
  have HQB := Lib.hid (HBB.out.ext q2)
  clear q2 hx c2 f2 c0 c1
  have c4 := setc (v := .slice none 0 0) c3
  go_wp2
  refine bodyPost_ret (v := .tuple #[.agg #[.slice none 0 0], .int .i64 3]) (by simp [results, Tryz.results76, go_sem, c4]) rfl ⟨rfl, HQ.out.setCell (p := ⟨w.heap.size + 2, 0, none⟩) (by simp only []; omega) _⟩

set_option maxRecDepth 100000 in
theorem Mul_long2 (A B : Option Addr) (k m a b : Nat) (w : World) (ha : IsNat w A k a) (hb : IsNat w B m b) (hk : k ≤ 50000) (hm : m ≤ 50000) (hab : bitsN a + bitsN b ≤ 4097) (hlong : 4096 < bitsN (a * b)) :
    Calls Tryz.prog 76 #[.agg #[.slice A k k], .agg #[.slice B m m]] w fun e w' => e = .returned (.tuple #[.agg #[.slice none 0 0], .int .i64 3]) ∧ Ext w w' := by
  have hsum : ((bitsN a : Nat) : Int) + (bitsN b : Nat) ≤ 4097 := by omega
  have HBits := Lib.hid hlong
  clear hab hlong
  have HX0 := Lib.hid ((((Ext.refl w).alloc (.cells #[.slice A k k] 102)).alloc (.cells #[.slice B m m] 102)).alloc (.cells #[.slice none 0 0] 102))
  have hwr : IntKind.i64.wrap (((bitsN a : Nat) : Int) + (bitsN b : Nat)) = ((bitsN a : Nat) : Int) + (bitsN b : Nat) := by
    have h1 := ha.bits
    have h2 := hb.bits
    exact IntWalk.i64_in _ (by omega)
  have HAA := Lib.hid (ha.ext HX0.out)
  have HBB := Lib.hid (hb.ext HX0.out)
  clear ha hb
  go_enter Tryz.func76, Tryz.ntmps76
  go_wp2_with fail
  obtain ⟨W0, hW0⟩ : ∃ W0 : World, ((w.alloc (.cells #[.slice A k k] 102)).alloc (.cells #[.slice B m m] 102)).alloc (.cells #[.slice none 0 0] 102) = W0 := ⟨_, rfl⟩
  have c0 : W0.cell? ⟨w.heap.size, 0, none⟩ = some (.slice A k k) := by rw [← hW0]; simp [go_sem]
  have c1 : W0.cell? ⟨w.heap.size + 1, 0, none⟩ = some (.slice B m m) := by rw [← hW0]; simp [go_sem]
  have c2 : W0.cell? ⟨w.heap.size + 2, 0, none⟩ = some (.slice none 0 0) := by rw [← hW0]; simp [go_sem]
  have f2 : W0.frozen? ⟨w.heap.size + 2, 0, none⟩ = false := by rw [← hW0]; simp [go_sem]
  have hs : w.heap.size + 2 < W0.heap.size := by rw [← hW0]; simp
  rw [hW0] at HX0 HAA HBB
  rw [hW0]
  clear hW0
  have HE0 := Lib.hid (Ext.refl W0)
  go_region_held3 (fun w' => w'.cell? ⟨w.heap.size, 0, none⟩ = some (.slice A k k) ∧ w'.cell? ⟨w.heap.size + 1, 0, none⟩ = some (.slice B m m) ∧ Ext W0 w')
    (first | (exact ⟨c0, c1, HE0.out.drew⟩) | (exact ⟨Ext.cell hx c0, Ext.cell hx c1, Ext.trans HE0.out.drew hx⟩) | (exact ⟨Ext.cell hx (‹_ ∧ _ ∧ Ext W0 _›).1, Ext.cell hx (‹_ ∧ _ ∧ Ext W0 _›).2.1, Ext.trans (‹_ ∧ _ ∧ Ext W0 _›).2.2 hx⟩) | assumption)
    (first
      | (go_at_call_of 75 (Value.agg #[.slice A k k]); refine (Bits_any A k a _ ?_ (by omega)).mono ?_; (refine HAA.out.ext ?_; first | exact HE0.out.drew | exact (‹_ ∧ _ ∧ Ext W0 _›).2.2); rintro e w' ⟨rfl, hx⟩)
      | (go_at_call_of 75 (Value.agg #[.slice B m m]); refine (Bits_any B m b _ ?_ (by omega)).mono ?_; (refine HBB.out.ext ?_; first | exact HE0.out.drew | exact (‹_ ∧ _ ∧ Ext W0 _›).2.2); rintro e w' ⟨rfl, hx⟩))
  obtain ⟨q0, q1, q2⟩ := ‹_ ∧ _ ∧ Ext W0 _›
  have c3 := q2.cell c2
  have f3 := q2.free f2 (lt_of_cell c2)
  have HQ := Lib.hid (HX0.out.trans q2)
  have HQA := Lib.hid (HAA.out.ext q2)
  have HQB := Lib.hid (HBB.out.ext q2)
  clear q2 hx c2 f2 c0 c1
  go_wp2_with fail
  refine (product_any A B k m a b _ HQA.out HQB.out hk hm).mono ?_
  rintro e w3 ⟨A3, k3, rfl, hn3, hk3, hx3⟩
  have c4 := hx3.cell c3
  have f4 := hx3.free f3 (lt_of_cell c3)
  have HX3 := Lib.hid (HQ.out.trans hx3)
  have HF := Lib.hid (fits_long A3 k3 (a * b) w3 hn3 (by omega) HBits.out)
  have HN3 := Lib.hid hn3
  have HL3 : Hid (∀ o g, A3 = some ⟨g, o, none⟩ → k3 = 0 ∨ g < w3.heap.size) := by
    intro o g e
    rcases Nat.eq_zero_or_pos k3 with h0 | h0
    · exact .inl h0
    · obtain ⟨b2, o2, d, e2, hlt, _⟩ := hn3.cell 0 h0
      rw [e] at e2; injection e2 with e2; injection e2 with e2 _; subst e2; exact .inr hlt
  clear hx3 hn3
  go_wp2_with fail
  refine HF.out.mono ?_
  rintro e w4 ⟨rfl, hx4⟩
  have c5 := hx4.cell c4
  have f5 := hx4.free f4 (lt_of_cell c4)
  have HX4 := Lib.hid (HX3.out.trans hx4)
  have c6 := setc (v := .slice none 0 0) c5
  clear hx4 c4 f4 c3 f3
  go_wp2
  refine bodyPost_ret (v := .tuple #[.agg #[.slice none 0 0], .int .i64 3]) (by simp [results, Tryz.results76, go_sem, c6]) rfl ⟨rfl, HX4.out.setCell (p := ⟨w.heap.size + 2, 0, none⟩) (by simp only []; omega) _⟩

theorem Mul_long (A B : Option Addr) (k m a b : Nat) (w : World) (ha : IsNat w A k a) (hb : IsNat w B m b) (hk : k ≤ 50000) (hm : m ≤ 50000) (hab : 4096 < bitsN (a * b)) :
    Calls Tryz.prog 76 #[.agg #[.slice A k k], .agg #[.slice B m m]] w fun e w' => e = .returned (.tuple #[.agg #[.slice none 0 0], .int .i64 3]) ∧ Ext w w' := by
  rcases Nat.lt_or_ge 4097 (bitsN a + bitsN b) with h | h
  · exact Mul_long1 A B k m a b w ha hb hk hm h
  · exact Mul_long2 A B k m a b w ha hb hk hm h hab
end Go.Proofs.YtiihnoelclnahaaGreatDoor
