/- math/bits.Sub32; nat.less. -/
import Derived.Test.YtiihnoelclnahaaGreatDoorNatCmp
import Derived.Laws.BitsLemmas
import Derived.Deep.LoopGhost
namespace Go.Proofs.YtiihnoelclnahaaGreatDoor
open Go.RowKit
set_option linter.unusedVariables false

/-- The borrow of x - y - b. -/
def brw (x y b : Nat) : Nat := if x < y + b then 1 else 0

theorem wraps_u32 (n : Int) (h₀ : 0 ≤ n) (h₁ : n < 2 ^ 32) : IntKind.u32.wrap n = n := by show n % 4294967296 = n; omega
theorem bits32 (a b : Nat) (ha : a < 4294967296) (hb : b < 4294967296) : bits .and .u32 a b = (a &&& b : Nat) ∧ bits .or .u32 a b = (a ||| b : Nat) ∧ bits .xor .u32 a b = (a ^^^ b : Nat) := by
  have h := bits_nat .u32 32 (by decide) wraps_u32 a b ha hb
  refine ⟨h.1, h.2, ?_⟩
  have ha' : a % 2 ^ IntKind.u32.bits = a := Nat.mod_eq_of_lt ha
  have hb' : b % 2 ^ IntKind.u32.bits = b := Nat.mod_eq_of_lt hb
  simp only [bits, BitVec.ofInt_natCast, BitVec.toNat_xor, BitVec.toNat_ofNat, ha', hb']
  have := Nat.xor_lt_two_pow (n := 32) ha hb
  exact wraps_u32 _ (Int.natCast_nonneg _) (by omega)

theorem top_lt (a : Nat) (h : a < 4294967296) : a / 2147483648 < 2 := by omega
theorem and_lt32 (a b : Nat) (h : a < 4294967296) : a &&& b < 4294967296 := Nat.lt_of_le_of_lt Nat.and_le_left h
theorem or_lt32 (a b : Nat) (h : a < 4294967296) (h' : b < 4294967296) : a ||| b < 4294967296 := Nat.or_lt_two_pow (n := 32) h h'
theorem xor_lt32 (a b : Nat) (h : a < 4294967296) (h' : b < 4294967296) : a ^^^ b < 4294967296 := Nat.xor_lt_two_pow (n := 32) h h'
theorem top_and (a b : Nat) : (a &&& b) / 2147483648 = (a / 2147483648) &&& (b / 2147483648) := Nat.and_div_two_pow (n := 31)
theorem top_or (a b : Nat) : (a ||| b) / 2147483648 = (a / 2147483648) ||| (b / 2147483648) := Nat.or_div_two_pow (n := 31)
theorem top_xor (a b : Nat) : (a ^^^ b) / 2147483648 = (a / 2147483648) ^^^ (b / 2147483648) := Nat.xor_div_two_pow (n := 31)

theorem brw_bits (x y b d : Nat) (hx : x < 4294967296) (hy : y < 4294967296) (hb : b ≤ 1) (hd : d = (x + 4294967296 - y - b) % 4294967296) :
    (((4294967295 ^^^ x) &&& y) ||| ((4294967295 ^^^ (x ^^^ y)) &&& d)) / 2147483648 = brw x y b := by
  rw [top_or, top_and, top_and, top_xor, top_xor, top_xor, show 4294967295 / 2147483648 = 1 from rfl]
  have hdlt : d < 4294967296 := by omega
  have x2 := top_lt x hx
  have y2 := top_lt y hy
  have d2 := top_lt d hdlt
  unfold brw
  generalize hX : x / 2147483648 = X at *
  generalize hY : y / 2147483648 = Y at *
  generalize hD : d / 2147483648 = D at *
  match X, x2, Y, y2, D, d2 with
  | 0, _, 0, _, 0, _ => show 0 = _; rw [if_neg (by omega)]
  | 0, _, 0, _, 1, _ => show 1 = _; rw [if_pos (by omega)]
  | 0, _, 1, _, 0, _ => show 1 = _; rw [if_pos (by omega)]
  | 0, _, 1, _, 1, _ => show 1 = _; rw [if_pos (by omega)]
  | 1, _, 0, _, 0, _ => show 0 = _; rw [if_neg (by omega)]
  | 1, _, 0, _, 1, _ => show 0 = _; rw [if_neg (by omega)]
  | 1, _, 1, _, 0, _ => show 0 = _; rw [if_neg (by omega)]
  | 1, _, 1, _, 1, _ => show 1 = _; rw [if_pos (by omega)]

theorem Sub32_any (x y b : Nat) (hx : x < 4294967296) (hy : y < 4294967296) (hb : b ≤ 1) (w : World) :
    Calls Tryz.prog 123 #[.int .u32 x, .int .u32 y, .int .u32 b] w fun e w' => e = .returned (.tuple #[.int .u32 ((x + 4294967296 - y - b) % 4294967296 : Nat), .int .u32 (brw x y b : Nat)]) ∧ w' = w := by
  have hs : IntKind.u32.signed = false := rfl
  have HE : Hid (Ending.returned (.tuple #[.int .u32 ((((x : Int) - y) % 4294967296 - b) % 4294967296), .int .u32 (bits BinOp.or IntKind.u32 (bits BinOp.and IntKind.u32 (bits BinOp.xor IntKind.u32 IntKind.u32.max x) y)
                (bits BinOp.and IntKind.u32
                  (bits BinOp.xor IntKind.u32 IntKind.u32.max (bits BinOp.xor IntKind.u32 x y))
                  (((x : Int) - y - b) % 4294967296)) / 2147483648)]) = .returned (.tuple #[.int .u32 ((x + 4294967296 - y - b) % 4294967296 : Nat), .int .u32 (brw x y b : Nat)])) := by
    have hm : IntKind.u32.max = ((4294967295 : Nat) : Int) := rfl
    have e1 : (((x : Int) - y - b) % 4294967296) = ((x + 4294967296 - y - b) % 4294967296 : Nat) := by omega
    obtain ⟨d, hd⟩ : ∃ d, d = (x + 4294967296 - y - b) % 4294967296 := ⟨_, rfl⟩
    have hdl : d < 4294967296 := by omega
    have e2 : ((((x : Int) - y) % 4294967296 - b) % 4294967296) = ((x + 4294967296 - y - b) % 4294967296 : Nat) := by omega
    rw [e1, e2, ← hd, hm]
    have k1 := xor_lt32 4294967295 x (by omega) hx
    have k2 := xor_lt32 x y hx hy
    have k3 := xor_lt32 4294967295 (x ^^^ y) (by omega) k2
    rw [(bits32 4294967295 x (by omega) hx).2.2, (bits32 x y hx hy).2.2, (bits32 _ y k1 hy).1, (bits32 4294967295 (x ^^^ y) (by omega) k2).2.2, (bits32 _ d k3 hdl).1,
      (bits32 _ _ (and_lt32 _ _ k1) (and_lt32 _ _ k3)).2.1, ← brw_bits x y b d hx hy hb hd]
    rfl
  go_enter Tryz.func123, Tryz.ntmps123
  go_wp2
  go_ret2
  exact ⟨HE.out, rfl⟩

theorem brw_eq (x y b : Nat) (hx : x < 4294967296) (hy : y < 4294967296) (hb : b ≤ 1) : (x + 4294967296 - y - b) % 4294967296 + y + b = x + 4294967296 * brw x y b ∧ brw x y b ≤ 1 := by
  unfold brw; split <;> omega

/-- The difference and the borrow, each by a name. -/
theorem sub32_names (x y b : Nat) (hx : x < 4294967296) (hy : y < 4294967296) (hb : b ≤ 1) : ∃ q r : Nat, q < 4294967296 ∧ r ≤ 1 ∧ q + y + b = x + 4294967296 * r ∧
    ∀ w : World, Calls Tryz.prog 123 #[.int .u32 x, .int .u32 y, .int .u32 b] w fun e w' => e = .returned (.tuple #[.int .u32 q, .int .u32 r]) ∧ w' = w :=
  ⟨(x + 4294967296 - y - b) % 4294967296, brw x y b, by omega, (brw_eq x y b hx hy hb).2, (brw_eq x y b hx hy hb).1, Sub32_any x y b hx hy hb⟩

theorem brw_pow (B q y br x z : Nat) (h : q + y + br = x + 4294967296 * z) : B * q + B * y + B * br = B * x + B * 4294967296 * z := by
  rw [Nat.mul_assoc, ← Nat.mul_add, ← Nat.mul_add, ← Nat.mul_add, h]

/-- One digit more taken away. -/
theorem sub_step (l lb p : List Nat) (i br x y q r : Nat) (hx : l[i]? = some x) (hy : y = (lb[i]?).getD 0) (hp : p.length = i) (e : q + y + br = x + 4294967296 * r)
    (h : ofD p + ofD (lb.take i) = ofD (l.take i) + 4294967296 ^ i * br) :
    ofD (p ++ [q]) + ofD (lb.take (i + 1)) = ofD (l.take (i + 1)) + 4294967296 ^ (i + 1) * r := by
  rw [ofD_take_succ' l, ofD_take_succ' lb, ofD_snoc, hp, hx, Option.getD_some, ← hy, Nat.pow_succ]
  have := brw_pow (4294967296 ^ i) _ _ _ _ _ e
  generalize 4294967296 ^ i = B at *
  generalize B * q = bq at *
  generalize B * y = qy at *
  generalize B * br = qb at *
  generalize B * x = qx at *
  generalize B * 4294967296 * r = qz at *
  omega

theorem less_end (l lb p : List Nat) (k b : Nat) (hk : k = l.length) (hm : lb.length ≤ k) (hp : p.length = k) (hpl : ∀ d ∈ p, d < 4294967296) (hle : ofD lb ≤ ofD l) (h : ofD p + ofD (lb.take k) = ofD (l.take k) + 4294967296 ^ k * b) :
    ofD p + ofD lb = ofD l := by
  rw [List.take_of_length_le (by omega), List.take_of_length_le (by omega)] at h
  have := ofD_lt p hpl
  rw [hp] at this
  rcases Nat.eq_zero_or_pos b with h0 | h0
  · subst h0; omega
  · have : 4294967296 ^ k * 1 ≤ 4294967296 ^ k * b := Nat.mul_le_mul_left _ h0
    omega

theorem less_break (l lb p : List Nat) (j : Nat) (hj : j ≤ l.length) (hm : lb.length ≤ j) (hp : p.length = j) (h : ofD p + ofD (lb.take j) = ofD (l.take j) + 4294967296 ^ j * 0) :
    ofD (p ++ l.drop j) + ofD lb = ofD l := by
  rw [List.take_of_length_le hm] at h
  rw [ofD_append, hp, ofD_take_drop l j hj]
  omega

theorem row_at {l p : List Nat} {j x : Nat} (hp : p.length = j) (hx : l[j]? = some x) : (p ++ l.drop j)[j]? = some x := by
  rw [List.getElem?_append_right (by omega), List.getElem?_drop, hp, Nat.sub_self, Nat.add_zero, hx]
theorem row_set {l p : List Nat} {j x q : Nat} (hp : p.length = j) (hx : l[j]? = some x) : (p ++ l.drop j).set j q = (p ++ [q]) ++ l.drop (j + 1) := by
  obtain ⟨h1, rfl⟩ := List.getElem?_eq_some_iff.1 hx
  rw [List.drop_eq_getElem_cons h1, List.set_append_right _ _ (by omega), hp, Nat.sub_self, List.set_cons_zero, List.append_assoc, List.singleton_append]

theorem less_any (g k c : Nat) (l lb : List Nat) (B : Option Addr) (m cb : Nat) (w : World) (hk : k = l.length) (hkm : k ≤ 100000) (hkc : k ≤ c) (hm : m = lb.length) (hmk : m ≤ k) (hmc : m ≤ cb) (hl : ∀ d ∈ l, d < 4294967296) (hlb : ∀ d ∈ lb, d < 4294967296)
    (hR : Row w 145 g l) (hB : Digs w B lb) (hne : ∀ o, B ≠ some ⟨g, o, none⟩ ∨ m = 0) (hle : ofD lb ≤ ofD l) :
    Calls Tryz.prog 115 #[.slice (some ⟨g, 0, none⟩) k c, .slice B m cb] w fun e w' => e = .returned (.tuple #[]) ∧ ∃ l', Row w' 145 g l' ∧ l'.length = k ∧ (∀ d ∈ l', d < 4294967296) ∧ ofD l' + ofD lb = ofD l ∧ ExtBut (· = g) w w' := by
  have HK := Lib.hid hk; clear hk
  have HM := Lib.hid hm; clear hm
  have HL := Lib.hid hl; clear hl
  have HLB := Lib.hid hlb; clear hlb
  have HN := Lib.hid hne; clear hne
  go_enter Tryz.func115, Tryz.ntmps115
  go_wp2
  go_step3
  go_wp2
  go_step3
  go_wp2
  go_loopw [4, 9] (fun br i wr => ∃ (j b : Nat) (p : List Nat), j ≤ k ∧ b ≤ 1 ∧ i = .int .i64 j ∧ br = .int .u32 b ∧ p.length = j ∧ (∀ d ∈ p, d < 4294967296) ∧ Row wr 145 g (p ++ l.drop j) ∧ Hid (ofD p + ofD (lb.take j) = ofD (l.take j) + 4294967296 ^ j * b) ∧ ExtBut (· = g) w wr) (fun _ i _ => k - (intOf i).toNat)
  case atStart => exact ⟨0, 0, [], Nat.zero_le _, by omega, rfl, rfl, rfl, by simp, hR, by simp [Hid, ofD], ExtBut.refl _ _⟩
  case round =>
    obtain ⟨j, b, p, hj, hb, rfl, rfl, hp, hpl, hRj, HE, hx⟩ := hrel
    have HP := Lib.hid hp; clear hp
    have HPL := Lib.hid hpl; clear hpl
    by_cases h0 : j < k
    · obtain ⟨x, hx0⟩ : ∃ x, l[j]? = some x := ⟨_, List.getElem?_eq_getElem (by have := HK.out; omega)⟩
      have hxl : x < 4294967296 := by obtain ⟨h1, rfl⟩ := List.getElem?_eq_some_iff.1 hx0; exact HL.out _ (List.getElem_mem h1)
      have cx := hRj.cell (row_at HP.out hx0)
      have fx := hRj.free j
      by_cases h1 : j < m
      · obtain ⟨b2, o2, rfl, hb2, hc2⟩ := hB.cell j (by have := HM.out; omega)
        have hne2 : ¬ b2 = g := fun e => by rcases HN.out o2 with h2 | h2; exact h2 (by rw [e]); omega
        have hyl : lb[j]'(by have := HM.out; omega) < 4294967296 := HLB.out _ (List.getElem_mem _)
        have HY : Hid (lb[j]'(by have := HM.out; omega) = (lb[j]?).getD 0) := by rw [List.getElem?_eq_getElem (by have := HM.out; omega)]; rfl
        have cy := hx.cell hc2 hne2
        generalize lb[j]'(by have := HM.out; omega) = y at *
        obtain ⟨q, r, hq, hr, hqr, hS⟩ := sub32_names x y b hxl hyl hb
        have HS := sub_step l lb p j b x y q r hx0 HY.out HP.out hqr HE.out
        have HRN := hRj.set_ j q
        rw [row_set HP.out hx0] at HRN
        have HXN := hx.setCell (p := ⟨g, j, none⟩) (.inl rfl) (.int .u32 (q : Nat))
        have HC := Lib.hid hS
        have HHS := Lib.hid HS
        have HHRN := Lib.hid HRN
        have HHXN := Lib.hid HXN
        clear hqr hS hx0 HS HRN HXN hB hR hRj hx
        go_wp2_with (go_at_call 123; refine (HC.out _).mono ?_; rintro e w' ⟨rfl, rfl⟩)
        go_roundw
        case rel => exact ⟨j + 1, r, p ++ [q], by omega, hr, by go_num, rfl, by simp [HP.out], by
          intro d hd
          rcases List.mem_append.1 hd with hd | hd
          · exact HPL.out d hd
          · simp at hd; omega, HHRN.out, HHS.out, HHXN.out⟩
        case measure => simp [intOf]; omega
      · have HY : Hid ((0 : Nat) = (lb[j]?).getD 0) := by rw [List.getElem?_eq_none (by have := HM.out; omega)]; rfl
        rcases Nat.eq_zero_or_pos b with hb0 | hb0
        · subst hb0
          have HL2 := Lib.hid (less_break l lb p j (by have := HK.out; omega) (by have := HM.out; omega) HP.out HE.out)
          have HX := Lib.hid hx; clear hx
          have HR := Lib.hid hRj; clear hRj
          clear hx0 hB hR
          go_wp2
          try rw [Exit.noGoto_normal]
          refine bodyPost_end (results_none rfl _ _ _) rfl ⟨rfl, _, HR.out, by simp [HP.out]; have := HK.out; omega, ?_, HL2.out, HX.out⟩
          intro d hd
          rcases List.mem_append.1 hd with hd | hd
          · exact HPL.out d hd
          · exact HL.out d (List.mem_of_mem_drop hd)
        · obtain rfl : b = 1 := by omega
          obtain ⟨q, r, hq, hr, hqr, hS⟩ := sub32_names x 0 1 hxl (by omega) hb
          have HS := sub_step l lb p j 1 x 0 q r hx0 HY.out HP.out hqr HE.out
          have HRN := hRj.set_ j q
          rw [row_set HP.out hx0] at HRN
          have HXN := hx.setCell (p := ⟨g, j, none⟩) (.inl rfl) (.int .u32 (q : Nat))
          have HC := Lib.hid hS
          have HHS := Lib.hid HS
          have HHRN := Lib.hid HRN
          have HHXN := Lib.hid HXN
          clear hqr hS hx0 HS HRN HXN hB hR hRj hx
          go_wp2_with (go_at_call 123; refine (HC.out _).mono ?_; rintro e w' ⟨rfl, rfl⟩)
          go_roundw
          case rel => exact ⟨j + 1, r, p ++ [q], by omega, hr, by go_num, rfl, by simp [HP.out], by
            intro d hd
            rcases List.mem_append.1 hd with hd | hd
            · exact HPL.out d hd
            · simp at hd; omega, HHRN.out, HHS.out, HHXN.out⟩
          case measure => simp [intOf]; omega
    · have HX := Lib.hid hx; clear hx
      have HR := Lib.hid hRj; clear hRj
      obtain rfl : j = k := by omega
      have HF := Lib.hid (less_end l lb p j b HK.out (by have := HM.out; omega) HP.out HPL.out hle HE.out)
      go_wp2
      rw [Exit.noGoto_normal]
      have e : l.drop j = [] := List.drop_eq_nil_of_le (by have := HK.out; omega)
      refine bodyPost_end (results_none rfl _ _ _) rfl ⟨rfl, p, by have := HR.out; rwa [e, List.append_nil] at this, HP.out, HPL.out, HF.out, HX.out⟩
end Go.Proofs.YtiihnoelclnahaaGreatDoor
