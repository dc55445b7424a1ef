/- save.Sum: a text's sum. -/
import Derived.Test.YtiihnoelclnahaaGreatDoorGramChk
namespace Go.Proofs.YtiihnoelclnahaaGreatDoor
open Go.RowKit
set_option linter.unusedVariables false

/-- One byte more. -/
def fnvStep (n : Nat) (b : UInt8) : Nat := ((n ^^^ b.toNat) * 1099511628211) % 18446744073709551616
def fnvFrom (n : Nat) (l : List UInt8) : Nat := l.foldl fnvStep n
def fnv (l : List UInt8) : Nat := fnvFrom 14695981039346656037 l

theorem fnvStep_lt (n : Nat) (b : UInt8) : fnvStep n b < 18446744073709551616 := Nat.mod_lt _ (by omega)
theorem fnvFrom_lt (n : Nat) (l : List UInt8) (h : n < 18446744073709551616) : fnvFrom n l < 18446744073709551616 := by
  induction l generalizing n with
  | nil => exact h
  | cons b l ih => exact ih _ (fnvStep_lt n b)
theorem fnv_lt (l : List UInt8) : fnv l < 18446744073709551616 := fnvFrom_lt _ l (by omega)
theorem fnv_snoc (l : List UInt8) (b : UInt8) : fnv (l ++ [b]) = fnvStep (fnv l) b := by unfold fnv fnvFrom; rw [List.foldl_append, List.foldl_cons, List.foldl_nil]

theorem bits_xor_nat (k : IntKind) (j : Nat) (hj : j ≤ k.bits) (hk : ∀ n : Int, 0 ≤ n → n < 2 ^ j → k.wrap n = n) (a b : Nat) (ha : a < 2 ^ j) (hb : b < 2 ^ j) : bits .xor k a b = ((a ^^^ b : Nat) : Int) := by
  have hp : 2 ^ j ≤ 2 ^ k.bits := Nat.pow_le_pow_right (by decide) hj
  have ha' : a % 2 ^ k.bits = a := Nat.mod_eq_of_lt (Nat.lt_of_lt_of_le ha hp)
  have hb' : b % 2 ^ k.bits = b := Nat.mod_eq_of_lt (Nat.lt_of_lt_of_le hb hp)
  have cast : ∀ n : Nat, n < 2 ^ j → ((n : Nat) : Int) < 2 ^ j := fun n h => by exact_mod_cast h
  simp only [bits, BitVec.ofInt_natCast, BitVec.toNat_xor, BitVec.toNat_ofNat, ha', hb']
  exact hk _ (Int.natCast_nonneg _) (cast _ (Nat.xor_lt_two_pow ha hb))
theorem bits_xor (a b : Nat) (ha : a < 2 ^ 64) (hb : b < 2 ^ 64) : bits .xor .u64 (a : Int) (b : Int) = ((a ^^^ b : Nat) : Int) :=
  bits_xor_nat .u64 64 (by decide) wraps_u64 a b ha hb

theorem sum_names (n : Nat) (b : UInt8) (hn : n < 18446744073709551616) : ∃ x y : Nat, bits .xor .u64 (n : Int) (b.toNat : Int) = (x : Int) ∧ IntKind.u64.wrap ((x : Int) * 1099511628211) = (y : Int) ∧ Hid (y = fnvStep n b) := by
  refine ⟨n ^^^ b.toNat, fnvStep n b, bits_xor _ _ (by omega) (by have := b.toNat_lt; omega), ?_, rfl⟩
  show ((n ^^^ b.toNat : Nat) : Int) * 1099511628211 % 18446744073709551616 = _
  unfold fnvStep
  simp

theorem Sum_any (s : ByteArray) (w : World) (hs : s.size ≤ 140737488355328) :
    Calls Tryz.prog 8 #[.string s] w fun e w' => e = .returned (.int .u64 (fnv s.data.toList : Nat)) ∧ w = w' := by
  go_enter Tryz.func8, Tryz.ntmps8
  go_wp2
  go_loopg [3, 7] s.size (fun kk nv iv wr => ∃ i n : Nat, kk + i = s.size ∧ iv = .int .i64 i ∧ nv = .int .u64 n ∧ w = wr ∧ n < 18446744073709551616 ∧ Hid (n = fnv (s.data.toList.take i)))
  case atStart => exact ⟨0, 14695981039346656037, by omega, rfl, rfl, rfl, by omega, rfl⟩
  case round =>
    obtain ⟨i, n, hki, rfl, rfl, rfl, hn, HN⟩ := hrel
    by_cases hin : i < s.size
    · obtain ⟨x, y, h1, h2, HY⟩ := sum_names n s[i] hn
      have HS : Hid (y = fnv (s.data.toList.take (i + 1))) := by
        have hl : i < s.data.toList.length := by simpa using hin
        rw [List.take_succ_eq_append_getElem hl, fnv_snoc, ← HN.out]
        exact HY.out
      have hyl : y < 18446744073709551616 := by rw [HY.out]; exact fnvStep_lt _ _
      have hw : IntKind.u64.wrap (s[i].toNat : Int) = (s[i].toNat : Int) := wraps_u64 _ (by omega) (by have := s[i].toNat_lt; omega)
      go_wp2
      go_roundg (gk - 1)
      case measure => omega
      case rel => exact ⟨i + 1, y, by omega, by go_num, rfl, rfl, hyl, HS⟩
    · obtain rfl : i = s.size := by omega
      have HF : Hid (n = fnv s.data.toList) := by have := HN.out; rwa [List.take_of_length_le (by simp)] at this
      go_wp2
      go_ret
      exact ⟨ret_int (by rw [← HF.out]), rfl⟩
end Go.Proofs.YtiihnoelclnahaaGreatDoor
