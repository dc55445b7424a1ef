/- One byte of a text turned: the sum is another one. -/
import Derived.Test.YtiihnoelclnahaaGreatDoorSaveLaw
namespace Go.Proofs.YtiihnoelclnahaaGreatDoor
open Go.RowKit
set_option linter.unusedVariables false

theorem xor_cancel {n m b : Nat} (h : n ^^^ b = m ^^^ b) : n = m := by
  have := congrArg (· ^^^ b) h
  simpa [Nat.xor_assoc] using this
theorem mul_cancel {x y : Nat} (hx : x < 18446744073709551616) (hy : y < 18446744073709551616) (h : x * 1099511628211 % 18446744073709551616 = y * 1099511628211 % 18446744073709551616) : x = y := by
  have key : ∀ z : Nat, z < 18446744073709551616 → (z * 1099511628211 % 18446744073709551616) * 14886173955864302971 % 18446744073709551616 = z := by
    intro z hz
    rw [Nat.mod_mul_mod, Nat.mul_assoc, show 1099511628211 * 14886173955864302971 = 1 + 18446744073709551616 * 887285111055 by decide, Nat.mul_add, Nat.mul_one, ← Nat.mul_assoc, Nat.mul_comm z 18446744073709551616, Nat.mul_assoc, Nat.add_mul_mod_self_left, Nat.mod_eq_of_lt hz]
  rw [← key x hx, ← key y hy, h]
theorem xor_lt {n : Nat} (b : UInt8) (h : n < 18446744073709551616) : n ^^^ b.toNat < 18446744073709551616 := by
  have h1 : (18446744073709551616 : Nat) = 2 ^ 64 := by decide
  rw [h1] at h ⊢
  exact Nat.xor_lt_two_pow h (by have := b.toNat_lt; omega)
theorem fnvStep_inj {n m : Nat} {b c : UInt8} (hn : n < 18446744073709551616) (hm : m < 18446744073709551616) (h : fnvStep n b = fnvStep m c) : n ^^^ b.toNat = m ^^^ c.toNat :=
  mul_cancel (xor_lt b hn) (xor_lt c hm) h
theorem fnvFrom_inj (l : List UInt8) : ∀ {n m : Nat}, n < 18446744073709551616 → m < 18446744073709551616 → fnvFrom n l = fnvFrom m l → n = m := by
  induction l with
  | nil => intro n m _ _ h; exact h
  | cons b l ih =>
    intro n m hn hm h
    exact xor_cancel (fnvStep_inj hn hm (ih (fnvStep_lt _ _) (fnvStep_lt _ _) h))
theorem fnv_set {l : List UInt8} {p : Nat} {c : UInt8} (hp : p < l.length) (h : fnv (l.set p c) = fnv l) : l[p] = c := by
  have e1 : l = l.take p ++ (l[p] :: l.drop (p + 1)) := by rw [← List.drop_eq_getElem_cons hp, List.take_append_drop]
  have e2 : l.set p c = l.take p ++ (c :: l.drop (p + 1)) := by rw [List.set_eq_take_append_cons_drop, if_pos hp]
  have hf : ∀ x : UInt8, fnv (l.take p ++ (x :: l.drop (p + 1))) = fnvFrom (fnvStep (fnv (l.take p)) x) (l.drop (p + 1)) := fun x => by
    unfold fnv fnvFrom; rw [List.foldl_append, List.foldl_cons]
  rw [e2, hf] at h
  rw [show fnv l = fnv (l.take p ++ (l[p] :: l.drop (p + 1))) from congrArg fnv e1, hf] at h
  have h1 := fnvFrom_inj _ (fnvStep_lt _ _) (fnvStep_lt _ _) h
  have h2 := fnvStep_inj (fnv_lt _) (fnv_lt _) h1
  rw [Nat.xor_comm _ c.toNat, Nat.xor_comm _ (l[p]).toNat] at h2
  exact (UInt8.toNat_inj.1 (xor_cancel h2)).symm

/-- What sixteen digits tell. -/
def dgt (c : UInt8) : Nat := if c.toNat < 58 then c.toNat - 48 else c.toNat - 87
def unhex (l : List UInt8) : Nat := l.foldl (fun n c => 16 * n + dgt c) 0
theorem dgt_hexc (d : Nat) (h : d < 16) : dgt (hexc d) = d := by
  have : ∀ q : Fin 16, dgt (hexc q.val) = q.val := by decide
  exact this ⟨d, h⟩
theorem unhex_hexN (u : Nat) : unhex (hexN u) = u := by
  induction u using Nat.strongRecOn with
  | _ u ih =>
    by_cases h : u < 16
    · rw [hexN_small h]
      show 16 * 0 + dgt (hexc u) = u
      rw [dgt_hexc u h]; omega
    · rw [hexN_big h]
      unfold unhex
      rw [List.foldl_append]
      show 16 * unhex (hexN (u / 16)) + dgt (hexc (u % 16)) = u
      rw [ih (u / 16) (by omega), dgt_hexc _ (by omega)]; omega
theorem unhex_hex16 (u : Nat) : unhex (hex16 u) = u := by
  unfold hex16
  have : ∀ k : Nat, (List.replicate k (48 : UInt8)).foldl (fun n c => 16 * n + dgt c) 0 = 0 := by
    intro k
    induction k with
    | zero => rfl
    | succ k ih =>
      rw [List.replicate_succ, List.foldl_cons]
      exact ih
  unfold unhex
  rw [List.foldl_append, this]
  exact unhex_hexN u
theorem tailT_inj {a b : List UInt8} (h : tailT a = tailT b) : fnv a = fnv b := by
  unfold tailT at h
  have h1 := List.append_inj_left h (by rw [List.length_append, List.length_append, hex16_len (fnv_lt a), hex16_len (fnv_lt b)])
  have h2 := List.append_inj_right h1 rfl
  rw [← unhex_hex16 (fnv a), h2, unhex_hex16]

/-- A text in which one byte was turned is no text. -/
theorem turned {ls m : List (List (List Int))} {p : Nat} {c : UInt8} (hp : p < (textOf ls).length) (h : readP ((textOf ls).set p c) = .ok m) : (textOf ls)[p] = c := by
  have e := (readP_ok h).1
  rw [textOf_tail] at e
  obtain ⟨x, hx⟩ : ∃ x, textOf ls = x := ⟨_, rfl⟩
  have ex : x = bodyOf ls ++ tailT (bodyOf ls) := by rw [← hx]; exact textOf_tail ls
  simp only [hx] at e hp ⊢
  have hl := congrArg List.length e
  rw [List.length_set, List.length_append, tailT_len] at hl
  have hl2 := congrArg List.length ex
  rw [List.length_append, tailT_len] at hl2
  have hk : (bodyOf m).length = (bodyOf ls).length := by omega
  have t1 : (x.set p c).take (bodyOf ls).length = bodyOf m := by rw [← e, ← hk]; exact List.take_left' rfl
  have d1 : (x.set p c).drop (bodyOf ls).length = tailT (bodyOf m) := by rw [← e, ← hk]; exact List.drop_left' rfl
  have t2 : x.take (bodyOf ls).length = bodyOf ls := by conv => lhs; rw [ex]
                                                        exact List.take_left' rfl
  have d2 : x.drop (bodyOf ls).length = tailT (bodyOf ls) := by conv => lhs; rw [ex]
                                                                exact List.drop_left' rfl
  rcases Nat.lt_or_ge p (bodyOf ls).length with hpk | hpk
  · have hb : bodyOf m = (bodyOf ls).set p c := by rw [← t1, List.take_set, t2]
    have hd : tailT (bodyOf m) = tailT (bodyOf ls) := by rw [← d1, ← d2, List.drop_set_of_lt hpk]
    have hf := tailT_inj hd
    rw [hb] at hf
    have := fnv_set hpk hf
    rw [← this]
    have q : x[p]? = (bodyOf ls)[p]? := by rw [← t2, List.getElem?_take, if_pos hpk]
    rw [List.getElem?_eq_getElem hp, List.getElem?_eq_getElem hpk] at q
    exact Option.some.inj q
  · have hb : bodyOf m = bodyOf ls := by rw [← t1, List.take_set, List.set_eq_of_length_le (by rw [List.length_take]; omega), t2]
    have he : x.set p c = x := by rw [← e, hb, ← ex]
    have q : (x.set p c)[p]? = x[p]? := by rw [he]
    rw [List.getElem?_set_self hp, List.getElem?_eq_getElem hp] at q
    exact (Option.some.inj q).symm
end Go.Proofs.YtiihnoelclnahaaGreatDoor
