/- How a text is read: plain functions over its bytes. -/
import Derived.Test.YtiihnoelclnahaaGreatDoorSaveBase
import Derived.Lib.ParseIntB
namespace Go.Proofs.YtiihnoelclnahaaGreatDoor
open Go.RowKit
set_option linter.unusedVariables false

/-- The bytes of w stand at a; else the place where they part. -/
def wordP (s : List UInt8) : List UInt8 → Nat → Except Nat Nat
  | [], a => .ok a
  | c :: w, a => if s[a]? = some c then wordP s w (a + 1) else .error a

def digB (c : UInt8) : Bool := decide (48 ≤ c.toNat) && decide (c.toNat ≤ 57)
/-- Behind the digits from e on. -/
def skipD (s : List UInt8) (e : Nat) : Nat := e + ((s.drop e).takeWhile digB).length
def endN (s : List UInt8) (a : Nat) : Nat := skipD s (if s[a]? = some 45 then a + 1 else a)
def cutL (s : List UInt8) (a b : Nat) : List UInt8 := (s.drop a).take (b - a)
/-- What a text of digits tells, written as it is told. -/
def numT (t : List UInt8) (lo hi : Int) : Option Int :=
  match Lib.parseIntB 64 t with
  | .ok v => if Lib.itoa v = t ∧ lo ≤ v ∧ v ≤ hi then some v else none
  | _ => none
def numP (s : List UInt8) (lo hi : Int) (a : Nat) : Except Nat (Int × Nat) :=
  match numT (cutL s a (endN s a)) lo hi with
  | some v => .ok (v, endN s a)
  | none => .error a

/-- So many entries, behind a blank each. -/
def flatP (s : List UInt8) : Nat → Nat → List Int → Except Nat (List Int × Nat)
  | 0, a, acc => .ok (acc, a)
  | m + 1, a, acc =>
    match wordP s [32] a with
    | .error b => .error b
    | .ok a1 =>
      match numP s (-16384) 16384 a1 with
      | .error b => .error b
      | .ok (v, a2) => flatP s m a2 (acc ++ [v])

def tri (n : Nat) : Nat := n * (n + 1) / 2
/-- The entry of the symmetric matrix whose lower half stands in l, row for row. -/
def ent (l : List Int) (i j : Nat) : Int := l.getD (tri (max i j) + min i j) 0
def matOf (n : Nat) (l : List Int) : List (List Int) := (List.range n).map fun i => (List.range n).map fun j => ent l i j

def formP (s : List UInt8) (a : Nat) : Except Nat (List (List Int) × Nat) :=
  match numP s 1 8 a with
  | .error b => .error b
  | .ok (n, a1) =>
    match flatP s (tri n.toNat) a1 [] with
    | .error b => .error b
    | .ok (l, a2) =>
      match wordP s [10] a2 with
      | .error b => .error b
      | .ok a3 => if chk (matOf n.toNat l) = 0 then .ok (matOf n.toNat l, a3) else .error a

def formsP (s : List UInt8) : Nat → Nat → List (List (List Int)) → Except Nat (List (List (List Int)) × Nat)
  | 0, a, acc => .ok (acc, a)
  | k + 1, a, acc =>
    match formP s a with
    | .error b => .error b
    | .ok (f, a1) => formsP s k a1 (acc ++ [f])

def hexB (c : UInt8) : Bool := (decide (48 ≤ c.toNat) && decide (c.toNat ≤ 57)) || (decide (97 ≤ c.toNat) && decide (c.toNat ≤ 102))
def hexP (s : List UInt8) : Nat → Nat → Except Nat Nat
  | 0, a => .ok a
  | k + 1, a => match s[a]? with
    | none => .error a
    | some c => if hexB c = true then hexP s k (a + 1) else .error a

/-- From "sum " on: 0, 0, or the code and the place. -/
def tailP (s : List UInt8) (a : Nat) : Int × Nat :=
  match wordP s sumW a with
  | .error b => (280, b)
  | .ok f =>
    match hexP s 16 f with
    | .error b => (280, b)
    | .ok f2 =>
      match wordP s [10] f2 with
      | .error b => (280, b)
      | .ok e => if e < s.length then (280, e) else if cutL s f (f + 16) = hex16 (fnv (s.take a)) then (0, 0) else (281, f)

/-- What Read tells: the list, or a code and a place. -/
def readP (s : List UInt8) : Except (Int × Nat) (List (List (List Int))) :=
  if 1048576 < s.length then .error (3, 0) else
  match wordP s headW 0 with
  | .error b => .error (280, b)
  | .ok a1 =>
    match numP s 0 64 a1 with
    | .error b => .error (280, b)
    | .ok (n, a2) =>
      match wordP s [10] a2 with
      | .error b => .error (280, b)
      | .ok a3 =>
        match formsP s n.toNat a3 [] with
        | .error b => .error (280, b)
        | .ok (l, a4) => if (tailP s a4).1 = 0 then .ok l else .error (tailP s a4)

/-! ### Places -/
theorem wordP_le {s : List UInt8} {w : List UInt8} {a b : Nat} (h : wordP s w a = .ok b) (ha : a ≤ s.length) : b = a + w.length ∧ b ≤ s.length := by
  induction w generalizing a with
  | nil => injection h with h; exact ⟨by simp [h], by omega⟩
  | cons c w ih =>
    rw [wordP] at h
    split at h
    · rename_i hc
      have hl := (List.getElem?_eq_some_iff.1 hc).1
      obtain ⟨h1, h2⟩ := ih h (by omega)
      exact ⟨by rw [List.length_cons]; omega, h2⟩
    · cases h
theorem wordP_err {s : List UInt8} {w : List UInt8} {a b : Nat} (h : wordP s w a = .error b) (ha : a ≤ s.length) : a ≤ b ∧ b ≤ s.length := by
  induction w generalizing a with
  | nil => cases h
  | cons c w ih =>
    rw [wordP] at h
    split at h
    · rename_i hc
      have hl := (List.getElem?_eq_some_iff.1 hc).1
      have := ih h (by omega)
      exact ⟨by omega, this.2⟩
    · injection h with h; omega
theorem skipD_le (s : List UInt8) (e : Nat) (h : e ≤ s.length) : e ≤ skipD s e ∧ skipD s e ≤ s.length := by
  unfold skipD
  have h1 : ((s.drop e).takeWhile digB).length ≤ (s.drop e).length := (List.takeWhile_sublist _).length_le
  rw [List.length_drop] at h1
  omega
theorem skipD_step {s : List UInt8} {e : Nat} {c : UInt8} (h : s[e]? = some c) (hd : digB c = true) : skipD s e = skipD s (e + 1) := by
  obtain ⟨h1, rfl⟩ := List.getElem?_eq_some_iff.1 h
  unfold skipD
  rw [List.drop_eq_getElem_cons h1, List.takeWhile_cons_of_pos hd, List.length_cons]
  omega
theorem skipD_stop {s : List UInt8} {e : Nat} {c : UInt8} (h : s[e]? = some c) (hd : digB c = false) : skipD s e = e := by
  obtain ⟨h1, rfl⟩ := List.getElem?_eq_some_iff.1 h
  unfold skipD
  rw [List.drop_eq_getElem_cons h1, List.takeWhile_cons_of_neg (by simp [hd])]
  rfl
theorem skipD_end (s : List UInt8) (e : Nat) (h : s.length ≤ e) : skipD s e = e := by
  unfold skipD
  rw [List.drop_eq_nil_of_le h]; rfl
theorem endN_le (s : List UInt8) (a : Nat) (h : a ≤ s.length) : a ≤ endN s a ∧ endN s a ≤ s.length := by
  unfold endN
  split
  · rename_i hc
    have hl := (List.getElem?_eq_some_iff.1 hc).1
    have := skipD_le s (a + 1) (by omega)
    omega
  · exact skipD_le s a h
theorem numP_le {s : List UInt8} {lo hi v : Int} {a b : Nat} (h : numP s lo hi a = .ok (v, b)) (ha : a ≤ s.length) : a ≤ b ∧ b ≤ s.length ∧ lo ≤ v ∧ v ≤ hi := by
  unfold numP at h
  split at h
  · rename_i u hu
    injection h with h
    injection h with h1 h2
    subst h1; subst h2
    have := endN_le s a ha
    refine ⟨this.1, this.2, ?_⟩
    unfold numT at hu
    split at hu
    · split at hu
      · rename_i hh; injection hu with hu; rw [← hu]; exact hh.2
      · cases hu
    · cases hu
  · cases h
theorem numP_err {s : List UInt8} {lo hi : Int} {a b : Nat} (h : numP s lo hi a = .error b) : b = a := by
  unfold numP at h
  split at h
  · cases h
  · injection h with h; exact h.symm

/-! ### How it goes on -/
/-- What is told behind the forms. -/
def afterP (s : List UInt8) : Except Nat (List (List (List Int)) × Nat) → Except (Int × Nat) (List (List (List Int)))
  | .error b => .error (280, b)
  | .ok (l, a) => if (tailP s a).1 = 0 then .ok l else .error (tailP s a)
theorem readP_1 {s : List UInt8} {b : Nat} (h0 : ¬ 1048576 < s.length) (h : wordP s headW 0 = .error b) : readP s = .error (280, b) := by
  unfold readP; rw [if_neg h0, h]
theorem readP_2 {s : List UInt8} {a1 b : Nat} (h0 : ¬ 1048576 < s.length) (h1 : wordP s headW 0 = .ok a1) (h : numP s 0 64 a1 = .error b) : readP s = .error (280, b) := by
  unfold readP; rw [if_neg h0, h1]; simp only [h]
theorem readP_3 {s : List UInt8} {a1 a2 b : Nat} {n : Int} (h0 : ¬ 1048576 < s.length) (h1 : wordP s headW 0 = .ok a1) (h2 : numP s 0 64 a1 = .ok (n, a2)) (h : wordP s [10] a2 = .error b) : readP s = .error (280, b) := by
  unfold readP; rw [if_neg h0, h1]; simp only [h2, h]
theorem readP_4 {s : List UInt8} {a1 a2 a3 : Nat} {n : Int} (h0 : ¬ 1048576 < s.length) (h1 : wordP s headW 0 = .ok a1) (h2 : numP s 0 64 a1 = .ok (n, a2)) (h3 : wordP s [10] a2 = .ok a3) : readP s = afterP s (formsP s n.toNat a3 []) := by
  unfold readP; rw [if_neg h0, h1]; simp only [h2, h3]
  cases formsP s n.toNat a3 [] with
  | error b => rfl
  | ok x => rfl
theorem flatP_w {s : List UInt8} {m a b : Nat} {acc : List Int} (h : wordP s [32] a = .error b) : flatP s (m + 1) a acc = .error b := by rw [flatP, h]
theorem flatP_n {s : List UInt8} {m a a1 b : Nat} {acc : List Int} (h1 : wordP s [32] a = .ok a1) (h : numP s (-16384) 16384 a1 = .error b) : flatP s (m + 1) a acc = .error b := by rw [flatP, h1]; simp only [h]
theorem flatP_s {s : List UInt8} {m a a1 a2 : Nat} {v : Int} {acc : List Int} (h1 : wordP s [32] a = .ok a1) (h2 : numP s (-16384) 16384 a1 = .ok (v, a2)) : flatP s (m + 1) a acc = flatP s m a2 (acc ++ [v]) := by rw [flatP, h1]; simp only [h2]
theorem formP_n {s : List UInt8} {a b : Nat} (h : numP s 1 8 a = .error b) : formP s a = .error b := by unfold formP; rw [h]
theorem formP_f {s : List UInt8} {a a1 b : Nat} {n : Int} (h1 : numP s 1 8 a = .ok (n, a1)) (h : flatP s (tri n.toNat) a1 [] = .error b) : formP s a = .error b := by unfold formP; rw [h1]; simp only [h]
theorem formP_w {s : List UInt8} {a a1 a2 b : Nat} {n : Int} {l : List Int} (h1 : numP s 1 8 a = .ok (n, a1)) (h2 : flatP s (tri n.toNat) a1 [] = .ok (l, a2)) (h : wordP s [10] a2 = .error b) : formP s a = .error b := by unfold formP; rw [h1]; simp only [h2, h]
theorem formP_c {s : List UInt8} {a a1 a2 a3 : Nat} {n : Int} {l : List Int} (h1 : numP s 1 8 a = .ok (n, a1)) (h2 : flatP s (tri n.toNat) a1 [] = .ok (l, a2)) (h3 : wordP s [10] a2 = .ok a3) (h : chk (matOf n.toNat l) ≠ 0) : formP s a = .error a := by unfold formP; rw [h1]; simp only [h2, h3, if_neg h]
theorem formP_s {s : List UInt8} {a a1 a2 a3 : Nat} {n : Int} {l : List Int} (h1 : numP s 1 8 a = .ok (n, a1)) (h2 : flatP s (tri n.toNat) a1 [] = .ok (l, a2)) (h3 : wordP s [10] a2 = .ok a3) (h : chk (matOf n.toNat l) = 0) : formP s a = .ok (matOf n.toNat l, a3) := by unfold formP; rw [h1]; simp only [h2, h3, if_pos h]
theorem forms_err {s : List UInt8} {k a b : Nat} {acc : List (List (List Int))} (h : formP s a = .error b) : afterP s (formsP s (k + 1) a acc) = .error (280, b) := by rw [formsP, h]; rfl
theorem forms_s {s : List UInt8} {k a b : Nat} {acc : List (List (List Int))} {f : List (List Int)} (h : formP s a = .ok (f, b)) : formsP s (k + 1) a acc = formsP s k b (acc ++ [f]) := by rw [formsP, h]
theorem after_0 {s : List UInt8} {a : Nat} {acc : List (List (List Int))} {q : Int × Nat} (h : tailP s a = q) (hq : q.1 ≠ 0) : afterP s (formsP s 0 a acc) = .error q := by
  unfold formsP afterP; simp only [h, if_neg hq]
theorem after_e {s : List UInt8} {a b : Nat} {c : Int} {acc : List (List (List Int))} (h : tailP s a = (c, b)) (hc : c ≠ 0) : afterP s (formsP s 0 a acc) = .error (c, b) := after_0 h hc
theorem after_ok {s : List UInt8} {a : Nat} {acc : List (List (List Int))} (h : tailP s a = (0, 0)) : afterP s (formsP s 0 a acc) = .ok acc := by
  unfold formsP afterP; simp only [h, if_true]
theorem tailP_1 {s : List UInt8} {a b : Nat} (h : wordP s sumW a = .error b) : tailP s a = (280, b) := by unfold tailP; rw [h]
theorem tailP_2 {s : List UInt8} {a f b : Nat} (h1 : wordP s sumW a = .ok f) (h : hexP s 16 f = .error b) : tailP s a = (280, b) := by unfold tailP; rw [h1]; simp only [h]
theorem tailP_3 {s : List UInt8} {a f f2 b : Nat} (h1 : wordP s sumW a = .ok f) (h2 : hexP s 16 f = .ok f2) (h : wordP s [10] f2 = .error b) : tailP s a = (280, b) := by unfold tailP; rw [h1]; simp only [h2, h]
theorem tailP_4 {s : List UInt8} {a f f2 e : Nat} (h1 : wordP s sumW a = .ok f) (h2 : hexP s 16 f = .ok f2) (h3 : wordP s [10] f2 = .ok e) (h : e < s.length) : tailP s a = (280, e) := by unfold tailP; rw [h1]; simp only [h2, h3, if_pos h]
theorem tailP_5 {s : List UInt8} {a f f2 e : Nat} (h1 : wordP s sumW a = .ok f) (h2 : hexP s 16 f = .ok f2) (h3 : wordP s [10] f2 = .ok e) (h : ¬ e < s.length) (h4 : cutL s f (f + 16) ≠ hex16 (fnv (s.take a))) : tailP s a = (281, f) := by unfold tailP; rw [h1]; simp only [h2, h3, if_neg h, if_neg h4]
theorem tailP_6 {s : List UInt8} {a f f2 e : Nat} (h1 : wordP s sumW a = .ok f) (h2 : hexP s 16 f = .ok f2) (h3 : wordP s [10] f2 = .ok e) (h : ¬ e < s.length) (h4 : cutL s f (f + 16) = hex16 (fnv (s.take a))) : tailP s a = (0, 0) := by unfold tailP; rw [h1]; simp only [h2, h3, if_neg h, if_pos h4]
theorem hexP_le {s : List UInt8} {k a b : Nat} (h : hexP s k a = .ok b) (ha : a ≤ s.length) : b = a + k ∧ b ≤ s.length := by
  induction k generalizing a with
  | zero => injection h with h; omega
  | succ k ih =>
    rw [hexP] at h
    cases hc : s[a]? with
    | none => rw [hc] at h; cases h
    | some c =>
      rw [hc] at h
      simp only at h
      split at h
      · have hl := (List.getElem?_eq_some_iff.1 hc).1
        have := ih h (by omega)
        omega
      · cases h
theorem hexP_s {s : List UInt8} {k a : Nat} {c : UInt8} (hc : s[a]? = some c) (h : hexB c = true) : hexP s (k + 1) a = hexP s k (a + 1) := by rw [hexP, hc]; simp only [if_pos h]
theorem hexP_e {s : List UInt8} {k a : Nat} {c : UInt8} (hc : s[a]? = some c) (h : hexB c = false) : hexP s (k + 1) a = .error a := by rw [hexP, hc]; simp only [h]; rfl
theorem hexP_end {s : List UInt8} {k a : Nat} (hc : s[a]? = none) : hexP s (k + 1) a = .error a := by rw [hexP, hc]

/-! ### The lower half -/
theorem tri_succ (n : Nat) : tri (n + 1) = tri n + (n + 1) := by
  unfold tri
  rw [show (n + 1) * (n + 1 + 1) = n * (n + 1) + 2 * (n + 1) by rw [Nat.mul_add (n + 1) (n + 1) 1, Nat.add_mul n 1 (n + 1)]; omega, Nat.add_mul_div_left _ _ (by omega)]
theorem tri_mono {a b : Nat} (h : a ≤ b) : tri a ≤ tri b := by
  induction b with
  | zero => obtain rfl : a = 0 := by omega
            exact Nat.le_refl _
  | succ b ih =>
    rcases Nat.lt_or_ge a (b + 1) with h1 | h1
    · have := ih (by omega); rw [tri_succ]; omega
    · obtain rfl : a = b + 1 := by omega
      exact Nat.le_refl _
theorem ent_zero {l : List Int} {r j : Nat} (h : l.length ≤ tri r) (i : Nat) (hi : r ≤ i) : ent l i j = 0 := by
  unfold ent
  have h1 := tri_mono (show r ≤ max i j by omega)
  rw [List.getD_eq_getElem?_getD, List.getElem?_eq_none (by omega)]; rfl
theorem ent_snoc {l : List Int} {r k : Nat} (v : Int) (h : l.length = tri r + k) (hk : k ≤ r) (i j : Nat) : ent (l ++ [v]) i j = if (i = r ∧ j = k) ∨ (i = k ∧ j = r) then v else ent l i j := by
  unfold ent
  rw [List.getD_eq_getElem?_getD, List.getD_eq_getElem?_getD]
  by_cases e : (i = r ∧ j = k) ∨ (i = k ∧ j = r)
  · rw [if_pos e]
    have e2 : tri (max i j) + min i j = l.length := by
      rcases e with ⟨rfl, rfl⟩ | ⟨rfl, rfl⟩
      · rw [h, Nat.max_eq_left hk, Nat.min_eq_right hk]
      · rw [h, Nat.max_eq_right hk, Nat.min_eq_left hk]
    rw [e2, List.getElem?_append_right (Nat.le_refl _), Nat.sub_self]; rfl
  · rw [if_neg e]
    have hne : tri (max i j) + min i j ≠ l.length := by
      rw [h]
      rcases Nat.lt_trichotomy (max i j) r with h1 | h1 | h1
      · have := tri_mono (show max i j + 1 ≤ r by omega)
        rw [tri_succ] at this; omega
      · rw [h1]; omega
      · have := tri_mono (show r + 1 ≤ max i j by omega)
        rw [tri_succ] at this; omega
    rcases Nat.lt_or_ge (tri (max i j) + min i j) l.length with h1 | h1
    · rw [List.getElem?_append_left h1]
    · rw [List.getElem?_eq_none (by rw [List.length_append, List.length_cons, List.length_nil]; omega), List.getElem?_eq_none h1]
end Go.Proofs.YtiihnoelclnahaaGreatDoor
