/- Rows of machine numbers, as they lie in memory. -/
import Derived.Test.YtiihnoelclnahaaGreatDoorZintExact
namespace Go.Proofs.YtiihnoelclnahaaGreatDoor
open Go.RowKit
set_option linter.unusedVariables false

/-- The cells from A on hold these numbers. -/
def IsRow (w : World) (A : Option Addr) (l : List Int) : Prop :=
  0 < l.length → ∃ b off : Nat, A = some ⟨b, off, none⟩ ∧ b < w.heap.size ∧ ∀ (j : Nat) (z : Int), l[j]? = some z → w.cell? ⟨b, off + j, none⟩ = some (.int .i64 z)

/-- The cells from A on hold these rows. -/
def IsRows (w : World) (A : Option Addr) (rows : List (List Int)) : Prop :=
  0 < rows.length → ∃ b off : Nat, A = some ⟨b, off, none⟩ ∧ b < w.heap.size ∧ ∀ (i : Nat) (l : List Int), rows[i]? = some l → ∃ R c, w.cell? ⟨b, off + i, none⟩ = some (.slice R l.length c) ∧ l.length ≤ c ∧ IsRow w R l

/-- Every number is one of 64 bits, no row is too long. -/
def Fit64 (rows : List (List Int)) : Prop := rows.length ≤ 140737488351232 ∧ ∀ l ∈ rows, l.length ≤ 140737488351232 ∧ ∀ z ∈ l, -9223372036854775808 ≤ z ∧ z ≤ 9223372036854775807

theorem IsRow.ext {w w' : World} {A : Option Addr} {l : List Int} (h : IsRow w A l) (hb : Ext w w') : IsRow w' A l := by
  intro hl
  obtain ⟨b, off, e, hlt, hc⟩ := h hl
  exact ⟨b, off, e, Nat.lt_of_lt_of_le hlt hb.size, fun j d hj => hb.cell (hc j d hj)⟩
theorem IsRows.ext {w w' : World} {A : Option Addr} {rows : List (List Int)} (h : IsRows w A rows) (hb : Ext w w') : IsRows w' A rows := by
  intro hl
  obtain ⟨b, off, e, hlt, hc⟩ := h hl
  refine ⟨b, off, e, Nat.lt_of_lt_of_le hlt hb.size, fun i l hi => ?_⟩
  obtain ⟨R, c, h1, h2, h3⟩ := hc i l hi
  exact ⟨R, c, hb.cell h1, h2, h3.ext hb⟩

theorem IsRows.at_ {w : World} {A : Option Addr} {rows : List (List Int)} (h : IsRows w A rows) {i : Nat} {l : List Int} (hi : rows[i]? = some l) :
    ∃ (b off : Nat) (R : Option Addr) (c : Nat), A = some ⟨b, off, none⟩ ∧ b < w.heap.size ∧ w.cell? ⟨b, off + i, none⟩ = some (.slice R l.length c) ∧ l.length ≤ c ∧ IsRow w R l := by
  obtain ⟨b, off, e, hlt, hc⟩ := h (by have := (List.getElem?_eq_some_iff.1 hi).1; omega)
  obtain ⟨R, c, h1, h2, h3⟩ := hc i l hi
  exact ⟨b, off, R, c, e, hlt, h1, h2, h3⟩
theorem IsRow.at_ {w : World} {A : Option Addr} {l : List Int} (h : IsRow w A l) {j : Nat} {z : Int} (hj : l[j]? = some z) : ∃ b off : Nat, A = some ⟨b, off, none⟩ ∧ b < w.heap.size ∧ w.cell? ⟨b, off + j, none⟩ = some (.int .i64 z) := by
  obtain ⟨b, off, e, hlt, hc⟩ := h (by have := (List.getElem?_eq_some_iff.1 hj).1; omega)
  exact ⟨b, off, e, hlt, hc j z hj⟩
theorem Fit64.row {rows : List (List Int)} (h : Fit64 rows) {i : Nat} {l : List Int} (hi : rows[i]? = some l) : l.length ≤ 140737488351232 ∧ ∀ z ∈ l, -9223372036854775808 ≤ z ∧ z ≤ 9223372036854775807 := by
  obtain ⟨h1, rfl⟩ := List.getElem?_eq_some_iff.1 hi; exact h.2 _ (List.getElem_mem h1)
theorem Fit64.at_ {rows : List (List Int)} (h : Fit64 rows) {i j : Nat} {l : List Int} {z : Int} (hi : rows[i]? = some l) (hj : l[j]? = some z) : -9223372036854775808 ≤ z ∧ z ≤ 9223372036854775807 := by
  obtain ⟨h1, rfl⟩ := List.getElem?_eq_some_iff.1 hj; exact (h.row hi).2 _ (List.getElem_mem h1)

/-- Every entry by itself. -/
def eachB (P : Nat → Nat → Int → Bool) (rows : List (List Int)) : Bool :=
  (List.range rows.length).all fun i => (List.range ((rows[i]?).getD []).length).all fun j => P i j ((((rows[i]?).getD [])[j]?).getD 0)

theorem eachB_true {P : Nat → Nat → Int → Bool} {rows : List (List Int)} : eachB P rows = true ↔ ∀ i l, rows[i]? = some l → ∀ j z, l[j]? = some z → P i j z = true := by
  unfold eachB
  simp only [List.all_eq_true, List.mem_range]
  constructor
  · intro h i l hi j z hj
    have h1 := h i (List.getElem?_eq_some_iff.1 hi).1
    rw [hi] at h1
    have h2 := h1 j (by simpa using (List.getElem?_eq_some_iff.1 hj).1)
    simp only [Option.getD_some] at h2
    rw [hj] at h2
    exact h2
  · intro h i hi j hj
    have e : rows[i]? = some rows[i] := List.getElem?_eq_getElem hi
    rw [e] at hj ⊢
    simp only [Option.getD_some] at hj ⊢
    rw [List.getElem?_eq_getElem hj]
    exact h i _ e j _ (List.getElem?_eq_getElem hj)

theorem eachB_false {P : Nat → Nat → Int → Bool} {rows : List (List Int)} {i j : Nat} {l : List Int} {z : Int} (hi : rows[i]? = some l) (hj : l[j]? = some z) (h : P i j z = false) : eachB P rows = false := by
  cases he : eachB P rows with
  | false => rfl
  | true => have := eachB_true.1 he i l hi j z hj; rw [h] at this; cases this

def smallB (x : Int) : Bool := decide (-16384 ≤ x) && decide (x ≤ 16384)

theorem small_any (x : Int) (w : World) (h0 : -9223372036854775808 ≤ x) (h1 : x ≤ 9223372036854775807) :
    Calls Tryz.prog 35 #[.int .i64 x] w fun e w' => e = .returned (.bool (smallB x)) ∧ w = w' := by
  by_cases h2 : -16384 ≤ x
  · by_cases h3 : x ≤ 16384
    · have HS : Hid (smallB x = true) := by unfold smallB Hid; simp [h2, h3]
      go_enter Tryz.func35, Tryz.ntmps35
      go_wp2
      go_ret
      rw [HS.out]; exact ⟨rfl, rfl⟩
    · have HS : Hid (smallB x = false) := by unfold smallB Hid; simp [h3]
      have h4 : 16384 < x := by omega
      have hd : decide (x ≤ 16384) = false := by simp; omega
      clear h3
      go_enter Tryz.func35, Tryz.ntmps35
      go_wp2
      go_ret
      rw [HS.out]; exact ⟨rfl, rfl⟩
  · have HS : Hid (smallB x = false) := by unfold smallB Hid; simp [h2]
    have h4 : x < -16384 := by omega
    have hd : decide (-16384 ≤ x) = false := by simp; omega
    clear h2
    go_enter Tryz.func35, Tryz.ntmps35
    go_wp2
    go_ret
    rw [HS.out]; exact ⟨rfl, rfl⟩

theorem look1_any (i j x : Int) (w : World) (h0 : -9223372036854775808 ≤ x) (h1 : x ≤ 9223372036854775807) :
    Calls Tryz.prog 34 #[.int .i64 i, .int .i64 j, .int .i64 x] w fun e w' => e = .returned (.bool (smallB x)) ∧ w = w' := by
  have HS := Lib.hid (fun W => small_any x W h0 h1)
  go_enter Tryz.func34, Tryz.ntmps34
  go_wp2_with (go_at_call 35; refine (HS.out _).mono ?_; rintro e w' ⟨rfl, rfl⟩)
  go_ret
  exact ⟨rfl, rfl⟩

def smallP (_ _ : Nat) (x : Int) : Bool := smallB x
theorem look1P (i j : Nat) (x : Int) (w : World) (h0 : -9223372036854775808 ≤ x) (h1 : x ≤ 9223372036854775807) :
    Calls Tryz.prog 34 #[.int .i64 i, .int .i64 j, .int .i64 x] w fun e w' => e = .returned (.bool (smallP i j x)) ∧ w = w' := look1_any i j x w h0 h1

/-- x == a[j][i]. -/
def mirrorB (rows : List (List Int)) (i j : Nat) (x : Int) : Bool := x == ((((rows[j]?).getD [])[i]?).getD 0)

theorem look2_any (A : Option Addr) (n c : Nat) (rows : List (List Int)) (bx : Nat) (i j : Nat) (x : Int) (w : World) (hn : n = rows.length) (hn8 : n ≤ 100) (hc : w.cell? ⟨bx, 0, none⟩ = some (.slice A n c)) (hr : IsRows w A rows) (hf : Fit64 rows)
    (hsq : ∀ l ∈ rows, l.length = n) (hi : i < n) (hj : j < n) :
    Calls Tryz.prog 36 #[.int .i64 i, .int .i64 j, .int .i64 x, .pointer (some ⟨bx, 0, none⟩)] w fun e w' => e = .returned (.bool (mirrorB rows i j x)) ∧ w = w' := by
  obtain ⟨l, hl⟩ : ∃ l, rows[j]? = some l := ⟨_, List.getElem?_eq_getElem (by omega)⟩
  have hll : l.length = n := by obtain ⟨h1, rfl⟩ := List.getElem?_eq_some_iff.1 hl; exact hsq _ (List.getElem_mem h1)
  obtain ⟨z, hz⟩ : ∃ z, l[i]? = some z := ⟨_, List.getElem?_eq_getElem (by omega)⟩
  obtain ⟨b, off, R, c', rfl, hb, h1, h2, h3⟩ := hr.at_ hl
  obtain ⟨b2, off2, rfl, hb2, h4⟩ := h3.at_ hz
  have HM : Hid (mirrorB rows i j x = (x == z)) := by unfold mirrorB Hid; rw [hl, Option.getD_some, hz, Option.getD_some]
  rw [hll] at h1 h2
  clear hr hf hsq hn hl hz hll h3
  rw [HM.out]
  go_enter Tryz.func36, Tryz.ntmps36
  go_wp2
  go_ret
  exact ⟨rfl, rfl⟩
end Go.Proofs.YtiihnoelclnahaaGreatDoor
