/- What readP tells of the example's fourteen texts. -/
import Derived.Test.YtiihnoelclnahaaGreatDoorSaveTurn
import Derived.Test.YtiihnoelclnahaaGreatDoorSaveNum
namespace Go.Proofs.YtiihnoelclnahaaGreatDoor
open Go.RowKit
set_option linter.unusedVariables false
set_option linter.unusedSimpArgs false
set_option maxRecDepth 10000

theorem itd {n : Nat} (h : n < 10) : Lib.itoa (n : Int) = [UInt8.ofNat (48 + n)] := by
  unfold Lib.itoa
  rw [if_neg (by omega), Int.toNat_natCast, Lib.decDigits_one h]
theorem it0 : Lib.itoa 0 = [48] := itd (n := 0) (by decide)
theorem it1 : Lib.itoa 1 = [49] := itd (n := 1) (by decide)
theorem it2 : Lib.itoa 2 = [50] := itd (n := 2) (by decide)

def kt0 : List UInt8 := []
def kt1 : List UInt8 := [112, 97, 114, 113, 117, 101, 116, 32, 54, 53]
def kt2 : List UInt8 := [112, 97, 114, 113, 117, 101, 116, 32, 49, 10, 57, 32]
def kt3 : List UInt8 := [112, 97, 114, 113, 117, 101, 116, 32, 48, 49, 10]
def kt4 : List UInt8 := [112, 97, 114, 113, 117, 101, 116, 32, 49, 10, 50, 32, 49, 32, 50, 32, 49, 10, 115, 117, 109]
def kt5 : List UInt8 := [112, 97, 114, 113, 117, 101, 116, 32, 49, 10, 49, 32, 49, 54, 51, 56, 53, 10]
def kt6 : List UInt8 := [112, 97, 114, 113, 117, 101, 116, 32, 49, 10, 49, 32, 45, 48, 10]
def kt7 : List UInt8 := [112, 97, 114, 113, 117, 101, 116, 32, 49, 10, 49, 32, 32, 49, 10]
def kt8 : List UInt8 := [112, 97, 114, 113, 117, 101, 116, 32, 48, 10, 115, 117, 109, 32, 48, 48, 48, 48, 48, 48, 48, 48, 48, 48, 48, 48, 48, 48, 48, 71, 10]
def kt9 : List UInt8 := [112, 97, 114, 113, 117, 101, 116, 32, 48, 10, 115, 117, 109, 32, 48, 48, 48, 48, 48, 48, 48, 48, 48, 48, 48, 48, 48, 48, 48, 48, 10]
def kt11 : List UInt8 := [112, 97, 114, 113, 117, 101, 116, 32, 45, 49, 10]
def kt12 : List UInt8 := [112, 97, 114, 113, 117, 101, 116, 32, 49, 10, 48, 10]
def kt13 : List UInt8 := [112, 97, 114, 113, 117, 101, 116, 32, 49, 10, 49, 32, 45, 49, 54, 51, 56, 53, 10]
theorem kr0 : readP kt0 = .error (280, 0) := readP_1 (by decide) (show wordP kt0 headW 0 = .error 0 from rfl)
theorem kr1 : readP kt1 = .error (280, 8) := readP_2 (by decide) (show wordP kt1 headW 0 = .ok 8 from rfl) (show numP kt1 0 64 8 = .error 8 from numP_no (v := 65) (E := 10) rfl rfl (by omega))
theorem kr2 : readP kt2 = .error (280, 10) := (readP_4 (by decide) (show wordP kt2 headW 0 = .ok 8 from rfl) (show numP kt2 0 64 8 = .ok (1, 9) from numP_yes (v := 1) (E := 9) rfl rfl ⟨it1.trans rfl, by omega, by omega⟩) (show wordP kt2 [10] 9 = .ok 10 from rfl)).trans (forms_err (k := 0) (formP_n (show numP kt2 1 8 10 = .error 10 from numP_no (v := 9) (E := 11) rfl rfl (by omega))))
theorem kr3 : readP kt3 = .error (280, 8) := readP_2 (by decide) (show wordP kt3 headW 0 = .ok 8 from rfl) (show numP kt3 0 64 8 = .error 8 from numP_no (v := 1) (E := 10) rfl rfl (by rw [it1]; decide))
theorem kr4 : readP kt4 = .error (280, 10) := (readP_4 (by decide) (show wordP kt4 headW 0 = .ok 8 from rfl) (show numP kt4 0 64 8 = .ok (1, 9) from numP_yes (v := 1) (E := 9) rfl rfl ⟨it1.trans rfl, by omega, by omega⟩) (show wordP kt4 [10] 9 = .ok 10 from rfl)).trans (forms_err (k := 0) (formP_c (n := 2) (l := [1, 2, 1]) (a1 := 11) (a2 := 17) (a3 := 18) (show numP kt4 1 8 10 = .ok (2, 11) from numP_yes (v := 2) (E := 11) rfl rfl ⟨it2.trans rfl, by omega, by omega⟩)
    (show flatP kt4 3 11 [] = .ok ([1, 2, 1], 17) from
      (flatP_s (show wordP kt4 [32] 11 = .ok 12 from rfl) (show numP kt4 (-16384) 16384 12 = .ok (1, 13) from numP_yes (v := 1) (E := 13) rfl rfl ⟨it1.trans rfl, by omega, by omega⟩)).trans
      ((flatP_s (show wordP kt4 [32] 13 = .ok 14 from rfl) (show numP kt4 (-16384) 16384 14 = .ok (2, 15) from numP_yes (v := 2) (E := 15) rfl rfl ⟨it2.trans rfl, by omega, by omega⟩)).trans
      ((flatP_s (show wordP kt4 [32] 15 = .ok 16 from rfl) (show numP kt4 (-16384) 16384 16 = .ok (1, 17) from numP_yes (v := 1) (E := 17) rfl rfl ⟨it1.trans rfl, by omega, by omega⟩)).trans rfl)))
    (show wordP kt4 [10] 17 = .ok 18 from rfl) (by decide +kernel)))
theorem kr5 : readP kt5 = .error (280, 12) := (readP_4 (by decide) (show wordP kt5 headW 0 = .ok 8 from rfl) (show numP kt5 0 64 8 = .ok (1, 9) from numP_yes (v := 1) (E := 9) rfl rfl ⟨it1.trans rfl, by omega, by omega⟩) (show wordP kt5 [10] 9 = .ok 10 from rfl)).trans (forms_err (k := 0) (formP_f (show numP kt5 1 8 10 = .ok (1, 11) from numP_yes (v := 1) (E := 11) rfl rfl ⟨it1.trans rfl, by omega, by omega⟩) (show flatP kt5 1 11 [] = .error 12 from flatP_n (show wordP kt5 [32] 11 = .ok 12 from rfl) (numP_no (v := 16385) (E := 17) rfl rfl (by omega)))))
theorem kr6 : readP kt6 = .error (280, 12) := (readP_4 (by decide) (show wordP kt6 headW 0 = .ok 8 from rfl) (show numP kt6 0 64 8 = .ok (1, 9) from numP_yes (v := 1) (E := 9) rfl rfl ⟨it1.trans rfl, by omega, by omega⟩) (show wordP kt6 [10] 9 = .ok 10 from rfl)).trans (forms_err (k := 0) (formP_f (show numP kt6 1 8 10 = .ok (1, 11) from numP_yes (v := 1) (E := 11) rfl rfl ⟨it1.trans rfl, by omega, by omega⟩) (show flatP kt6 1 11 [] = .error 12 from flatP_n (show wordP kt6 [32] 11 = .ok 12 from rfl) (numP_no (v := 0) (E := 14) rfl rfl (by rw [it0]; decide)))))
theorem kr7 : readP kt7 = .error (280, 12) := (readP_4 (by decide) (show wordP kt7 headW 0 = .ok 8 from rfl) (show numP kt7 0 64 8 = .ok (1, 9) from numP_yes (v := 1) (E := 9) rfl rfl ⟨it1.trans rfl, by omega, by omega⟩) (show wordP kt7 [10] 9 = .ok 10 from rfl)).trans (forms_err (k := 0) (formP_f (show numP kt7 1 8 10 = .ok (1, 11) from numP_yes (v := 1) (E := 11) rfl rfl ⟨it1.trans rfl, by omega, by omega⟩) (show flatP kt7 1 11 [] = .error 12 from flatP_n (show wordP kt7 [32] 11 = .ok 12 from rfl) (numP_bad (E := 12) rfl (fun v h => by have e : Lib.parseIntB 64 (cutL kt7 12 12) = .syntax := rfl; rw [e] at h; cases h)))))
theorem kr8 : readP kt8 = .error (280, 29) := (readP_4 (by decide) (show wordP kt8 headW 0 = .ok 8 from rfl) (show numP kt8 0 64 8 = .ok (0, 9) from numP_yes (v := 0) (E := 9) rfl rfl ⟨it0.trans rfl, by omega, by omega⟩) (show wordP kt8 [10] 9 = .ok 10 from rfl)).trans (after_e (tailP_2 (show wordP kt8 sumW 10 = .ok 14 from rfl) (show hexP kt8 16 14 = .error 29 from rfl)) (by decide))
theorem kt9_fnv : fnv (kt9.take 10) ≠ 0 := by decide +kernel
theorem kr9 : readP kt9 = .error (281, 14) := (readP_4 (by decide) (show wordP kt9 headW 0 = .ok 8 from rfl) (show numP kt9 0 64 8 = .ok (0, 9) from numP_yes (v := 0) (E := 9) rfl rfl ⟨it0.trans rfl, by omega, by omega⟩) (show wordP kt9 [10] 9 = .ok 10 from rfl)).trans (after_e (tailP_5 (show wordP kt9 sumW 10 = .ok 14 from rfl) (show hexP kt9 16 14 = .ok 30 from rfl) (show wordP kt9 [10] 30 = .ok 31 from rfl) (by decide)
    (fun h => kt9_fnv ((unhex_hex16 _).symm.trans ((congrArg unhex h.symm).trans rfl)))) (by decide))
theorem kr11 : readP kt11 = .error (280, 8) := readP_2 (by decide) (show wordP kt11 headW 0 = .ok 8 from rfl) (show numP kt11 0 64 8 = .error 8 from numP_no (v := -1) (E := 10) rfl rfl (by omega))
theorem kr12 : readP kt12 = .error (280, 10) := (readP_4 (by decide) (show wordP kt12 headW 0 = .ok 8 from rfl) (show numP kt12 0 64 8 = .ok (1, 9) from numP_yes (v := 1) (E := 9) rfl rfl ⟨it1.trans rfl, by omega, by omega⟩) (show wordP kt12 [10] 9 = .ok 10 from rfl)).trans (forms_err (k := 0) (formP_n (show numP kt12 1 8 10 = .error 10 from numP_no (v := 0) (E := 11) rfl rfl (by omega))))
theorem kr13 : readP kt13 = .error (280, 12) := (readP_4 (by decide) (show wordP kt13 headW 0 = .ok 8 from rfl) (show numP kt13 0 64 8 = .ok (1, 9) from numP_yes (v := 1) (E := 9) rfl rfl ⟨it1.trans rfl, by omega, by omega⟩) (show wordP kt13 [10] 9 = .ok 10 from rfl)).trans (forms_err (k := 0) (formP_f (show numP kt13 1 8 10 = .ok (1, 11) from numP_yes (v := 1) (E := 11) rfl rfl ⟨it1.trans rfl, by omega, by omega⟩) (show flatP kt13 1 11 [] = .error 12 from flatP_n (show wordP kt13 [32] 11 = .ok 12 from rfl) (numP_no (v := -16385) (E := 18) rfl rfl (by omega)))))

theorem nil_body : bodyOf [] = [112, 97, 114, 113, 117, 101, 116, 32, 48, 10] := by
  simp [bodyOf, bodyTo, headW, it0]
theorem nil_code : codeW [] = 0 := rfl
theorem nil_len : (textOf []).length = 31 := by rw [textOf_tail, List.length_append, tailT_len, nil_body]; rfl
theorem nil_fit : FitForms [] := ⟨by decide, fun _ h => by cases h⟩
/-- The text of no form, and one letter more. -/
theorem kr10 : readP (textOf [] ++ [120]) = .error (280, 31) := by
  obtain ⟨hx, hhx⟩ : ∃ hx, hex16 (fnv (bodyOf [])) = hx := ⟨_, rfl⟩
  have hl : hx.length = 16 := by rw [← hhx]; exact hex16_len (fnv_lt _)
  have hh : ∀ c ∈ hx, hexB c = true := by rw [← hhx]; exact hex16_hex _
  have e : textOf [] ++ [120] = headW ++ ([48] ++ ([10] ++ (sumW ++ (hx ++ ([10] ++ [120]))))) := by
    rw [textOf_tail]
    unfold tailT
    rw [hhx, nil_body]
    simp [headW]
  rw [e]
  obtain ⟨s, hs⟩ : ∃ s, headW ++ ([48] ++ ([10] ++ (sumW ++ (hx ++ ([10] ++ [120]))))) = s := ⟨_, rfl⟩
  have h0 : s.drop 0 = headW ++ ([48] ++ ([10] ++ (sumW ++ (hx ++ ([10] ++ [120]))))) := by rw [hs]; rfl
  have hn : s.length = 32 := by rw [← hs]; simp [headW, sumW, hl]
  rw [hs]
  have h8 := drop_app h0
  have h9 := drop_app h8
  have h10 := drop_app h9
  have h14 := drop_app h10
  have h30 := drop_app h14
  rw [hl] at h30
  have w1 := wordP_yes h0
  have w2 : numP s 0 64 8 = .ok (0, 8 + (Lib.itoa 0).length) := numP_yes' (by rw [it0]; exact h8) (stop_10 _) (by omega) (by omega) (by omega) (by omega)
  rw [it0] at w2
  have w3 := wordP_yes h9
  have w4 := wordP_yes h10
  have w5 := hexP_yes h14 hh
  rw [hl] at w5
  have w6 := wordP_yes h30
  exact (readP_4 (by rw [hn]; decide) w1 w2 w3).trans (after_e (tailP_4 w4 w5 w6 (by rw [hn]; decide)) (by decide))

/-- The three tables, as the program lays them. -/
def knownW (w : World) (sx : ByteArray) : World := ((w.alloc (.cells #[.string ⟨#[]⟩, .string ⟨#[112, 97, 114, 113, 117, 101, 116, 32, 54, 53]⟩, .string ⟨#[112, 97, 114, 113, 117, 101, 116, 32, 49, 10, 57, 32]⟩, .string ⟨#[112, 97, 114, 113, 117, 101, 116, 32, 48, 49, 10]⟩, .string ⟨#[112, 97, 114, 113, 117, 101, 116, 32, 49, 10, 50, 32, 49, 32, 50, 32, 49, 10, 115, 117, 109]⟩, .string ⟨#[112, 97, 114, 113, 117, 101, 116, 32, 49, 10, 49, 32, 49, 54, 51, 56, 53, 10]⟩, .string ⟨#[112, 97, 114, 113, 117, 101, 116, 32, 49, 10, 49, 32, 45, 48, 10]⟩, .string ⟨#[112, 97, 114, 113, 117, 101, 116, 32, 49, 10, 49, 32, 32, 49, 10]⟩, .string ⟨#[112, 97, 114, 113, 117, 101, 116, 32, 48, 10, 115, 117, 109, 32, 48, 48, 48, 48, 48, 48, 48, 48, 48, 48, 48, 48, 48, 48, 48, 71, 10]⟩, .string ⟨#[112, 97, 114, 113, 117, 101, 116, 32, 48, 10, 115, 117, 109, 32, 48, 48, 48, 48, 48, 48, 48, 48, 48, 48, 48, 48, 48, 48, 48, 48, 10]⟩, .string (sx ++ ⟨#[120]⟩), .string ⟨#[112, 97, 114, 113, 117, 101, 116, 32, 45, 49, 10]⟩, .string ⟨#[112, 97, 114, 113, 117, 101, 116, 32, 49, 10, 48, 10]⟩, .string ⟨#[112, 97, 114, 113, 117, 101, 116, 32, 49, 10, 49, 32, 45, 49, 54, 51, 56, 53, 10]⟩] 9)).alloc (.cells #[.int .i64 280, .int .i64 280, .int .i64 280, .int .i64 280, .int .i64 280, .int .i64 280, .int .i64 280, .int .i64 280, .int .i64 280, .int .i64 281, .int .i64 280, .int .i64 280, .int .i64 280, .int .i64 280] 23)).alloc (.cells #[.int .i64 0, .int .i64 8, .int .i64 10, .int .i64 8, .int .i64 10, .int .i64 12, .int .i64 12, .int .i64 12, .int .i64 29, .int .i64 14, .int .i64 31, .int .i64 8, .int .i64 10, .int .i64 12] 3)
theorem known_ext (w : World) (sx : ByteArray) : Ext w (knownW w sx) := (((Ext.refl w).alloc _).alloc _).alloc _
theorem known_cells (w : World) (sx : ByteArray) (hsl : sx.data.toList = textOf []) : ∀ i : Nat, i < 14 → ∃ (t : ByteArray) (c : Int) (p : Nat),
    (knownW w sx).cell? ⟨w.heap.size, i, none⟩ = some (.string t) ∧ (knownW w sx).cell? ⟨w.heap.size + 1, i, none⟩ = some (.int .i64 c) ∧ (knownW w sx).cell? ⟨w.heap.size + 1 + 1, i, none⟩ = some (.int .i64 (p : Nat)) ∧ readP t.data.toList = .error (c, p) ∧ t.size ≤ 1000 := by
  intro i hi
  have hz : sx.size = 31 := by rw [← nil_len, ← hsl, Array.length_toList]; rfl
  match i, hi with
  | 0, _ => exact ⟨⟨#[]⟩, 280, 0, by simp [knownW, go_sem], by simp [knownW, go_sem], by simp [knownW, go_sem], kr0, by decide⟩
  | 1, _ => exact ⟨⟨#[112, 97, 114, 113, 117, 101, 116, 32, 54, 53]⟩, 280, 8, by simp [knownW, go_sem], by simp [knownW, go_sem], by simp [knownW, go_sem], kr1, by decide⟩
  | 2, _ => exact ⟨⟨#[112, 97, 114, 113, 117, 101, 116, 32, 49, 10, 57, 32]⟩, 280, 10, by simp [knownW, go_sem], by simp [knownW, go_sem], by simp [knownW, go_sem], kr2, by decide⟩
  | 3, _ => exact ⟨⟨#[112, 97, 114, 113, 117, 101, 116, 32, 48, 49, 10]⟩, 280, 8, by simp [knownW, go_sem], by simp [knownW, go_sem], by simp [knownW, go_sem], kr3, by decide⟩
  | 4, _ => exact ⟨⟨#[112, 97, 114, 113, 117, 101, 116, 32, 49, 10, 50, 32, 49, 32, 50, 32, 49, 10, 115, 117, 109]⟩, 280, 10, by simp [knownW, go_sem], by simp [knownW, go_sem], by simp [knownW, go_sem], kr4, by decide⟩
  | 5, _ => exact ⟨⟨#[112, 97, 114, 113, 117, 101, 116, 32, 49, 10, 49, 32, 49, 54, 51, 56, 53, 10]⟩, 280, 12, by simp [knownW, go_sem], by simp [knownW, go_sem], by simp [knownW, go_sem], kr5, by decide⟩
  | 6, _ => exact ⟨⟨#[112, 97, 114, 113, 117, 101, 116, 32, 49, 10, 49, 32, 45, 48, 10]⟩, 280, 12, by simp [knownW, go_sem], by simp [knownW, go_sem], by simp [knownW, go_sem], kr6, by decide⟩
  | 7, _ => exact ⟨⟨#[112, 97, 114, 113, 117, 101, 116, 32, 49, 10, 49, 32, 32, 49, 10]⟩, 280, 12, by simp [knownW, go_sem], by simp [knownW, go_sem], by simp [knownW, go_sem], kr7, by decide⟩
  | 8, _ => exact ⟨⟨#[112, 97, 114, 113, 117, 101, 116, 32, 48, 10, 115, 117, 109, 32, 48, 48, 48, 48, 48, 48, 48, 48, 48, 48, 48, 48, 48, 48, 48, 71, 10]⟩, 280, 29, by simp [knownW, go_sem], by simp [knownW, go_sem], by simp [knownW, go_sem], kr8, by decide⟩
  | 9, _ => exact ⟨⟨#[112, 97, 114, 113, 117, 101, 116, 32, 48, 10, 115, 117, 109, 32, 48, 48, 48, 48, 48, 48, 48, 48, 48, 48, 48, 48, 48, 48, 48, 48, 10]⟩, 281, 14, by simp [knownW, go_sem], by simp [knownW, go_sem], by simp [knownW, go_sem], kr9, by decide⟩
  | 10, _ => exact ⟨sx ++ ⟨#[120]⟩, 280, 31, by simp [knownW, go_sem], by simp [knownW, go_sem], by simp [knownW, go_sem], by rw [show (sx ++ ⟨#[120]⟩ : ByteArray).data.toList = textOf [] ++ [120] by rw [← hsl]; simp]; exact kr10, by rw [ByteArray.size_append, hz]; decide⟩
  | 11, _ => exact ⟨⟨#[112, 97, 114, 113, 117, 101, 116, 32, 45, 49, 10]⟩, 280, 8, by simp [knownW, go_sem], by simp [knownW, go_sem], by simp [knownW, go_sem], kr11, by decide⟩
  | 12, _ => exact ⟨⟨#[112, 97, 114, 113, 117, 101, 116, 32, 49, 10, 48, 10]⟩, 280, 10, by simp [knownW, go_sem], by simp [knownW, go_sem], by simp [knownW, go_sem], kr12, by decide⟩
  | 13, _ => exact ⟨⟨#[112, 97, 114, 113, 117, 101, 116, 32, 49, 10, 49, 32, 45, 49, 54, 51, 56, 53, 10]⟩, 280, 12, by simp [knownW, go_sem], by simp [knownW, go_sem], by simp [knownW, go_sem], kr13, by decide⟩
end Go.Proofs.YtiihnoelclnahaaGreatDoor
