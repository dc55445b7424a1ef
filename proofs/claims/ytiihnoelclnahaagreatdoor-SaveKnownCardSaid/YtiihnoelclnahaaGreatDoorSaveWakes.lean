/- parquetlaw28.wakes. -/
import Derived.Test.YtiihnoelclnahaaGreatDoorSaveWrite
import Derived.Test.YtiihnoelclnahaaGreatDoorSaveRead
import Derived.Test.YtiihnoelclnahaaGreatDoorSaveTurn
import Derived.Test.YtiihnoelclnahaaGreatDoorSaveAs
namespace Go.Proofs.YtiihnoelclnahaaGreatDoor
open Go.RowKit
set_option linter.unusedVariables false

theorem itoa_one {n : Nat} (h : n < 10) : Lib.itoa (n : Int) = [UInt8.ofNat (48 + n)] := by
  unfold Lib.itoa
  rw [if_neg (by omega), Int.toNat_natCast, Lib.decDigits_one h]
def exL : List (List (List Int)) := [[[2, 1], [1, 3]]]
theorem exL_code : codeW exL = 0 := by decide +kernel
theorem exL_body : bodyOf exL = [112, 97, 114, 113, 117, 101, 116, 32, 49, 10, 50, 32, 50, 32, 49, 32, 51, 10] := by
  have i1 : Lib.itoa 1 = [49] := itoa_one (n := 1) (by decide)
  have i2 : Lib.itoa 2 = [50] := itoa_one (n := 2) (by decide)
  have i3 : Lib.itoa 3 = [51] := itoa_one (n := 3) (by decide)
  simp [bodyOf, bodyTo, exL, headW, lineOf, rowsText, rowText, i1, i2, i3, List.range_succ]
theorem exL_fit : FitForms exL := by
  refine ⟨by decide, ?_⟩
  intro rows hr
  simp [exL] at hr
  subst hr
  refine ⟨by decide, ?_⟩
  intro l hl
  simp at hl
  rcases hl with rfl | rfl <;> refine ⟨by decide, ?_⟩ <;> intro z hz <;> simp at hz <;> omega
theorem read65 : readP [112, 97, 114, 113, 117, 101, 116, 32, 54, 53] = .error (280, 8) := by
  have h1 : wordP [112, 97, 114, 113, 117, 101, 116, 32, 54, 53] headW 0 = .ok 8 := rfl
  have h2 : numP [112, 97, 114, 113, 117, 101, 116, 32, 54, 53] 0 64 8 = .error 8 := numP_no (v := 65) (E := 10) rfl rfl (by omega)
  exact readP_2 (by decide) h1 h2

/-- The list of the example, as wakes makes it. -/
theorem exL_mem (w : World) : IsForms ((((w.alloc (.cells #[.int .i64 2, .int .i64 1] 2)).alloc (.cells #[.int .i64 1, .int .i64 3] 2)).alloc (.cells #[.slice (some ⟨w.heap.size, 0, none⟩) 2 2, .slice (some ⟨w.heap.size + 1, 0, none⟩) 2 2] 38)).alloc (.cells #[.slice (some ⟨w.heap.size + 1 + 1, 0, none⟩) 2 2] 39)) (some ⟨w.heap.size + 1 + 1 + 1, 0, none⟩) exL := by
  intro _
  refine ⟨w.heap.size + 1 + 1 + 1, 0, rfl, by simp, fun i rows hi => ?_⟩
  match i, hi with
  | 0, hi =>
    simp [exL] at hi
    subst hi
    refine ⟨some ⟨w.heap.size + 1 + 1, 0, none⟩, 2, by simp [go_sem], by simp, fun _ => ⟨w.heap.size + 1 + 1, 0, rfl, by simp, fun j l hj => ?_⟩⟩
    match j, hj with
    | 0, hj =>
      simp at hj; subst hj
      refine ⟨some ⟨w.heap.size, 0, none⟩, 2, by simp [go_sem], by simp, fun _ => ⟨w.heap.size, 0, rfl, by simp; try omega, fun k z hk => ?_⟩⟩
      match k, hk with
      | 0, hk => simp at hk; subst hk; simp [go_sem]
      | 1, hk => simp at hk; subst hk; simp [go_sem]
    | 1, hj =>
      simp at hj; subst hj
      refine ⟨some ⟨w.heap.size + 1, 0, none⟩, 2, by simp [go_sem], by simp, fun _ => ⟨w.heap.size + 1, 0, rfl, by simp, fun k z hk => ?_⟩⟩
      match k, hk with
      | 0, hk => simp at hk; subst hk; simp [go_sem]
      | 1, hk => simp at hk; subst hk; simp [go_sem]

set_option maxHeartbeats 2000000 in
set_option maxRecDepth 100000 in
theorem wakes_any (w : World) (hv : Vars w) :
    Calls Tryz.prog 10 #[] w fun e w' => e = .returned (.bool true) ∧ Ext w w' := by
  have HV := Lib.hid hv
  clear hv
  obtain ⟨sx, hsx⟩ : ∃ sx : ByteArray, (⟨(textW exL).toArray⟩ : ByteArray) = sx := ⟨_, rfl⟩
  have hsl : sx.data.toList = textOf exL := by rw [← hsx]; unfold textW; rw [exL_code]; simp
  have hsz : sx.size = 39 := by
    rw [← hsx]
    unfold textW
    rw [exL_code, if_pos rfl, textOf_tail]
    simp [ByteArray.size, tailT_len, exL_body]
  obtain ⟨hx, hhx⟩ : ∃ hx, hex16 (fnv (bodyOf exL)) = hx := ⟨_, rfl⟩
  have H19 : Hid (((sx.extract 0 19).toList == [112, 97, 114, 113, 117, 101, 116, 32, 49, 10, 50, 32, 50, 32, 49, 32, 51, 10, 115]) = true) := by
    unfold Hid
    rw [beq_iff_eq, ByteArray.toList_eq, Lib.extract_data, hsl, textOf_tail, exL_body]
    unfold tailT sumW
    simp
  have HW := Lib.hid (fun W (h : IsForms W (some ⟨w.heap.size + 1 + 1 + 1, 0, none⟩) exL) (hv : Vars W) => Write_any (some ⟨w.heap.size + 1 + 1 + 1, 0, none⟩) 1 1 exL W rfl h exL_fit hv)
  rw [hsx, exL_code] at HW
  have HR1 := Lib.hid (fun W (hv : Vars W) => Read_any sx W (by omega) hv)
  rw [hsl, readP_yes exL_fit exL_code] at HR1
  have HR2 := Lib.hid (fun W (hv : Vars W) => Read_any ⟨#[112, 97, 114, 113, 117, 101, 116, 32, 54, 53]⟩ W (by decide) hv)
  rw [show (⟨#[112, 97, 114, 113, 117, 101, 116, 32, 54, 53]⟩ : ByteArray).data.toList = [112, 97, 114, 113, 117, 101, 116, 32, 54, 53] from rfl, read65] at HR2
  have HM := Lib.hid (exL_mem w)
  clear hsx hsl hhx
  go_enter Tryz.func10, Tryz.ntmps10
  go_wp2_with fail
  obtain ⟨W0, hW0⟩ : ∃ W0, (((w.alloc (.cells #[.int .i64 2, .int .i64 1] 2)).alloc (.cells #[.int .i64 1, .int .i64 3] 2)).alloc (.cells #[.slice (some ⟨w.heap.size, 0, none⟩) 2 2, .slice (some ⟨w.heap.size + 1, 0, none⟩) 2 2] 38)).alloc (.cells #[.slice (some ⟨w.heap.size + 1 + 1, 0, none⟩) 2 2] 39) = W0 := ⟨_, rfl⟩
  have hx0 : Ext w W0 := by rw [← hW0]; exact ((((Ext.refl w).alloc _).alloc _).alloc _).alloc _
  rw [hW0] at HM ⊢
  have HX0 := Lib.hid hx0
  clear hW0 hx0
  refine (HW.out _ HM.out (HV.out.ext HX0.out)).mono ?_
  rintro e w1 ⟨rfl, hx⟩
  have HX1 := Lib.hid (HX0.out.trans hx)
  clear hx HX0 HW HM
  go_wp2_with fail
  refine (HR1.out _ (HV.out.ext HX1.out)).mono ?_
  rintro e w2 ⟨hx, hr⟩
  rcases hr with ⟨ls, A, c, he, rfl, hf⟩ | ⟨code, a, N, he, _⟩
  case inr => cases he
  injection he with he
  subst he
  have HX2 := Lib.hid (HX1.out.trans hx)
  obtain ⟨b, off, R, c1, rfl, hb, q1, q2, q3⟩ := hf.at_ (i := 0) (rows := [[2, 1], [1, 3]]) rfl
  obtain ⟨b2, off2, R2, c2, rfl, hb2, q4, q5, q6⟩ := q3.at_ (i := 1) (l := [1, 3]) rfl
  obtain ⟨b3, off3, rfl, hb3, q7⟩ := q6.at_ (j := 1) (z := 3) rfl
  rw [Nat.add_zero] at q1
  have hl1 : exL.length = 1 := rfl
  rw [hl1]
  have Q1 := Lib.hid q1
  have Q4 := Lib.hid q4
  have Q7 := Lib.hid q7
  clear hx HX1 HR1 hf q1 q2 q3 q4 q5 q6 q7 hl1 hb hb2 hb3
  go_wp2_with fail
  refine (HR2.out _ (HV.out.ext HX2.out)).mono ?_
  rintro e w3 ⟨hx, hr⟩
  rcases hr with ⟨ls, A, c5, he, _⟩ | ⟨code, a, N, he, rfl, hN, hF⟩
  case inl => cases he
  injection he with he
  injection he with he1 he2
  subst he1
  subst he2
  have HX3 := Lib.hid (HX2.out.trans hx)
  obtain ⟨W4, hWW4⟩ : ∃ W4 : World, w3.alloc (.cells #[.pointer none] 43) = W4 := ⟨_, rfl⟩
  have hXW4 : Ext w3 W4 := by rw [← hWW4]; exact ((Ext.refl w3).alloc _)
  have hsW4 : w3.heap.size + 1 ≤ W4.heap.size := by rw [← hWW4]; simp only [World.size_alloc]; omega
  have cx0 : W4.cell? ⟨w3.heap.size, 0, none⟩ = some (.pointer none) := by rw [← hWW4]; simp [go_sem]
  have fx0 : W4.frozen? ⟨w3.heap.size, 0, none⟩ = false := by rw [← hWW4]; simp [go_sem]
  have HWW4 := Lib.hid hWW4
  clear hWW4
  have q1 := hXW4.cell (hx.cell Q1.out)
  have q4 := hXW4.cell (hx.cell Q4.out)
  have q7 := hXW4.cell (hx.cell Q7.out)
  have HX4 := Lib.hid (HX3.out.trans hXW4)
  have hNs : N < w3.heap.size := lt_of_row hF
  have hX3s : w.heap.size ≤ w3.heap.size := HX3.out.size
  have hF4 : W4.heap[N]? = some (.cells #[.int .i64 280, .int .i64 8, .string ⟨#[]⟩] 47 (0, 0)) := by rw [Below.block hXW4 N hNs]; exact hF
  have HF4 := Lib.hid hF4
  have HAs := Lib.hid (as_hit ⟨N, 0, none⟩ ⟨w3.heap.size, 0, none⟩ (.pointer none) W4 (HV.out.ext HX4.out).ety cx0 fx0)
  clear hx HX2 HR2 hF Q1 Q4 Q7 hXW4 HX3 hF4
  rw [show ([[2, 1], [1, 3]] : List (List Int)).length = 2 from rfl] at q1
  rw [show ([1, 3] : List Int).length = 2 from rfl] at q4
  go_upto_region 5 with fail
  rw [HWW4.out]
  go_wp2_with fail
  refine HAs.out.mono ?_
  rintro e w5 ⟨rfl, hw5⟩
  obtain ⟨W5, hW5⟩ : ∃ W5, (((W4.alloc (.cells #[.pointer (some ⟨w3.heap.size, 0, none⟩)] 45)).alloc (.cells #[.pointer (some ⟨7, 45, none⟩), .pointer (some ⟨W4.heap.size, 0, none⟩), .int .u64 150] 64)).alloc (.cells #[.pointer (some ⟨7, 45, none⟩), .pointer (some ⟨W4.heap.size, 0, none⟩), .int .u64 150] 64)).alloc (.cells #[.pointer (some ⟨N, 0, none⟩)] 43) = W5 := ⟨_, rfl⟩
  have hx5 : Ext W4 W5 := by rw [← hW5]; exact ((((Ext.refl W4).alloc _).alloc _).alloc _).alloc _
  rw [hW5] at hw5
  have c1 : w5.cell? ⟨w3.heap.size, 0, none⟩ = some (.pointer (some ⟨N, 0, none⟩)) := by rw [hw5]; exact setc (hx5.cell cx0)
  have hF5 : w5.heap[N]? = some (.cells #[.int .i64 280, .int .i64 8, .string ⟨#[]⟩] 47 (0, 0)) := by
    rw [hw5, Below.heap_setCell _ _ _ _ (by show N ≠ w3.heap.size; omega), Below.block hx5 N (by omega)]; exact HF4.out
  have c2 : w5.cell? ⟨N, 0, none⟩ = some (.int .i64 280) := by rw [cell_of_row _ _ _ _ _ _ hF5]; rfl
  have c3 : w5.cell? ⟨N, 1, none⟩ = some (.int .i64 8) := by rw [cell_of_row _ _ _ _ _ _ hF5]; rfl
  have HX5 : Hid (Ext w w5) := by
    rw [hw5]
    exact (HX4.out.trans hx5).setCell (p := ⟨w3.heap.size, 0, none⟩) (by have := HX4.out.size; have := hX3s; show w.heap.size ≤ w3.heap.size; omega) _
  clear hW5 hx5 hw5 hF5 HWW4 HAs
  go_wp2
  go_ret
  rw [H19.out]
  exact ⟨rfl, HX5.out⟩
end Go.Proofs.YtiihnoelclnahaaGreatDoor
