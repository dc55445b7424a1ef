/- gram.Check. -/
import Derived.Test.YtiihnoelclnahaaGreatDoorGramPosW
namespace Go.Proofs.YtiihnoelclnahaaGreatDoor
open Go.RowKit
set_option linter.unusedVariables false

/-- What Check tells of a list of rows. -/
def chk (rows : List (List Int)) : Int :=
  if rows.length < 1 ∨ 8 < rows.length then 5
  else if ∃ l ∈ rows, l.length ≠ rows.length then 5
  else if eachB smallP rows = false then 3
  else if eachB (mirrorB rows) rows = false then 6
  else if posB rows.length (entry rows) = false then 6
  else 0

theorem check_size (A : Option Addr) (n c : Nat) (w : World) (hn : n < 1 ∨ 8 < n) (hm : n ≤ 140737488351232) :
    Calls Tryz.prog 15 #[.slice A n c] w fun e w' => e = .returned (.int .i64 5) ∧ Ext w w' := by
  rcases Nat.eq_zero_or_pos n with h0 | h0
  · subst h0
    go_enter Tryz.func15, Tryz.ntmps15
    go_wp2
    go_ret
    exact ⟨rfl, (Ext.refl w).alloc _⟩
  · have h8 : 8 < n := by omega
    have d1 : decide ((n : Int) < 1) = false := by simp; omega
    have d2 : decide ((8 : Int) < n) = true := by simp; omega
    clear hn
    go_enter Tryz.func15, Tryz.ntmps15
    go_wp2
    go_ret
    exact ⟨rfl, (Ext.refl w).alloc _⟩

set_option maxHeartbeats 1000000 in
theorem check_rest (A : Option Addr) (n c : Nat) (rows : List (List Int)) (w : World) (hn : n = rows.length) (hn1 : 1 ≤ n) (hn8 : n ≤ 8) (hr : IsRows w A rows) (hf : Fit64 rows) :
    Calls Tryz.prog 15 #[.slice A n c] w fun e w' => e = .returned (.int .i64 (chk rows)) ∧ Ext w w' := by
  have d1 : decide ((n : Int) < 1) = false := by simp; omega
  have d2 : decide ((8 : Int) < n) = false := by simp; omega
  obtain ⟨W0, hWW0⟩ : ∃ W0 : World, w.alloc (.cells #[.slice A n c] 39) = W0 := ⟨_, rfl⟩
  have hXW0 : Ext w W0 := by rw [← hWW0]; exact ((Ext.refl w).alloc _)
  have hsW0 : w.heap.size + 1 ≤ W0.heap.size := by rw [← hWW0]; simp only [World.size_alloc]; omega
  have c0 : W0.cell? ⟨w.heap.size, 0, none⟩ = some (.slice A n c) := by rw [← hWW0]; simp [go_sem]
  have f0 : W0.frozen? ⟨w.heap.size, 0, none⟩ = false := by rw [← hWW0]; simp [go_sem]
  have HWW0 := Lib.hid hWW0
  clear hWW0
  have HN := Lib.hid hn
  have HR := Lib.hid (hr.ext hXW0)
  have HF := Lib.hid hf
  have HX := Lib.hid hXW0
  have hmf : ∀ (fn : Fn) (first cap : Array Value) (w : World), (Instr.makeFunc fn first cap).run Tryz.prog w = .ok (.func fn first cap) w := fun _ _ _ _ => rfl
  clear hn hr hf hXW0
  go_enter Tryz.func15, Tryz.ntmps15
  go_wp2
  rw [HWW0.out]
  go_loopg [15] n (fun kk iv wr => ∃ i : Nat, kk + i = n ∧ iv = .int .i64 i ∧ W0 = wr ∧ Hid (∀ i' l, i' < i → rows[i']? = some l → l.length = n))
  case atStart => exact ⟨0, by omega, rfl, rfl, fun i' l h => by omega⟩
  case round =>
    obtain ⟨i, hki, rfl, rfl, HA⟩ := hrel
    by_cases hin : i < n
    · obtain ⟨l, hl⟩ : ∃ l, rows[i]? = some l := ⟨_, List.getElem?_eq_getElem (by have := HN.out; omega)⟩
      obtain ⟨b, off, R, c', rfl, hb, h1, h2, h3⟩ := HR.out.at_ hl
      have HL := Lib.hid hl
      clear hl h3
      by_cases hne : l.length = n
      · have HE := Lib.hid hne
        have hb1 : ((l.length : Int) != n) = false := by rw [bne_eq_false_iff_eq]; omega
        obtain ⟨len, hlen⟩ : ∃ len, l.length = len := ⟨_, rfl⟩
        rw [hlen] at h1 h2 hb1
        clear hne hlen
        go_wp2
        go_roundg (gk - 1)
        case measure => omega
        case rel => exact ⟨i + 1, by omega, by go_num, rfl, fun i' l' hi' hl' => by
          rcases Nat.lt_or_ge i' i with h | h
          · exact HA.out i' l' h hl'
          · obtain rfl : i' = i := by omega
            have e : l' = l := by have := HL.out; rw [hl'] at this; exact Option.some.inj this
            rw [e]; exact HE.out⟩
      · have HC : Hid (chk rows = 5) := by
          unfold chk Hid
          rw [if_neg (by have := HN.out; omega), if_pos]
          exact ⟨l, by obtain ⟨q, rfl⟩ := List.getElem?_eq_some_iff.1 HL.out; exact List.getElem_mem q, by rw [← HN.out]; exact hne⟩
        have hb1 : ((l.length : Int) != n) = true := by rw [bne_iff_ne]; omega
        obtain ⟨len, hlen⟩ : ∃ len, l.length = len := ⟨_, rfl⟩
        rw [hlen] at h1 h2 hb1
        clear hne hlen
        go_wp2
        go_ret
        rw [HC.out]; exact ⟨rfl, HX.out⟩
    · obtain rfl : n = i := by omega
      have hsq : ∀ l ∈ rows, l.length = n := by
        intro l hl
        obtain ⟨q, hq, rfl⟩ := List.getElem_of_mem hl
        exact HA.out q _ (by have := HN.out; omega) (List.getElem?_eq_getElem hq)
      have HSq := Lib.hid hsq
      have H1 := Lib.hid (each1_any A n c rows W0 HN.out HR.out HF.out)
      have HC0 : Hid (chk rows = if eachB smallP rows = false then 3 else if eachB (mirrorB rows) rows = false then 6 else if posB n (entry rows) = false then 6 else 0) := by
        unfold chk Hid
        rw [if_neg (by have := HN.out; omega), if_neg (by rintro ⟨l, hl, h⟩; exact h (by rw [← HN.out]; exact hsq l hl)), ← HN.out]
      clear hsq HA
      cases h1 : eachB smallP rows
      · rw [h1] at H1 HC0
        have HC := HC0.out
        rw [if_pos rfl] at HC
        have HCC := Lib.hid HC
        clear h1 HC HC0
        go_wp2_with fail
        refine H1.out.mono ?_
        rintro e w' ⟨rfl, rfl⟩
        go_wp2
        go_ret
        rw [HCC.out]; exact ⟨rfl, HX.out⟩
      · rw [h1] at H1 HC0
        have HC := HC0.out
        rw [if_neg (by simp)] at HC
        have HCC := Lib.hid HC
        have H2 := Lib.hid (each2_any A n c rows w.heap.size W0 HN.out HR.out HF.out c0 (by omega) HSq.out)
        clear h1 HC HC0
        go_wp2_with fail
        refine H1.out.mono ?_
        rintro e w' ⟨rfl, rfl⟩
        clear H1
        cases h2 : eachB (mirrorB rows) rows
        · rw [h2] at H2 HCC
          have HC := HCC.out
          rw [if_pos rfl] at HC
          have HCD := Lib.hid HC
          clear h2 HC HCC
          go_wp2_with fail
          refine H2.out.mono ?_
          rintro e w' ⟨rfl, rfl⟩
          go_wp2
          go_ret
          rw [HCD.out]; exact ⟨rfl, HX.out⟩
        · rw [h2] at H2 HCC
          have HC := HCC.out
          rw [if_neg (by simp)] at HC
          have HCD := Lib.hid HC
          have H3 := Lib.hid (positive_any A n c rows W0 HN.out hn1 (by omega) HR.out HF.out HSq.out)
          clear h2 HC HCC
          go_wp2_with fail
          refine H2.out.mono ?_
          rintro e w' ⟨rfl, rfl⟩
          clear H2
          cases h3 : posB n (entry rows)
          · rw [h3] at H3 HCD
            have HC := HCD.out
            rw [if_pos rfl] at HC
            have HCE := Lib.hid HC
            clear h3 HC HCD
            go_wp2_with fail
            refine H3.out.mono ?_
            rintro e w3 ⟨rfl, hx⟩
            have hX3 := Lib.hid (HX.out.trans hx)
            clear hx
            go_wp2
            go_ret
            rw [HCE.out]; exact ⟨rfl, hX3.out⟩
          · rw [h3] at H3 HCD
            have HC := HCD.out
            rw [if_neg (by simp)] at HC
            have HCE := Lib.hid HC
            clear h3 HC HCD
            go_wp2_with fail
            refine H3.out.mono ?_
            rintro e w3 ⟨rfl, hx⟩
            have hX3 := Lib.hid (HX.out.trans hx)
            clear hx
            go_wp2
            go_ret
            rw [HCE.out]; exact ⟨rfl, hX3.out⟩

theorem check_any (A : Option Addr) (n c : Nat) (rows : List (List Int)) (w : World) (hn : n = rows.length) (hr : IsRows w A rows) (hf : Fit64 rows) :
    Calls Tryz.prog 15 #[.slice A n c] w fun e w' => e = .returned (.int .i64 (chk rows)) ∧ Ext w w' := by
  by_cases h : n < 1 ∨ 8 < n
  · have e : chk rows = 5 := by unfold chk; rw [if_pos (by omega)]
    rw [e]; exact check_size A n c w h (by rw [hn]; exact hf.1)
  · exact check_rest A n c rows w hn (by omega) (by omega) hr hf
end Go.Proofs.YtiihnoelclnahaaGreatDoor
