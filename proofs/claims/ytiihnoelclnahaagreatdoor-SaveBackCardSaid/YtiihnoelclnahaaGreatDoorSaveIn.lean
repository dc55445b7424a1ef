/- Lists of forms that came in: what their reading says of the cells. -/
import Derived.Test.YtiihnoelclnahaaGreatDoorSaveBase
import Derived.WalkKit
import Derived.ProofKit
import Derived.OpenShut
import Derived.Deep.Matrix
import Derived.SizedLaws
namespace Go.Proofs.YtiihnoelclnahaaGreatDoor
open Go.ChangeShapes Go.WideShapes Go.ChangeAt Go.RowKit
set_option linter.unusedVariables false

/-- What weighs an element, weighs the slice. -/
theorem weightsAll_mem {H : Type} {P : Program} {e : TypeId} {d : DataW H} {n : Nat} : ∀ {l : List (DataW H)}, d ∈ l → n ∈ d.weights P e → n ∈ DataW.weightsAll P e l
  | d0 :: l, hd, hn => by
    simp only [DataW.weightsAll, List.mem_append]
    rcases List.mem_cons.1 hd with rfl | hd
    · exact .inl hn
    · exact .inr (weightsAll_mem hd hn)
  | [], hd, _ => by cases hd
theorem weights_elem {H : Type} {P : Program} {t e : TypeId} {d : DataW H} {elems spare : List (DataW H)} {n : Nat} (hu : P.underlying t = some (.slice e)) (hd : d ∈ elems) (hn : n ∈ d.weights P e) : n ∈ (DataW.slice elems spare).weights P t := by
  have := weightsAll_mem hd hn
  simp only [DataW.weights, hu, List.mem_cons, List.mem_append]
  exact .inr (.inl this)
theorem weights_self {H : Type} {P : Program} {t e : TypeId} {elems spare : List (DataW H)} (hu : P.underlying t = some (.slice e)) : (elems.length + spare.length) * P.bytesOf e ∈ (DataW.slice elems spare).weights P t := by
  simp only [DataW.weights, hu, List.mem_cons]
  exact .inl trivial

theorem bytes1 : Tryz.prog.bytesOf 2 = 8 := by kernel_rfl
theorem bytes2 : Tryz.prog.bytesOf 38 = 24 := by kernel_rfl
theorem bytes3 : Tryz.prog.bytesOf 39 = 24 := by kernel_rfl
theorem reach_eq : reachBytes = 140737488351232 := rfl

theorem addr_at {w : World} {a : Addr} {v : Value} (h : w.cell? (a.add 0) = some v) : ∃ b off, a = ⟨b, off, none⟩ ∧ b < w.heap.size := by
  rw [Addr.add_zero'] at h
  have h1 := lt_of_cell h
  have h2 := World.cell?_spot h
  obtain ⟨b, off, spot⟩ := a
  exact ⟨b, off, by rw [show spot = none from h2], h1⟩

set_option maxRecDepth 10000 in
theorem rows_open {H : Type} {enc : TypeId × Value → H} {W : World} {fuel : Nat} {v : Value} {d : DataW H} {ps : List MemPlace} (hd : DataW.trod enc Tryz.prog W 0 (fun _ => true) true fuel 39 [v] = some (d, ps)) (hw : ∀ n ∈ d.weights Tryz.prog 39, n ≤ reachBytes) :
    ∃ (A : Option Addr) (c : Nat) (rows : List (List Int)), v = .slice A rows.length c ∧ rows.length ≤ c ∧ IsRows W A rows ∧ Fit64 rows := by
  rcases Deep.open_int_rows Tryz.underlying39 Tryz.underlying38 Tryz.underlying2 (by kernel_rfl) (by kernel_rfl) hd with ⟨hc, _⟩ | ⟨a, len, cap, A, L, C, Z, hcs, _, hl, hm, hx, hr⟩
  · injection hc with hc _
    exact ⟨none, 0, [], hc, by simp, fun h => by simp at h, by decide, by simp⟩
  · injection hcs with hcs _
    injection hx with hx _
    subst hx
    have hzl : ∀ r, r < cap → ((Z r).take (L r)).length = L r := fun r h => by
      obtain ⟨_, h1, _, h2, _⟩ := hr r h
      rw [List.length_take]; omega
    refine ⟨some a, cap, (List.range len).map fun r => (Z r).take (L r), by rw [hcs]; simp, by simpa using hl, fun hl0 => ?_, ?_, ?_⟩
    · have hl1 : 0 < len := by simpa using hl0
      obtain ⟨b, off, rfl, hb⟩ := addr_at (hr 0 (by omega)).1
      refine ⟨b, off, rfl, hb, fun i l hi => ?_⟩
      obtain ⟨hil, rfl⟩ := List.getElem?_eq_some_iff.1 hi
      have hil' : i < len := by simpa using hil
      simp only [List.getElem_map, List.getElem_range]
      obtain ⟨q1, q2, q3, q4, q5, q6, q7⟩ := hr i (by omega)
      rw [Addr.add_lit] at q1
      refine ⟨A i, C i, by rw [hzl i (by omega)]; exact q1, by rw [hzl i (by omega)]; exact q2, fun hl0 => ?_⟩
      rw [hzl i (by omega)] at hl0
      cases hA : A i with
      | none => have := q6 hA; omega
      | some a' =>
        obtain ⟨_, q8⟩ := q7 a' hA
        obtain ⟨b', off', rfl, hb'⟩ := addr_at (q8 0 (by omega))
        refine ⟨b', off', rfl, hb', fun j z hj => ?_⟩
        obtain ⟨hjl, rfl⟩ := List.getElem?_eq_some_iff.1 hj
        rw [List.length_take] at hjl
        have := q8 j (by omega)
        rw [Addr.add_lit] at this
        rw [this, List.getElem_take]
        simp [List.getD, show j < (Z i).length by omega]
    · have := hw _ (weights_self Tryz.underlying39)
      rw [bytes2, reach_eq] at this
      simp only [List.length_map, List.length_range] at this ⊢
      omega
    · intro l hl'
      obtain ⟨r, hr1, rfl⟩ := List.mem_map.1 hl'
      rw [List.mem_range] at hr1
      obtain ⟨q1, q2, q3, q4, q5, q6, q7⟩ := hr r (by omega)
      constructor
      · rw [hzl r (by omega)]
        cases hA : A r with
        | none => have := q6 hA; omega
        | some a' =>
          have h1 : Deep.intRow (H := H) .i64 (A r) (L r) (Z r) ∈ (List.range len).map fun r => Deep.intRow (H := H) .i64 (A r) (L r) (Z r) := List.mem_map.2 ⟨r, List.mem_range.2 hr1, rfl⟩
          have h2 : ((Z r).take (L r)).length * 8 ≤ reachBytes := by
            refine Nat.le_trans ?_ (hw _ (weights_elem Tryz.underlying39 h1 (n := ((lits (H := H) .i64 ((Z r).take (L r))).length + (lits (H := H) .i64 ((Z r).drop (L r))).length) * Tryz.prog.bytesOf 2) ?_))
            · rw [bytes1]; unfold lits; simp only [List.length_map]; omega
            · unfold Deep.intRow; rw [hA]
              exact weights_self Tryz.underlying38
          rw [reach_eq, hzl r (by omega)] at h2
          omega
      · intro z hz
        have := q5 z (List.mem_of_mem_take hz)
        simp only [Lit.wf, Bool.and_eq_true, decide_eq_true_eq] at this
        exact this

set_option maxRecDepth 10000 in
theorem forms_open {H : Type} {enc : TypeId × Value → H} {W : World} {fuel : Nat} {v : Value} {d : DataW H} {ps : List MemPlace} (hd : DataW.trod enc Tryz.prog W 0 (fun _ => true) true fuel 22 [v] = some (d, ps)) (hw : ∀ n ∈ d.weights Tryz.prog 22, n ≤ reachBytes) :
    ∃ (A : Option Addr) (c : Nat) (ls : List (List (List Int))), v = .slice A ls.length c ∧ IsForms W A ls ∧ FitForms ls := by
  rcases Deep.open_slice1 Tryz.underlying22 (by kernel_rfl) hd with ⟨hc, _⟩ | ⟨a, len, cap, m, n, V, D, Pl, hcs, _, hl, hm, hmm, hx, hr⟩
  · injection hc with hc _
    exact ⟨none, 0, [], hc, fun h => by simp at h, by decide, by simp⟩
  · injection hcs with hcs _
    injection hx with hx _
    subst hx
    simp only [if_true] at hmm
    subst hmm
    have hR : ∀ i, i < len → ∃ x : Option Addr × Nat × List (List Int), V i = .slice x.1 x.2.2.length x.2.1 ∧ x.2.2.length ≤ x.2.1 ∧ IsRows W x.1 x.2.2 ∧ Fit64 x.2.2 := fun i hi => by
      obtain ⟨A, c, rows, h⟩ := rows_open (hr i (by omega)).2 fun n hn => hw n (weights_elem Tryz.underlying22 (List.mem_map.2 ⟨i, List.mem_range.2 hi, rfl⟩) hn)
      exact ⟨(A, c, rows), h⟩
    obtain ⟨X, hX⟩ := Deep.choose_lt hR
    refine ⟨some a, m, (List.range len).map fun i => (X i).2.2, by rw [hcs]; simp, fun hl0 => ?_, ?_, ?_⟩
    · have hl1 : 0 < len := by simpa using hl0
      obtain ⟨b, off, rfl, hb⟩ := addr_at (hr 0 (by omega)).1
      refine ⟨b, off, rfl, hb, fun i l hi => ?_⟩
      obtain ⟨hil, rfl⟩ := List.getElem?_eq_some_iff.1 hi
      have hil' : i < len := by simpa using hil
      simp only [List.getElem_map, List.getElem_range]
      have q1 := (hr i (by omega)).1
      obtain ⟨q2, q3, q4, _⟩ := hX i hil'
      rw [Addr.add_lit, q2] at q1
      exact ⟨_, _, q1, q3, q4⟩
    · have := hw _ (weights_self Tryz.underlying22)
      rw [bytes3, reach_eq] at this
      simp only [List.length_map, List.length_range] at this ⊢
      omega
    · intro l hl'
      obtain ⟨r, hr1, rfl⟩ := List.mem_map.1 hl'
      exact (hX r (List.mem_range.1 hr1)).2.2.2
end Go.Proofs.YtiihnoelclnahaaGreatDoor
