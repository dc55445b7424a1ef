/- save.Read's deferred closure: a fault that was raised is handed back. -/
import Derived.Test.YtiihnoelclnahaaGreatDoorSaveWord
import Derived.Laws.Pointers
namespace Go.Proofs.YtiihnoelclnahaaGreatDoor
open Go.RowKit
set_option linter.unusedVariables false

theorem Tryz.assertFault (a : Addr) (w : World) : (Instr.typeAssert (.iface 43 (.pointer (some a))) 20 43 true).run Tryz.prog w = .ok (.tuple #[.pointer (some a), .bool true]) w := by kernel_rfl
theorem Tryz.assertNil (w : World) : (Instr.typeAssert .nilIface 20 43 true).run Tryz.prog w = .ok (.tuple #[.pointer none, .bool false]) w := by kernel_rfl

set_option maxRecDepth 100000 in
theorem catch_fault (bO bE N : Nat) (v0 e0 : Value) (older : List PanicEntry) (w : World) (cO : w.cell? ⟨bO, 0, none⟩ = some v0) (fO : w.frozen? ⟨bO, 0, none⟩ = false) (cE : w.cell? ⟨bE, 0, none⟩ = some e0) (fE : w.frozen? ⟨bE, 0, none⟩ = false) (hne : bO ≠ bE) :
    CallsD Tryz.prog 22 #[.pointer (some ⟨bO, 0, none⟩), .pointer (some ⟨bE, 0, none⟩)] (.panicking ({ v := .iface 43 (.pointer (some ⟨N, 0, none⟩)), recovered := false } :: older)) w fun e u' w' =>
      e = .returned (.tuple #[]) ∧ u' = .panicking ({ v := .iface 43 (.pointer (some ⟨N, 0, none⟩)), recovered := true } :: older) ∧ w' = (w.setCell ⟨bO, 0, none⟩ (.slice none 0 0)).setCell ⟨bE, 0, none⟩ (.iface 43 (.pointer (some ⟨N, 0, none⟩))) := by
  refine callsD_of_wpS Tryz.func22 rfl fun c₀ cs hu => ?_
  apply wpS_seq
  apply wpS_region
  have hta := Tryz.assertFault
  simp [wpOpsS, go_sem, recoverD, hu, Tryz.ntmps22, Exit.thenS, hta]
  apply wpS_seq
  apply wpS_region
  simp [wpOpsS, go_sem, Exit.thenS]
  refine wpS_cond (t := true) (by simp [Act.eval, Array.replicate]) ?_
  simp only [if_true]
  apply wpS_region
  have cE2 : (w.setCell ⟨bO, 0, none⟩ (.slice none 0 0)).cell? ⟨bE, 0, none⟩ = some e0 := by
    rw [World.cell?_setCell_other _ _ _ _ (by intro h; injection h with h1 h2; exact hne h1)]; exact cE
  simp [wpOpsS, go_sem, cO, fO, cE2, fE, bodyPostS, results, Tryz.results22]

set_option maxRecDepth 100000 in
theorem catch_idle (bO bE : Nat) (w : World) :
    CallsD Tryz.prog 22 #[.pointer (some ⟨bO, 0, none⟩), .pointer (some ⟨bE, 0, none⟩)] .returning w fun e u' w' => e = .returned (.tuple #[]) ∧ u' = .returning ∧ w' = w := by
  refine callsD_of_wpS Tryz.func22 rfl fun c₀ cs hu => ?_
  apply wpS_seq
  apply wpS_region
  have hta := Tryz.assertNil
  simp [wpOpsS, go_sem, recoverD, hu, Tryz.ntmps22, Exit.thenS, hta]
  apply wpS_seq
  apply wpS_region
  simp [wpOpsS, go_sem, Exit.thenS]
  refine wpS_cond (t := false) (by simp [Act.eval, Array.replicate]) ?_
  simp only [Bool.false_eq_true, if_false]
  refine wpS_of_wp (wp_skip ?_)
  cases c₀
  simp_all [bodyPostS, results, Tryz.results22]
end Go.Proofs.YtiihnoelclnahaaGreatDoor
