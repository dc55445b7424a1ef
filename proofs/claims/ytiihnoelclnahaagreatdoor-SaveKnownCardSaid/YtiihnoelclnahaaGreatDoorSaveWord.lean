/- save.Read's small closures: fail, word. -/
import Derived.Test.YtiihnoelclnahaaGreatDoorSaveParse
import Derived.WalkLawsBesides
import Derived.Defers
import Derived.Deep.QuietTactic
import Derived.BigQuiet
import Derived.Recover
namespace Go.Proofs.YtiihnoelclnahaaGreatDoor
open Go.RowKit
set_option linter.unusedVariables false

/-- The panic that fail raises: a fault lies in the block N. -/
def faultAt (N : Nat) : List PanicEntry := [{ v := .iface 43 (.pointer (some ⟨N, 0, none⟩)), recovered := false }]
def IsFault (w : World) (N : Nat) (code : Int) (at_ : Nat) : Prop := w.heap[N]? = some (.cells #[.int .i64 code, .int .i64 at_, .string ⟨#[]⟩] 47 (0, 0))
def Failed (code : Int) (at_ : Nat) (w : World) (e : Ending) (w' : World) : Prop := ∃ N, e = .panicked (faultAt N) ∧ w.heap.size ≤ N ∧ IsFault w' N code at_

theorem fail_any (code : Int) (a : Nat) (w : World) :
    Calls Tryz.prog 21 #[.int .i64 a, .int .i64 code] w fun e w' => Failed code a w e w' ∧ Ext w w' := by
  go_enter Tryz.func21, Tryz.ntmps21
  go_wp2
  exact ⟨rfl, ⟨_, rfl, Nat.le_refl _, heap_new _ _⟩, (Ext.refl w).alloc _⟩

/-- What word leaves: the place has gone on, or a fault. -/
def WordPost (r : Except Nat Nat) (bA : Nat) (w : World) (e : Ending) (w' : World) : Prop :=
  ((∃ b, r = .ok b ∧ e = .returned (.tuple #[]) ∧ w'.cell? ⟨bA, 0, none⟩ = some (.int .i64 (b : Nat)) ∧ w'.frozen? ⟨bA, 0, none⟩ = false) ∨ (∃ b, r = .error b ∧ Failed 280 b w e w')) ∧ ExtBut (fun x => x = bA) w w'

theorem Failed.back {code : Int} {a : Nat} {w0 w w' : World} {e : Ending} (h : Failed code a w e w') (hs : w0.heap.size ≤ w.heap.size) : Failed code a w0 e w' := by
  obtain ⟨N, h1, h2, h3⟩ := h
  exact ⟨N, h1, Nat.le_trans hs h2, h3⟩

theorem byte_at (s : ByteArray) (i : Nat) (h : i < s.size) : s.data.toList[i]? = some s[i] := by
  rw [List.getElem?_eq_getElem (by simpa using h)]
  simp [ByteArray.getElem_eq_getElem_data]

set_option maxRecDepth 100000 in
theorem word_any (s wd : ByteArray) (a bA bS bF : Nat) (w : World) (hs : s.size ≤ 1099511627776) (hw : wd.size ≤ 1000) (ha : a ≤ s.size) (cA : w.cell? ⟨bA, 0, none⟩ = some (.int .i64 a)) (fA : w.frozen? ⟨bA, 0, none⟩ = false)
    (cS : w.cell? ⟨bS, 0, none⟩ = some (.string s)) (cF : w.cell? ⟨bF, 0, none⟩ = some (.func (.func 21) #[] #[])) (nS : bS ≠ bA) (nF : bF ≠ bA) :
    Calls Tryz.prog 23 #[.string wd, .pointer (some ⟨bA, 0, none⟩), .pointer (some ⟨bS, 0, none⟩), .pointer (some ⟨bF, 0, none⟩)] w (WordPost (wordP s.data.toList wd.data.toList a) bA w) := by
  have CS := Lib.hid cS
  have CF := Lib.hid cF
  clear cS cF
  go_enter Tryz.func23, Tryz.ntmps23
  go_wp2
  go_loopg [8] wd.size (fun kk iv wr => ∃ i p : Nat, kk + i = wd.size ∧ iv = .int .i64 i ∧ p ≤ s.size ∧ Hid (wordP s.data.toList (wd.data.toList.drop i) p = wordP s.data.toList wd.data.toList a) ∧ Hid (wr.cell? ⟨bA, 0, none⟩ = some (.int .i64 p)) ∧ Hid (wr.frozen? ⟨bA, 0, none⟩ = false) ∧ Hid (ExtBut (fun x => x = bA) w wr))
  case atStart => exact ⟨0, a, by omega, rfl, ha, rfl, cA, fA, ExtBut.refl _ _⟩
  case round =>
    clear cA fA
    obtain ⟨i, p, hki, rfl, hp, HP, HA, HFr, HX⟩ := hrel
    have cA := HA.out
    have fA := HFr.out
    have cS := HX.out.cell CS.out nS
    have cF := HX.out.cell CF.out nF
    have hz : w.heap.size ≤ wr.heap.size := HX.out.size
    by_cases hin : i < wd.size
    · have hst : wordP s.data.toList (wd.data.toList.drop i) p = if s.data.toList[p]? = some wd[i] then wordP s.data.toList (wd.data.toList.drop (i + 1)) (p + 1) else .error p := by
        have hl : i < wd.data.toList.length := by simpa using hin
        rw [List.drop_eq_getElem_cons hl, wordP]
        have e : wd.data.toList[i] = wd[i] := by have := byte_at wd i hin; rw [List.getElem?_eq_getElem hl] at this; exact Option.some.inj this
        rw [e]
      by_cases hps : p = s.size
      · subst hps
        have HE : Hid (wordP s.data.toList wd.data.toList a = .error s.size) := by
          rw [← HP.out, hst, if_neg (by rw [List.getElem?_eq_none (by simp)]; simp)]; rfl
        clear hst
        go_wp2_with fail
        go_quiet (fail)
        have cA2 : (wr.drewN nq).cell? ⟨bA, 0, none⟩ = some (.int .i64 (s.size : Nat)) := cA
        have cF2 : (wr.drewN nq).cell? ⟨bF, 0, none⟩ = some (.func (.func 21) #[] #[]) := cF
        go_wp2_with fail
        refine (fail_any 280 s.size _).mono ?_
        rintro e w3 ⟨⟨N, rfl, h1, h2⟩, hx⟩
        have HX3 := Lib.hid ((HX.out.drewN nq).ext hx)
        have H2 := Lib.hid h2
        have h1' : w.heap.size ≤ N := Nat.le_trans hz h1
        clear hx h1 h2
        go_wp2
        exact ⟨rfl, .inr ⟨_, HE.out, _, rfl, h1', H2.out⟩, HX3.out⟩
      · have hpl : p < s.size := by omega
        have heq : ((p : Int) == s.size) = false := by rw [beq_eq_false_iff_ne]; omega
        rw [byte_at s p hpl] at hst
        by_cases hc : s[p] = wd[i]
        · rw [if_pos (by rw [hc])] at hst
          have HE : Hid (wordP s.data.toList (wd.data.toList.drop (i + 1)) (p + 1) = wordP s.data.toList wd.data.toList a) := by rw [← HP.out, hst]; rfl
          have hcb : ((s[p].toNat : Int) != wd[i].toNat) = false := by rw [bne_eq_false_iff_eq, hc]
          clear hst hc hps
          go_wp2_with fail
          go_quiet (fail)
          have cA2 : (wr.drewN nq).cell? ⟨bA, 0, none⟩ = some (.int .i64 (p : Nat)) := cA
          have fA2 : (wr.drewN nq).frozen? ⟨bA, 0, none⟩ = false := fA
          go_wp2
          go_roundg (gk - 1)
          case measure => omega
          case rel => exact ⟨i + 1, p + 1, by omega, by go_num, by omega, HE, by
            have := setc (v := .int .i64 ((p + 1 : Nat) : Int)) cA2
            rw [Int.natCast_add] at this; exact this, by unfold Hid; rw [World.frozen?_setCell]; exact fA2, HX.out.drewN nq |>.setCell (p := ⟨bA, 0, none⟩) (.inl rfl) _⟩
        · rw [if_neg (by intro h; exact hc (Option.some.inj h))] at hst
          have HE : Hid (wordP s.data.toList wd.data.toList a = .error p) := by rw [← HP.out, hst]; rfl
          have hcb : ((s[p].toNat : Int) != wd[i].toNat) = true := by
            rw [bne_iff_ne]; intro h; exact hc (UInt8.toNat_inj.1 (by omega))
          clear hst hc hps
          go_wp2_with fail
          go_quiet (fail)
          have cA2 : (wr.drewN nq).cell? ⟨bA, 0, none⟩ = some (.int .i64 (p : Nat)) := cA
          have cF2 : (wr.drewN nq).cell? ⟨bF, 0, none⟩ = some (.func (.func 21) #[] #[]) := cF
          go_wp2_with fail
          refine (fail_any 280 p _).mono ?_
          rintro e w3 ⟨⟨N, rfl, h1, h2⟩, hx⟩
          have HX3 := Lib.hid ((HX.out.drewN nq).ext hx)
          have H2 := Lib.hid h2
          have h1' : w.heap.size ≤ N := Nat.le_trans hz h1
          clear hx h1 h2
          go_wp2
          exact ⟨rfl, .inr ⟨_, HE.out, _, rfl, h1', H2.out⟩, HX3.out⟩
    · obtain rfl : i = wd.size := by omega
      have HE : Hid (wordP s.data.toList wd.data.toList a = .ok p) := by rw [← HP.out, List.drop_eq_nil_of_le (by simp)]; rfl
      go_wp2
      go_end0
      exact ⟨.inl ⟨_, HE.out, rfl, HA.out, HFr.out⟩, HX.out⟩
end Go.Proofs.YtiihnoelclnahaaGreatDoor
