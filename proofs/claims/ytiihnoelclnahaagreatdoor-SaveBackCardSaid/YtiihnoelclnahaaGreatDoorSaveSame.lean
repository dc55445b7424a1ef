/- parquetref07.Same and parquetlaw28.Same where both hold one list. -/
import Derived.Test.YtiihnoelclnahaaGreatDoorSaveBase
namespace Go.Proofs.YtiihnoelclnahaaGreatDoor
open Go.RowKit
set_option linter.unusedVariables false

set_option maxHeartbeats 1000000 in
set_option maxRecDepth 100000 in
theorem rows_same (A B : Option Addr) (n c d : Nat) (rows : List (List Int)) (w : World) (hn : n = rows.length) (hA : IsRows w A rows) (hB : IsRows w B rows) (hf : Fit64 rows) :
    Calls Tryz.prog 27 #[.slice A n c, .slice B n d] w fun e w' => e = .returned (.bool true) ∧ ∃ m, w' = w.drewN m := by
  have hn64 : n ≤ 140737488351232 := by rw [hn]; exact hf.1
  have HN := Lib.hid hn
  have HA := Lib.hid hA
  have HB := Lib.hid hB
  have HF := Lib.hid hf
  clear hn hA hB hf
  go_enter Tryz.func27, Tryz.ntmps27
  go_wp2
  go_loopg [5] n (fun kk iv wr => ∃ i : Nat, kk + i = n ∧ iv = .int .i64 i ∧ ∃ q, wr = w.drewN q)
  case atStart => exact ⟨0, by omega, rfl, 0, rfl⟩
  case round =>
    obtain ⟨i, hki, rfl, q, rfl⟩ := hrel
    by_cases hin : i < n
    · obtain ⟨l, hl⟩ : ∃ l, rows[i]? = some l := ⟨_, List.getElem?_eq_getElem (by have := HN.out; omega)⟩
      obtain ⟨b1, o1, R1, c1, rfl, hb1, g1, g2, g3⟩ := HA.out.at_ hl
      obtain ⟨b2, o2, R2, c2, rfl, hb2, k1, k2, k3⟩ := HB.out.at_ hl
      have hfl := HF.out.row hl
      obtain ⟨m, hm⟩ : ∃ m, l.length = m := ⟨_, rfl⟩
      have hm64 : m ≤ 140737488351232 := by rw [← hm]; exact hfl.1
      rw [hm] at g1 g2 k1 k2
      have HL := Lib.hid hm
      have G3 := Lib.hid g3
      have K3 := Lib.hid k3
      have HLf := Lib.hid hfl.2
      clear hl hm g3 k3 hfl
      go_wp2
      go_quiet (fail)
      go_wp2
      go_loopg [6] m (fun kk jv wj => ∃ j : Nat, kk + j = m ∧ jv = .int .i64 j ∧ ∃ q, wj = w.drewN q)
      case atStart => exact ⟨0, by omega, rfl, _, World.drewN_drewN _ _ _⟩
      case round =>
        obtain ⟨j, hkj, rfl, q, rfl⟩ := hrel
        by_cases hjm : j < m
        · obtain ⟨x, hx⟩ : ∃ x, l[j]? = some x := ⟨_, List.getElem?_eq_getElem (by have := HL.out; omega)⟩
          obtain ⟨b3, o3, rfl, hb3, q1⟩ := G3.out.at_ hx
          obtain ⟨b4, o4, rfl, hb4, q2⟩ := K3.out.at_ hx
          clear hx
          go_wp2
          go_quiet (fail)
          go_wp2
          go_roundg (gk - 1)
          case measure => omega
          case rel => exact ⟨j + 1, by omega, by go_num, _, rfl⟩
        · obtain rfl : j = m := by omega
          go_wp2
          go_roundg (n - (i + 1))
          case measure => omega
          case rel => exact ⟨i + 1, by omega, by go_num, _, rfl⟩
    · obtain rfl : i = n := by omega
      go_wp2
      go_ret
      exact ⟨rfl, _, rfl⟩

set_option maxHeartbeats 1000000 in
set_option maxRecDepth 100000 in
theorem lists_same (A B : Option Addr) (n c d : Nat) (ls : List (List (List Int))) (w : World) (hn : n = ls.length) (hA : IsForms w A ls) (hB : IsForms w B ls) (hf : FitForms ls) :
    Calls Tryz.prog 12 #[.slice A n c, .slice B n d] w fun e w' => e = .returned (.bool true) ∧ ∃ m, w' = w.drewN m := by
  have hn64 : n ≤ 140737488351232 := by rw [hn]; exact hf.1
  have HN := Lib.hid hn
  have HA := Lib.hid hA
  have HB := Lib.hid hB
  have HF := Lib.hid hf
  clear hn hA hB hf
  go_enter Tryz.func12, Tryz.ntmps12
  go_wp2
  go_loopg [5] n (fun kk iv wr => ∃ i : Nat, kk + i = n ∧ iv = .int .i64 i ∧ ∃ q, wr = w.drewN q)
  case atStart => exact ⟨0, by omega, rfl, 0, rfl⟩
  case round =>
    obtain ⟨i, hki, rfl, q, hq⟩ := hrel
    have HQ := Lib.hid hq
    have hwx : Ext w wr := by rw [hq]; exact (Ext.refl w).drewN q
    clear hq
    by_cases hin : i < n
    · obtain ⟨l, hl⟩ : ∃ l, ls[i]? = some l := ⟨_, List.getElem?_eq_getElem (by have := HN.out; omega)⟩
      obtain ⟨b1, o1, R1, c1, rfl, hb1, g1, g2, g3⟩ := HA.out.at_ hl
      obtain ⟨b2, o2, R2, c2, rfl, hb2, k1, k2, k3⟩ := HB.out.at_ hl
      have hfl : Fit64 l := HF.out.2 _ (by obtain ⟨q, rfl⟩ := List.getElem?_eq_some_iff.1 hl; exact List.getElem_mem q)
      replace g1 := hwx.cell g1
      replace k1 := hwx.cell k1
      have HWX := Lib.hid hwx
      clear hwx
      obtain ⟨m, hm⟩ : ∃ m, l.length = m := ⟨_, rfl⟩
      have HCk := Lib.hid (fun W (hx : Ext w W) => rows_same R1 R2 m c1 c2 l W hm.symm (g3.ext hx) (k3.ext hx) hfl)
      rw [hm] at g1 g2 k1 k2
      clear hl hm g3 k3 hfl
      go_wp2
      go_quiet ((go_at_call 27; exact Calls.quiet_of (HCk.out _ (HWX.out.drewN _))))
      go_wp2
      go_roundg (gk - 1)
      case measure => omega
      case rel => exact ⟨i + 1, by omega, by go_num, _, by rw [HQ.out]; exact World.drewN_drewN _ _ _⟩
    · obtain rfl : i = n := by omega
      go_wp2
      go_ret
      exact ⟨rfl, _, HQ.out⟩
end Go.Proofs.YtiihnoelclnahaaGreatDoor
