/- gram.each over machine numbers. (Printed by gen_each.py.) -/
import Derived.Test.YtiihnoelclnahaaGreatDoorGramBase
import Derived.Deep.LoopGhost
namespace Go.Proofs.YtiihnoelclnahaaGreatDoor
open Go.RowKit
set_option linter.unusedVariables false

set_option maxHeartbeats 1000000 in
theorem each1_any (A : Option Addr) (n c : Nat) (rows : List (List Int)) (w : World) (hn : n = rows.length) (hr : IsRows w A rows) (hf : Fit64 rows) :
    Calls Tryz.prog 33 #[.slice A n c, .func (.func 34) #[] #[]] w fun e w' => e = .returned (.bool (eachB smallP rows)) ∧ w = w' := by
  have hmk : n ≤ 140737488351232 := by rw [hn]; exact hf.1
  have HN := Lib.hid hn; clear hn
  have HR := Lib.hid hr; clear hr
  have HF := Lib.hid hf; clear hf

  go_enter Tryz.func33, Tryz.ntmps33
  go_wp2
  go_loopg [10] n (fun kk iv wr => ∃ i : Nat, kk + i = n ∧ iv = .int .i64 i ∧ w = wr ∧ Hid (∀ (i' : Nat) (l : List Int), i' < i → rows[i']? = some l → ∀ (j : Nat) (z : Int), l[j]? = some z → smallP i' j z = true))
  case atStart => exact ⟨0, by omega, rfl, rfl, fun i' l h => by omega⟩
  case round =>
    obtain ⟨i, hki, rfl, rfl, HA⟩ := hrel
    by_cases hin : i < n
    · obtain ⟨l, hl⟩ : ∃ l, rows[i]? = some l := ⟨_, List.getElem?_eq_getElem (by have := HN.out; omega)⟩
      obtain ⟨b, off, R, c', rfl, hb, h1, h2, h3⟩ := HR.out.at_ hl
      have HL := Lib.hid hl
      have HRow := Lib.hid h3
      have hlm := (HF.out.row hl).1
      obtain ⟨len, hlen⟩ : ∃ len, l.length = len := ⟨_, rfl⟩
      rw [hlen] at h1 h2 hlm
      have HLen := Lib.hid hlen
      clear hl h3 hlen
      go_wp2
      go_loopg [18] len (fun kk jv wi => ∃ j : Nat, kk + j = len ∧ jv = .int .i64 j ∧ w = wi ∧ Hid (∀ (j' : Nat) (z : Int), j' < j → l[j']? = some z → smallP i j' z = true))
      case atStart => exact ⟨0, by omega, rfl, rfl, fun j' z h => by omega⟩
      case round =>
        obtain ⟨j, hkj, rfl, rfl, HB⟩ := hrel
        by_cases hjn : j < len
        · obtain ⟨z, hz⟩ : ∃ z, l[j]? = some z := ⟨_, List.getElem?_eq_getElem (by have := HLen.out; omega)⟩
          obtain ⟨b2, off2, rfl, hb2, h4⟩ := HRow.out.at_ hz
          obtain ⟨z0, z1⟩ := HF.out.at_ HL.out hz
          have HZ := Lib.hid hz
          have HC := Lib.hid (look1P i j z w z0 z1)
          clear hz
          cases hP : smallP i j z
          · have HP := Lib.hid hP
            rw [HP.out] at HC
            clear hP
            go_wp2_with fail
            refine HC.out.mono ?_
            rintro e w' ⟨rfl, rfl⟩
            go_wp2
            go_ret
            rw [eachB_false HL.out HZ.out HP.out]; exact ⟨rfl, rfl⟩
          · have HP := Lib.hid hP
            rw [HP.out] at HC
            clear hP
            go_wp2_with fail
            refine HC.out.mono ?_
            rintro e w' ⟨rfl, rfl⟩
            go_wp2
            go_roundg (gk - 1)
            case measure => omega
            case rel => exact ⟨j + 1, by omega, by go_num, rfl, fun j' z' hj' hz' => by
              rcases Nat.lt_or_ge j' j with h | h
              · exact HB.out j' z' h hz'
              · obtain rfl : j' = j := by omega
                have e : z' = z := by have := HZ.out; rw [hz'] at this; exact Option.some.inj this
                rw [e]; exact HP.out⟩
        · obtain rfl : j = len := by omega
          go_wp2
          go_roundg (n - (i + 1))
          case measure => omega
          case rel => exact ⟨i + 1, by omega, by go_num, rfl, fun i' l' hi' hl' j' z' hz' => by
            rcases Nat.lt_or_ge i' i with h | h
            · exact HA.out i' l' h hl' j' z' hz'
            · obtain rfl : i' = i := by omega
              have e : l' = l := by have := HL.out; rw [hl'] at this; exact Option.some.inj this
              subst e
              exact HB.out j' z' (by have := (List.getElem?_eq_some_iff.1 hz').1; have := HLen.out; omega) hz'⟩
    · obtain rfl : i = n := by omega
      have HT : Hid (eachB smallP rows = true) := eachB_true.2 fun i' l' hl' j' z' hz' => HA.out i' l' (by have := (List.getElem?_eq_some_iff.1 hl').1; have := HN.out; omega) hl' j' z' hz'
      go_wp2
      go_ret
      rw [HT.out]; exact ⟨rfl, rfl⟩

set_option maxHeartbeats 1000000 in
theorem each2_any (A : Option Addr) (n c : Nat) (rows : List (List Int)) (bx : Nat) (w : World) (hn : n = rows.length) (hr : IsRows w A rows) (hf : Fit64 rows) (hc : w.cell? ⟨bx, 0, none⟩ = some (.slice A n c)) (hn8 : n ≤ 100) (hsq : ∀ l ∈ rows, l.length = n) :
    Calls Tryz.prog 33 #[.slice A n c, .func (.func 36) #[] #[.pointer (some ⟨bx, 0, none⟩)]] w fun e w' => e = .returned (.bool (eachB (mirrorB rows) rows)) ∧ w = w' := by
  have hmk : n ≤ 140737488351232 := by rw [hn]; exact hf.1
  have HN := Lib.hid hn; clear hn
  have HR := Lib.hid hr; clear hr
  have HF := Lib.hid hf; clear hf
  have HCb := Lib.hid hc; clear hc
  have HSq := Lib.hid hsq; clear hsq

  go_enter Tryz.func33, Tryz.ntmps33
  go_wp2
  go_loopg [10] n (fun kk iv wr => ∃ i : Nat, kk + i = n ∧ iv = .int .i64 i ∧ w = wr ∧ Hid (∀ (i' : Nat) (l : List Int), i' < i → rows[i']? = some l → ∀ (j : Nat) (z : Int), l[j]? = some z → (mirrorB rows) i' j z = true))
  case atStart => exact ⟨0, by omega, rfl, rfl, fun i' l h => by omega⟩
  case round =>
    obtain ⟨i, hki, rfl, rfl, HA⟩ := hrel
    by_cases hin : i < n
    · obtain ⟨l, hl⟩ : ∃ l, rows[i]? = some l := ⟨_, List.getElem?_eq_getElem (by have := HN.out; omega)⟩
      obtain ⟨b, off, R, c', rfl, hb, h1, h2, h3⟩ := HR.out.at_ hl
      have HL := Lib.hid hl
      have HRow := Lib.hid h3
      have hlm := (HF.out.row hl).1
      obtain ⟨len, hlen⟩ : ∃ len, l.length = len := ⟨_, rfl⟩
      rw [hlen] at h1 h2 hlm
      have HLen := Lib.hid hlen
      clear hl h3 hlen
      go_wp2
      go_loopg [18] len (fun kk jv wi => ∃ j : Nat, kk + j = len ∧ jv = .int .i64 j ∧ w = wi ∧ Hid (∀ (j' : Nat) (z : Int), j' < j → l[j']? = some z → (mirrorB rows) i j' z = true))
      case atStart => exact ⟨0, by omega, rfl, rfl, fun j' z h => by omega⟩
      case round =>
        obtain ⟨j, hkj, rfl, rfl, HB⟩ := hrel
        by_cases hjn : j < len
        · obtain ⟨z, hz⟩ : ∃ z, l[j]? = some z := ⟨_, List.getElem?_eq_getElem (by have := HLen.out; omega)⟩
          obtain ⟨b2, off2, rfl, hb2, h4⟩ := HRow.out.at_ hz
          obtain ⟨z0, z1⟩ := HF.out.at_ HL.out hz
          have HZ := Lib.hid hz
          have HC := Lib.hid (look2_any _ n c rows bx i j z w HN.out hn8 HCb.out HR.out HF.out HSq.out hin (by have := HSq.out l (by obtain ⟨h1, rfl⟩ := List.getElem?_eq_some_iff.1 HL.out; exact List.getElem_mem h1); have := HLen.out; omega))
          clear hz
          cases hP : (mirrorB rows) i j z
          · have HP := Lib.hid hP
            rw [HP.out] at HC
            clear hP
            go_wp2_with fail
            refine HC.out.mono ?_
            rintro e w' ⟨rfl, rfl⟩
            go_wp2
            go_ret
            rw [eachB_false HL.out HZ.out HP.out]; exact ⟨rfl, rfl⟩
          · have HP := Lib.hid hP
            rw [HP.out] at HC
            clear hP
            go_wp2_with fail
            refine HC.out.mono ?_
            rintro e w' ⟨rfl, rfl⟩
            go_wp2
            go_roundg (gk - 1)
            case measure => omega
            case rel => exact ⟨j + 1, by omega, by go_num, rfl, fun j' z' hj' hz' => by
              rcases Nat.lt_or_ge j' j with h | h
              · exact HB.out j' z' h hz'
              · obtain rfl : j' = j := by omega
                have e : z' = z := by have := HZ.out; rw [hz'] at this; exact Option.some.inj this
                rw [e]; exact HP.out⟩
        · obtain rfl : j = len := by omega
          go_wp2
          go_roundg (n - (i + 1))
          case measure => omega
          case rel => exact ⟨i + 1, by omega, by go_num, rfl, fun i' l' hi' hl' j' z' hz' => by
            rcases Nat.lt_or_ge i' i with h | h
            · exact HA.out i' l' h hl' j' z' hz'
            · obtain rfl : i' = i := by omega
              have e : l' = l := by have := HL.out; rw [hl'] at this; exact Option.some.inj this
              subst e
              exact HB.out j' z' (by have := (List.getElem?_eq_some_iff.1 hz').1; have := HLen.out; omega) hz'⟩
    · obtain rfl : i = n := by omega
      have HT : Hid (eachB (mirrorB rows) rows = true) := eachB_true.2 fun i' l' hl' j' z' hz' => HA.out i' l' (by have := (List.getElem?_eq_some_iff.1 hl').1; have := HN.out; omega) hl' j' z' hz'
      go_wp2
      go_ret
      rw [HT.out]; exact ⟨rfl, rfl⟩
end Go.Proofs.YtiihnoelclnahaaGreatDoor
