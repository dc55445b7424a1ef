/- nat.cut, nat.Of, (nat.Nat).Bits, fits: what they hand back. -/
import Derived.Test.YtiihnoelclnahaaGreatDoorProg
import Derived.Test.YtiihnoelclnahaaGreatDoorNatBase
import Derived.WalkKit
import Derived.Deep.QuietTactic
import Derived.BigQuiet
import Derived.KernelRfl
import Derived.Lib.Hide
namespace Go.Proofs.YtiihnoelclnahaaGreatDoor
open Go.RowKit

theorem cut_any (A : Option Addr) (n c : Nat) (l : List Nat) (w : World) (hn : n = l.length) (hc : n ≤ c) (hcm : n ≤ 1099511627776) (hl : ∀ d ∈ l, d < 4294967296) (hA : Digs w A l) :
    Calls Tryz.prog 97 #[.slice A n c] w fun e w' => ∃ k, e = .returned (.agg #[.slice A k k]) ∧ k = (digs (ofD l)).length ∧ digs (ofD l) = l.take k ∧ Ext w w' := by
  obtain rfl : n = l.length := hn
  go_enter Tryz.func97, Tryz.ntmps97
  go_wp2
  go_loop [3] (fun i => ∃ k : Nat, k ≤ l.length ∧ (∀ j, k ≤ j → ∀ h : j < l.length, l[j] = 0) ∧ i = .int .i64 k) (fun i => (intOf i).toNat)
  case atStart => exact ⟨l.length, Nat.le_refl _, fun j h1 h2 => by omega, rfl⟩
  case round =>
    obtain ⟨k, hk, hz, rfl⟩ := hrel
    by_cases h0 : k = 0
    · subst h0
      have HV := Lib.hid (digs_take l 0 hk hl hz (fun h => absurd h (by omega)))
      clear hz
      go_wp2
      exact bodyPost_ret (v := .agg #[.slice A 0 0]) (by simp [results, Tryz.results97, go_sem]) rfl ⟨0, rfl, by rw [HV.out]; simp, HV.out, (Ext.refl _).alloc _⟩
    · obtain ⟨b, off, rfl, hb, hcell⟩ := hA.cell (k - 1) (by omega)
      have hlt : l[k-1] < 4294967296 := hl _ (List.getElem_mem _)
      by_cases hd : l[k-1] = 0
      · have HZ := Lib.hid hz; clear hz
        rw [hd] at hcell
        have HD := Lib.hid hd; clear hd
        have hk0 : 0 < k := by omega
        go_wp2
        go_round
        case rel => exact ⟨k - 1, by omega, fun j h1 h2 => by
            rcases Nat.lt_or_ge j k with h3 | h3
            · obtain rfl : j = k - 1 := by omega
              exact HD.out
            · exact HZ.out j h3 h2, by go_num⟩
        case measure => simp [intOf]; omega
      · have HV := Lib.hid (digs_take l k hk hl hz (fun _ => hd))
        have HZ := Lib.hid hz; clear hz
        have hk0 : 0 < k := by omega
        have hne : ((l[k-1] : Int) == 0) = false := by simpa using hd
        go_wp2
        exact bodyPost_ret (v := .agg #[.slice (some ⟨b, off, none⟩) k k]) (by simp [results, Tryz.results97, go_sem]) rfl ⟨k, rfl, by rw [HV.out]; simp; omega, HV.out, (Ext.refl _).alloc _⟩
theorem Digs.take {w : World} {A : Option Addr} {l : List Nat} (h : Digs w A l) (k : Nat) : Digs w A (l.take k) := by
  intro hl
  obtain ⟨b, off, e, hb, hc⟩ := h (by simp at hl; omega)
  exact ⟨b, off, e, hb, fun j d hj => hc j d (by rw [List.getElem?_take] at hj; split at hj; exact hj; cases hj)⟩

/-- The cut, as a number. -/
theorem cut_nat (A : Option Addr) (n c : Nat) (l : List Nat) (w : World) (hn : n = l.length) (hc : n ≤ c) (hcm : n ≤ 1099511627776) (hl : ∀ d ∈ l, d < 4294967296) (hA : Digs w A l) :
    Calls Tryz.prog 97 #[.slice A n c] w fun e w' => ∃ k, e = .returned (.agg #[.slice A k k]) ∧ IsNat w' A k (ofD l) ∧ k ≤ n ∧ Ext w w' :=
  (cut_any A n c l w hn hc hcm hl hA).mono fun e w' ⟨k, he, hk, hd, hb⟩ =>
    ⟨k, he, ⟨hk, by rw [hd]; exact (hA.take k).below hb⟩, by rw [hd] at hk; simp at hk; omega, hb⟩
end Go.Proofs.YtiihnoelclnahaaGreatDoor
