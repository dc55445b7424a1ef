/- nat.Of: a machine's number. -/
import Derived.Test.YtiihnoelclnahaaGreatDoorNatCut
namespace Go.Proofs.YtiihnoelclnahaaGreatDoor
open Go.RowKit

/-- A number that fits into 64 bits. -/
def U64 (n : Int) : Prop := 0 ≤ n ∧ n < 18446744073709551616
theorem U64.nat {n : Int} (h : U64 n) : ∃ m : Nat, n = m ∧ m < 18446744073709551616 := ⟨n.toNat, by unfold U64 at h; omega, by unfold U64 at h; omega⟩

theorem of_any (n : Nat) (w : World) (hn : n < 18446744073709551616) :
    Calls Tryz.prog 74 #[.int .u64 n] w fun e w' => ∃ A k, e = .returned (.agg #[.slice A k k]) ∧ IsNat w' A k n ∧ k ≤ 2 ∧ Ext w w' := by
  have HN := Lib.hid hn; clear hn
  have h0 : (0 : Int) ≤ n := by omega
  have hbl := ((Ext.refl w).alloc (.cells #[.slice none 0 0] 102)).alloc (.cells #[.int .u32 (n % 4294967296 : Nat), .int .u32 (n / 4294967296 % 4294967296 : Nat)] 145)
  have e : ofD [n % 4294967296, n / 4294967296 % 4294967296] = n := by have := HN.out; simp only [ofD]; omega
  have HD := Digs.of_block (l := [n % 4294967296, n / 4294967296 % 4294967296]) (heap_new (w.alloc (.cells #[.slice none 0 0] 102)) (.cells #[.int .u32 (n % 4294967296 : Nat), .int .u32 (n / 4294967296 % 4294967296 : Nat)] 145)) (by
    intro j d hj
    match j, hj with
    | 0, hj => simp at hj; subst hj; rfl
    | 1, hj => simp at hj; subst hj; rfl)
  rw [World.size_alloc] at HD
  have HC := cut_nat _ 2 2 _ _ rfl (by omega) (by omega) (by intro d hd; simp at hd; omega) HD
  rw [e] at HC
  have H := Lib.hid HC; clear HC
  have HBL := Lib.hid hbl; clear hbl
  clear e HD
  go_enter Tryz.func74, Tryz.ntmps74
  go_wp2_with fail
  refine H.out.mono ?_
  rintro e w1 ⟨k, rfl, HK, hk, hb⟩
  have c1 := old hb (b := w.heap.size) (o := 0) (v := .slice none 0 0) (by simp) (by simp only [World.size_alloc]; omega)
  have f1 := oldf hb (b := w.heap.size) (o := 0) (by simp [go_sem]) (by simp only [World.size_alloc]; omega)
  have c2 := setc (v := .slice (some ⟨w.heap.size + 1, 0, none⟩) k k) c1
  go_wp2
  refine bodyPost_ret (v := .agg #[.slice (some ⟨w.heap.size + 1, 0, none⟩) k k]) (by simp [results, Tryz.results74, go_sem, c2]) rfl ⟨_, k, rfl, HK.set_ _ (by simp), hk, ?_⟩
  exact (HBL.out.trans hb).setCell (p := ⟨w.heap.size, 0, none⟩) (Nat.le_refl _) _
end Go.Proofs.YtiihnoelclnahaaGreatDoor
