/- (nat.Nat).Bits and fits. -/
import Derived.Test.YtiihnoelclnahaaGreatDoorNatOf
import Derived.Test.YtiihnoelclnahaaGreatDoorShelfA
import Derived.Lib.ItoaNum
namespace Go.Proofs.YtiihnoelclnahaaGreatDoor
open Go.RowKit

/-- How many bits a number has. -/
def bitsN (n : Nat) : Nat := if n = 0 then 0 else n.log2 + 1

theorem bitsN_le (n k : Nat) : bitsN n ≤ k ↔ n < 2 ^ k := by
  unfold bitsN
  split
  · subst_vars; simp [Nat.pow_pos]
  · rename_i h
    rw [← Nat.log2_lt h]; omega

theorem bitsN_eq {n k : Nat} (h0 : 2 ^ (k - 1) ≤ n) (h1 : n < 2 ^ k) (hk : 0 < k) : bitsN n = k := by
  have a := (bitsN_le n k).2 h1
  rcases Nat.lt_or_ge (bitsN n) k with h | h
  · have := (bitsN_le n (k - 1)).1 (by omega); omega
  · omega

theorem bitsN_zero : bitsN 0 = 0 := rfl
theorem bitsN_pos {n : Nat} (h : n ≠ 0) : 0 < bitsN n := by unfold bitsN; rw [if_neg h]; omega
theorem bitsN_eq_zero {n : Nat} : bitsN n = 0 ↔ n = 0 := by
  constructor
  · intro h; rcases Nat.eq_zero_or_pos n with h0 | h0
    · exact h0
    · have := bitsN_pos (n := n) (by omega); omega
  · rintro rfl; rfl

theorem bitLen_bitsN (d : Nat) (h : d < 4294967296) : Lib.bitLen d = bitsN d := by
  by_cases h0 : d = 0
  · subst h0; simp [Lib.bitLen, Lib.bitLenAux_zero, bitsN]
  · obtain ⟨h1, h2, h3⟩ := Lib.bitLenAux_bounds 64 d (by omega) h0
    exact (bitsN_eq h2 h3 h1).symm

theorem bits_digs (n : Nat) (_ : n ≠ 0) (h' : 0 < (digs n).length) : bitsN n = 32 * ((digs n).length - 1) + bitsN ((digs n)[(digs n).length - 1]) := by
  have hne : digs n ≠ [] := by intro e; rw [e] at h'; simp at h'
  have hlast : (digs n)[(digs n).length - 1] ≠ 0 := by have := digs_last n hne; rwa [List.getLast_eq_getElem] at this
  have hd := digs_lt n _ (List.getElem_mem (h := (by omega : (digs n).length - 1 < (digs n).length)))
  have e := ofD_take_drop (digs n) ((digs n).length - 1) (by omega)
  rw [ofD_digs, List.drop_eq_getElem_cons (by omega)] at e
  have hdrop : (digs n).drop ((digs n).length - 1 + 1) = [] := List.drop_eq_nil_of_le (by omega)
  rw [hdrop] at e
  have hlt := ofD_lt ((digs n).take ((digs n).length - 1)) (fun d hd => digs_lt n d (List.mem_of_mem_take hd))
  have hlen : ((digs n).take ((digs n).length - 1)).length = (digs n).length - 1 := by simp
  rw [hlen] at hlt
  generalize (digs n)[(digs n).length - 1] = d at *
  generalize (digs n).length - 1 = m at *
  generalize ofD ((digs n).take m) = r at *
  simp only [ofD, Nat.mul_zero, Nat.add_zero] at e
  have hb := bitsN_pos hlast
  have h1 := (bitsN_le d (bitsN d)).1 (Nat.le_refl _)
  have h2 : 2 ^ (bitsN d - 1) ≤ d := by
    rcases Nat.lt_or_ge d (2 ^ (bitsN d - 1)) with h | h
    · have := (bitsN_le d (bitsN d - 1)).2 h; omega
    · exact h
  have hB : (4294967296 : Nat) ^ m = 2 ^ (32 * m) := by rw [Nat.pow_mul]
  rw [hB] at e hlt
  refine bitsN_eq ?_ ?_ (by omega)
  · have : 2 ^ (32 * m + bitsN d - 1) = 2 ^ (32 * m) * 2 ^ (bitsN d - 1) := by rw [← Nat.pow_add]; congr 1; omega
    rw [this, e]
    exact Nat.le_trans (Nat.mul_le_mul_left _ h2) (Nat.le_add_left _ _)
  · rw [Nat.pow_add, e]
    have : 2 ^ (32 * m) * (d + 1) ≤ 2 ^ (32 * m) * 2 ^ bitsN d := Nat.mul_le_mul_left _ h1
    rw [Nat.mul_add] at this; omega

theorem digs_length_bits (n : Nat) (b : Nat) (h : bitsN n ≤ 32 * b) : (digs n).length ≤ b := by
  rw [digs_length_le]
  have := (bitsN_le n _).1 h
  rwa [Nat.pow_mul] at this

theorem IsNat.bits {w : World} {A : Option Addr} {k n : Nat} (h : IsNat w A k n) : bitsN n ≤ 32 * k := by
  rw [bitsN_le, Nat.pow_mul]
  have := digs_le n
  rw [← h.1] at this
  exact this

theorem Len32_any (d : Nat) (h : d < 4294967296) (w : World) : Calls Tryz.prog 98 #[.int .u32 d] w fun e w' => e = .returned (.int .i64 (bitsN d : Nat)) ∧ w' = w :=
  (Tryz.bits_Len32 d w (by omega) (by omega)).mono fun e w' ⟨he, hw⟩ => ⟨by rw [he, Int.toNat_natCast, bitLen_bitsN d h], hw⟩

theorem Bits_any (A : Option Addr) (k n : Nat) (w : World) (h : IsNat w A k n) (hk : k ≤ 100000) :
    Calls Tryz.prog 75 #[.agg #[.slice A k k]] w fun e w' => e = .returned (.int .i64 (bitsN n : Nat)) ∧ Ext w w' := by
  by_cases h0 : k = 0
  · subst h0
    have hn := h.k_zero.1 rfl
    subst hn
    clear h
    go_enter Tryz.func75, Tryz.ntmps75
    go_wp2
    go_ret
    exact ⟨rfl, (Ext.refl _).alloc _⟩
  · obtain ⟨b, off, d, rfl, hb, hd, hlt, hcell⟩ := h.cell (k - 1) (by omega)
    have hn : n ≠ 0 := fun e => h0 (h.k_zero.2 e)
    have hkl := h.1
    have hbits : 32 * (k - 1) + bitsN d = bitsN n := by
      have h1 := bits_digs n hn (by omega)
      have hd' : (digs n)[(digs n).length - 1]'(by omega) = d := by
        rw [List.getElem?_eq_some_iff] at hd
        obtain ⟨h2, h3⟩ := hd
        simpa [hkl] using h3
      rw [h1, hd', hkl]
    have hle : bitsN d ≤ 32 := (bitsN_le d 32).2 (by omega)
    have HB := Lib.hid hbits; clear hbits
    have hk0 : 0 < k := by omega
    clear h hkl hd hn h0
    go_enter Tryz.func75, Tryz.ntmps75
    go_wp2
    have e1 : IntKind.i64.wrap ((k : Int) - 1) = (k : Int) - 1 := IntWalk.i64_in _ (by omega)
    have e2 : IntKind.i64.wrap (32 * ((k : Int) - 1)) = 32 * ((k : Int) - 1) := IntWalk.i64_in _ (by omega)
    have e3 : IntKind.i64.wrap (32 * ((k : Int) - 1) + (bitsN d : Nat)) = 32 * ((k : Int) - 1) + (bitsN d : Nat) := IntWalk.i64_in _ (by omega)
    have e4 : ((k : Int) - 1).toNat = k - 1 := by omega
    have p1 : (0 : Int) ≤ (k : Int) - 1 := by omega
    have p2 : (k : Int) - 1 < k := by omega
    go_quiet ((go_at_call 98; exact Calls.quiet_of_same (Len32_any _ hlt _)))
    go_wp2
    go_ret
    exact ⟨ret_int (by have := HB.out; omega), ((Ext.refl _).alloc _).drewN _⟩

/-- (nat.Nat).fits: the number, or ErrLong. -/
theorem fits_ok (A : Option Addr) (k n : Nat) (w : World) (h : IsNat w A k n) (hk : k ≤ 100000) (hb : bitsN n ≤ 4096) :
    Calls Tryz.prog 100 #[.agg #[.slice A k k]] w fun e w' => e = .returned (.tuple #[.agg #[.slice A k k], .int .i64 0]) ∧ Ext w w' := by
  have HC := Lib.hid (Bits_any A k n _ ((h.alloc (.cells #[.slice A k k] 102)).alloc (.cells #[.slice none 0 0] 102)) hk)
  clear h
  have hb0 : ((bitsN n : Nat) : Int) ≤ 4096 := by omega
  go_enter Tryz.func100, Tryz.ntmps100
  go_wp2_with fail
  refine HC.out.mono ?_
  rintro e w1 ⟨rfl, hx⟩
  have c1 := hx.cell (b := w.heap.size) (o := 0) (v := .slice A k k) (by simp [go_sem])
  have c2 := hx.cell (b := w.heap.size + 1) (o := 0) (v := .slice none 0 0) (by simp [go_sem])
  have f2 := hx.free (b := w.heap.size + 1) (o := 0) (by simp [go_sem]) (by simp only [World.size_alloc]; omega)
  have c3 := setc (v := .slice A k k) c2
  have hX := Lib.hid ((((Ext.refl w).alloc _).alloc _).trans hx)
  clear hx
  go_wp2
  refine bodyPost_ret (v := .tuple #[.agg #[.slice A k k], .int .i64 0]) (by simp [results, Tryz.results100, go_sem, c3]) rfl ⟨rfl, hX.out.setCell (p := ⟨w.heap.size + 1, 0, none⟩) (Nat.le_succ _) _⟩

theorem fits_long (A : Option Addr) (k n : Nat) (w : World) (h : IsNat w A k n) (hk : k ≤ 100000) (hb : 4096 < bitsN n) :
    Calls Tryz.prog 100 #[.agg #[.slice A k k]] w fun e w' => e = .returned (.tuple #[.agg #[.slice none 0 0], .int .i64 3]) ∧ Ext w w' := by
  have HC := Lib.hid (Bits_any A k n _ ((h.alloc (.cells #[.slice A k k] 102)).alloc (.cells #[.slice none 0 0] 102)) hk)
  clear h
  have hb0 : (4096 : Int) < (bitsN n : Nat) := by omega
  go_enter Tryz.func100, Tryz.ntmps100
  go_wp2_with fail
  refine HC.out.mono ?_
  rintro e w1 ⟨rfl, hx⟩
  have c1 := hx.cell (b := w.heap.size) (o := 0) (v := .slice A k k) (by simp [go_sem])
  have c2 := hx.cell (b := w.heap.size + 1) (o := 0) (v := .slice none 0 0) (by simp [go_sem])
  have f2 := hx.free (b := w.heap.size + 1) (o := 0) (by simp [go_sem]) (by simp only [World.size_alloc]; omega)
  have c3 := setc (v := .slice none 0 0) c2
  have hX := Lib.hid ((((Ext.refl w).alloc _).alloc _).trans hx)
  clear hx
  go_wp2
  refine bodyPost_ret (v := .tuple #[.agg #[.slice none 0 0], .int .i64 3]) (by simp [results, Tryz.results100, go_sem, c3]) rfl ⟨rfl, hX.out.setCell (p := ⟨w.heap.size + 1, 0, none⟩) (Nat.le_succ _) _⟩
end Go.Proofs.YtiihnoelclnahaaGreatDoor
