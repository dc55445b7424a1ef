/- strconv.FormatUint at base 16, save.digits: a sum as sixteen. -/
import Derived.Test.YtiihnoelclnahaaGreatDoorSaveSum
import Derived.Lib.LaidTab
namespace Go.Proofs.YtiihnoelclnahaaGreatDoor
open Go.RowKit
set_option linter.unusedVariables false

/-- The table of the library's own initialiser. -/
def deb64 : List Int := [0, 1, 56, 2, 57, 49, 28, 3, 61, 58, 42, 50, 38, 29, 17, 4, 62, 47, 59, 36, 45, 43, 51, 22, 53, 39, 33, 30, 24, 18, 12, 5, 63, 55, 48, 27, 60, 41, 37, 16, 46, 35, 44, 21, 52, 32, 23, 11, 54, 26, 40, 15, 34, 20, 31, 10, 25, 14, 19, 9, 13, 8, 7, 6]

theorem Tryz.glob64 : Tryz.prog.globalNamed "math/bits.deBruijn64tab" = some 6 := by kernel_rfl

theorem var_ext {w w' : World} {name : String} {cs : Array Value} (h : w.var? Tryz.prog name = some cs) (hx : Ext w w') : w'.var? Tryz.prog name = some cs := by
  unfold World.var? at h ⊢
  cases hg : Tryz.prog.globalNamed name with
  | none => rw [hg] at h; cases h
  | some g =>
    rw [hg] at h
    simp only [Option.bind_some] at h ⊢
    have hlt : g < w.heap.size := by
      rcases Nat.lt_or_ge g w.heap.size with h1 | h1
      · exact h1
      · rw [Array.getElem?_eq_none h1] at h; cases h
    rw [Below.block hx g hlt]; exact h
theorem tabIs_ext {w w' : World} {name : String} {k : IntKind} {zs : List Int} (h : Lib.TabIs Tryz.prog w name k zs) (hx : Ext w w') : Lib.TabIs Tryz.prog w' name k zs := var_ext h hx

theorem tz64_any (w : World) (htab : Lib.TabIs Tryz.prog w "math/bits.deBruijn64tab" .u8 deb64) :
    Calls Tryz.prog 114 #[.int .u64 16] w fun e w' => e = .returned (.int .i64 4) ∧ w = w' := by
  have hc : w.cell? ⟨6, 15, none⟩ = some (.int .u8 4) := htab.cell Tryz.glob64 15 (by decide)
  have e2 : bits .and .u64 16 (IntKind.u64.wrap (-16)) = 16 := by kernel_rfl
  have e3 : IntKind.u64.wrap (16 * 285870213051353865) = 4573923408821661840 := by kernel_rfl
  have e4 : (4573923408821661840 : Int) / 288230376151711744 = 15 := by kernel_rfl
  clear htab
  go_enter Tryz.func114, Tryz.ntmps114
  go_wp2
  go_ret
  exact ⟨rfl, rfl⟩

theorem tz_any (w : World) (htab : Lib.TabIs Tryz.prog w "math/bits.deBruijn64tab" .u8 deb64) :
    Calls Tryz.prog 96 #[.int .u64 16] w fun e w' => e = .returned (.int .i64 4) ∧ w = w' := by
  have H := Lib.hid (tz64_any w htab)
  clear htab
  go_enter Tryz.func96, Tryz.ntmps96
  go_wp2_with fail
  refine H.out.mono ?_
  rintro e w' ⟨rfl, rfl⟩
  go_wp2
  go_ret
  exact ⟨rfl, rfl⟩

theorem pow2_any (w : World) :
    Calls Tryz.prog 95 #[.int .i64 16] w fun e w' => e = .returned (.bool true) ∧ w = w' := by
  have e2 : bits .and .i64 16 15 = 0 := by kernel_rfl
  go_enter Tryz.func95, Tryz.ntmps95
  go_wp2
  go_ret
  exact ⟨rfl, rfl⟩

/-- A hexadecimal digit. -/
def hexc (n : Nat) : UInt8 := if n < 10 then UInt8.ofNat (48 + n) else UInt8.ofNat (87 + n)
def hexN (u : Nat) : List UInt8 := if h : u < 16 then [hexc u] else hexN (u / 16) ++ [hexc (u % 16)]
  termination_by u
  decreasing_by omega
theorem hexN_small {u : Nat} (h : u < 16) : hexN u = [hexc u] := by rw [hexN, dif_pos h]
theorem hexN_big {u : Nat} (h : ¬ u < 16) : hexN u = hexN (u / 16) ++ [hexc (u % 16)] := by rw [hexN, dif_neg h]

/-- A block of bytes: z ahead, these bytes behind. -/
def BTail (w : World) (g : Nat) (z : List Value) (d : List UInt8) : Prop := w.heap[g]? = some (.cells (z ++ Lib.byteCells d).toArray 164 (0, 0))

theorem BTail.cell {w : World} {g : Nat} {z : List Value} {v : Value} {d : List UInt8} (h : BTail w g (z ++ [v]) d) : w.cell? ⟨g, z.length, none⟩ = some v := by
  unfold BTail at h
  rw [cell_of_row _ _ _ _ _ _ h]
  simp
theorem BTail.free {w : World} {g : Nat} {z : List Value} {d : List UInt8} (h : BTail w g z d) (o : Nat) : w.frozen? ⟨g, o, none⟩ = false := by
  unfold BTail at h
  simp only [World.frozen?, h]; rfl
theorem BTail.put {w : World} {g : Nat} {z : List Value} {v : Value} {d : List UInt8} (h : BTail w g (z ++ [v]) d) (c : UInt8) : BTail (w.setCell ⟨g, z.length, none⟩ (.int .u8 c.toNat)) g z (c :: d) := by
  unfold BTail at h ⊢
  simp [World.setCell, Array.getElem?_modify, h, Lib.byteCells]

theorem dig36 (r : Nat) (h : r < (⟨#[48, 49, 50, 51, 52, 53, 54, 55, 56, 57, 97, 98, 99, 100, 101, 102, 103, 104, 105, 106, 107, 108, 109, 110, 111, 112, 113, 114, 115, 116, 117, 118, 119, 120, 121, 122]⟩ : ByteArray).size) (h16 : r < 16) : (⟨#[48, 49, 50, 51, 52, 53, 54, 55, 56, 57, 97, 98, 99, 100, 101, 102, 103, 104, 105, 106, 107, 108, 109, 110, 111, 112, 113, 114, 115, 116, 117, 118, 119, 120, 121, 122]⟩ : ByteArray)[r] = hexc r := by
  have H : ∀ q : Fin 16, (⟨#[48, 49, 50, 51, 52, 53, 54, 55, 56, 57, 97, 98, 99, 100, 101, 102, 103, 104, 105, 106, 107, 108, 109, 110, 111, 112, 113, 114, 115, 116, 117, 118, 119, 120, 121, 122]⟩ : ByteArray)[q.val]'(Nat.lt_of_lt_of_le q.isLt (by decide)) = hexc q.val := by decide
  exact H ⟨r, h16⟩

theorem hex_step (u gk : Nat) (d : List UInt8) (h16 : 16 ≤ gk) (h1 : gk * 16 ^ d.length ≤ u) (h2 : hexN gk ++ d = hexN u) : (gk / 16) * 16 ^ (hexc (gk % 16) :: d).length ≤ u ∧ hexN (gk / 16) ++ (hexc (gk % 16) :: d) = hexN u := by
  refine ⟨?_, ?_⟩
  · rw [List.length_cons, Nat.pow_succ]
    refine Nat.le_trans ?_ h1
    rw [Nat.mul_comm (16 ^ d.length), ← Nat.mul_assoc]
    exact Nat.mul_le_mul_right _ (Nat.div_mul_le_self _ _)
  · rw [← h2, hexN_big (u := gk) (by omega), List.append_assoc]; rfl
theorem hexN_pos (u : Nat) : 1 ≤ (hexN u).length := by
  by_cases h : u < 16
  · rw [hexN_small h]; simp
  · rw [hexN_big h]; simp
theorem hexN_le (k : Nat) : ∀ u, u < 16 ^ (k + 1) → (hexN u).length ≤ k + 1 := by
  induction k with
  | zero => intro u hu; rw [hexN_small (by omega)]; simp
  | succ k ih =>
    intro u hu
    by_cases h : u < 16
    · rw [hexN_small h]; simp
    · rw [hexN_big h, List.length_append]
      have := ih (u / 16) (Nat.div_lt_of_lt_mul (by rw [Nat.pow_succ] at hu; omega))
      simp; omega
theorem hexN_len (u : Nat) (h : u < 18446744073709551616) : (hexN u).length ≤ 16 := hexN_le 15 u (by
  have h4 : (16 : Nat) ^ (15 + 1) = 18446744073709551616 := by decide
  omega)
theorem hex_len (u gk n : Nat) (hu : u < 18446744073709551616) (h16 : 16 ≤ gk) (h1 : gk * 16 ^ n ≤ u) : n < 15 := by
  rcases Nat.lt_or_ge n 15 with h | h
  · exact h
  · have h2 : 16 ^ 15 ≤ 16 ^ n := Nat.pow_le_pow_right (by omega) h
    have h3 : 16 * 16 ^ 15 ≤ gk * 16 ^ n := Nat.mul_le_mul h16 h2
    have h4 : (16 : Nat) * 16 ^ 15 = 18446744073709551616 := by decide
    omega

theorem and15 (u : Nat) (h : u < 18446744073709551616) : bits .and .u64 (u : Int) 15 = ((u % 16 : Nat) : Int) := by
  have := (bits_nat .u64 64 (by decide) wraps_u64 u 15 (by omega) (by omega)).1
  rw [show ((15 : Nat) : Int) = 15 from rfl] at this
  rw [this, show (15 : Nat) = 2 ^ 4 - 1 from rfl, Nat.and_two_pow_sub_one_eq_mod]

set_option maxRecDepth 100000 in
theorem formatBits_any (u : Nat) (w : World) (hu : u < 18446744073709551616) (htab : Lib.TabIs Tryz.prog w "math/bits.deBruijn64tab" .u8 deb64) :
    Calls Tryz.prog 73 #[.slice none 0 0, .int .u64 u, .int .i64 16, .bool false, .bool false] w fun e w' => e = .returned (.tuple #[.slice none 0 0, .string ⟨(hexN u).toArray⟩]) ∧ Ext w w' := by
  have HT := Lib.hid htab
  clear htab
  have HU := Lib.hid hu
  clear hu
  go_enter Tryz.func73, Tryz.ntmps73
  go_wp2_with fail
  refine (pow2_any _).mono ?_
  rintro e w' ⟨rfl, rfl⟩
  go_wp2_with fail
  have HT2 : Hid (Lib.TabIs Tryz.prog (w.alloc (.cells Tryz.zeroCells164 164)) "math/bits.deBruijn64tab" .u8 deb64) := by
    exact tabIs_ext HT.out ((Ext.refl w).alloc _)
  refine (tz_any _ HT2.out).mono ?_
  rintro e w' ⟨rfl, rfl⟩
  go_wp2
  obtain ⟨W0, hW0⟩ : ∃ W0, w.alloc (.cells Tryz.zeroCells164 164) = W0 := ⟨_, rfl⟩
  have HX0 : Hid (Ext w W0) := by rw [← hW0]; exact (Ext.refl w).alloc _
  have HB0 : Hid (BTail W0 w.heap.size Tryz.zeroCells164.toList []) := by
    have := heap_new w (.cells Tryz.zeroCells164 164)
    rw [hW0] at this
    unfold BTail Hid
    rw [this]; simp [Lib.byteCells]
  rw [hW0]
  clear hW0 HT2
  have hlen : Tryz.zeroCells164.toList.length = 65 := by kernel_rfl
  go_loopg [1, 13] u (fun kk uv iv wr => ∃ (i : Nat) (z : List Value) (d : List UInt8), uv = .int .u64 kk ∧ iv = .int .i64 i ∧ i ≤ 65 ∧ kk < 18446744073709551616 ∧ Hid (z.length = i ∧ i + d.length = 65 ∧ kk * 16 ^ d.length ≤ u ∧ hexN kk ++ d = hexN u) ∧ Hid (BTail wr w.heap.size z d) ∧ Hid (Ext w wr))
  case atStart => exact ⟨65, _, [], rfl, rfl, by omega, HU.out, ⟨hlen, by simp, by simp, by simp⟩, HB0, HX0⟩
  case round =>
    clear HB0 HX0
    obtain ⟨i, z, d, rfl, rfl, hi, hkk, HI, HB, HX⟩ := hrel
    by_cases h16 : 16 ≤ gk
    · have hi1 : 17 ≤ i := by have := hex_len u gk _ HU.out h16 HI.out.2.2.1; have := HI.out.2.1; omega
      have e1 := and15 gk hkk
      obtain ⟨r, hr⟩ : ∃ r, gk % 16 = r := ⟨_, rfl⟩
      have hr16 : r < 16 := by omega
      rw [hr] at e1
      have HR := Lib.hid hr
      clear hr
      obtain ⟨z', v, rfl⟩ : ∃ z' v, z = z' ++ [v] := ⟨z.dropLast, z.getLast (by intro e; have := HI.out.1; rw [e] at this; simp at this; omega), (List.dropLast_concat_getLast _).symm⟩
      have hzl : z'.length = i - 1 := by have := HI.out.1; simp at this; omega
      have c1 := HB.out.cell
      have f1 := HB.out.free (i - 1)
      rw [hzl] at c1
      have HZ := Lib.hid hzl
      clear hzl
      have HB2 : Hid (BTail (wr.setCell ⟨w.heap.size, i - 1, none⟩ (.int .u8 (hexc r).toNat)) w.heap.size z' (hexc r :: d)) := by have := HB.out.put (hexc r); rwa [HZ.out] at this
      have HX2 : Hid (Ext w (wr.setCell ⟨w.heap.size, i - 1, none⟩ (.int .u8 (hexc r).toNat))) := HX.out.setCell (p := ⟨w.heap.size, i - 1, none⟩) (Nat.le_refl _) _
      have HSt := hex_step u gk d h16 HI.out.2.2.1 HI.out.2.2.2
      rw [HR.out] at HSt
      have HS := Lib.hid HSt
      clear HSt
      go_wp2
      rw [dig36 r _ hr16]
      go_roundg (gk / 16)
      case measure => omega
      case rel => exact ⟨i - 1, z', hexc r :: d, by go_num, by go_num, by omega, by omega, ⟨HZ.out, by have := HI.out.2.1; simp; omega, HS.out.1, HS.out.2⟩, HB2, HX2⟩
    · have hi1 : 1 ≤ i := by
        have h3 := HI.out.2.2.1
        have h4 := HI.out.2.1
        rcases Nat.eq_zero_or_pos i with h | h
        · exfalso
          have h5 : d.length = 65 := by omega
          have h6 := HI.out.2.2.2
          have h7 := congrArg List.length h6
          have h8 := hexN_len u HU.out
          have h9 := hexN_pos gk
          simp at h7; omega
        · exact h
      obtain ⟨z', v, rfl⟩ : ∃ z' v, z = z' ++ [v] := ⟨z.dropLast, z.getLast (by intro e; have := HI.out.1; rw [e] at this; simp at this; omega), (List.dropLast_concat_getLast _).symm⟩
      have hzl : z'.length = i - 1 := by have := HI.out.1; simp at this; omega
      have c1 := HB.out.cell
      have f1 := HB.out.free (i - 1)
      rw [hzl] at c1
      have HZ := Lib.hid hzl
      have h16' : gk < 16 := by omega
      have HB2 : Hid (BTail (wr.setCell ⟨w.heap.size, i - 1, none⟩ (.int .u8 (hexc gk).toNat)) w.heap.size z' (hexN u)) := by
        have := HB.out.put (hexc gk)
        have e := HI.out.2.2.2
        rw [hexN_small h16'] at e
        rw [HZ.out] at this
        rw [← e]; exact this
      have HX2 : Hid (Ext w (wr.setCell ⟨w.heap.size, i - 1, none⟩ (.int .u8 (hexc gk).toNat))) := HX.out.setCell (p := ⟨w.heap.size, i - 1, none⟩) (Nat.le_refl _) _
      have hln : (hexN u).length = 65 - (i - 1) := by
        have e := congrArg List.length HI.out.2.2.2
        rw [hexN_small h16'] at e
        have := HI.out.2.1
        simp at e; omega
      have hsl : ∀ W, (Instr.sliceAt 164 (.pointer (some ⟨w.heap.size, 0, none⟩)) (some (.int .i64 ((i : Int) - 1))) none none).run Tryz.prog W = .ok (.slice (some ⟨w.heap.size, i - 1, none⟩) (hexN u).length (hexN u).length) W := by
        intro W
        rw [hln, run_sliceAt_array_l (P := Tryz.prog) W 164 ⟨w.heap.size, 0, none⟩ Tryz.underlying164 .i64 ((i : Int) - 1) (by omega) (by rw [show Tryz.prog.arrayLen 164 = 65 by kernel_rfl]; omega)]
        have hsz : (sizeOf (Tryz.prog.elem 164)).run Tryz.prog W = .ok 1 W := by kernel_rfl
        rw [hsz]
        simp only [Result.andThen_ok, slicedAt, show Tryz.prog.arrayLen 164 = 65 by kernel_rfl]
        rw [show ((i : Int) - 1).toNat = i - 1 by omega, if_neg (by omega)]
        congr 3
        unfold Addr.add
        split
        · rename_i h; rw [Nat.mul_one] at h; rw [h]
        · simp
      have hcv : ∀ W, W = (wr.setCell ⟨w.heap.size, i - 1, none⟩ (.int .u8 (hexc gk).toNat)) → (convert 36 9 (.slice (some ⟨w.heap.size, i - 1, none⟩) (hexN u).length (hexN u).length)).run Tryz.prog W = .ok (.string ⟨(hexN u).toArray⟩) W := by
        rintro W rfl
        refine run_convert_bytes_back (P := Tryz.prog) _ 36 9 5 ⟨w.heap.size, i - 1, none⟩ _ (hexN u) Tryz.underlying36 Tryz.underlying5 Tryz.underlying9 fun j hj => ?_
        have h1 := HB2.out
        unfold BTail at h1
        have ea : (⟨w.heap.size, i - 1, none⟩ : Addr).add j = ⟨w.heap.size, i - 1 + j, none⟩ := by
          unfold Addr.add
          split
          · rename_i h; rw [h]; rfl
          · rfl
        rw [ea, cell_of_row _ _ _ _ _ _ h1, List.getElem?_toArray, List.getElem?_append_right (by rw [HZ.out]; omega), HZ.out, Nat.add_sub_cancel_left]
        simp [Lib.byteCells, hj]
      have hcw := hcv _ rfl
      clear hzl h16 hln hcv
      go_wp2
      rw [dig36 gk _ h16', hcw]
      go_wp2
      go_ret2
      exact ⟨rfl, HX2.out⟩

theorem intFormatUint_any (u : Nat) (w : World) (hu : u < 18446744073709551616) (htab : Lib.TabIs Tryz.prog w "math/bits.deBruijn64tab" .u8 deb64) :
    Calls Tryz.prog 56 #[.int .u64 u, .int .i64 16] w fun e w' => e = .returned (.string ⟨(hexN u).toArray⟩) ∧ Ext w w' := by
  have H := Lib.hid (formatBits_any u w hu htab)
  clear htab hu
  go_enter Tryz.func56, Tryz.ntmps56
  go_wp2_with fail
  refine H.out.mono ?_
  rintro e w1 ⟨rfl, hx⟩
  have HX := Lib.hid hx
  clear hx
  go_wp2
  go_ret
  exact ⟨rfl, HX.out⟩
theorem FormatUint_any (u : Nat) (w : World) (hu : u < 18446744073709551616) (htab : Lib.TabIs Tryz.prog w "math/bits.deBruijn64tab" .u8 deb64) :
    Calls Tryz.prog 39 #[.int .u64 u, .int .i64 16] w fun e w' => e = .returned (.string ⟨(hexN u).toArray⟩) ∧ Ext w w' := by
  have H := Lib.hid (intFormatUint_any u w hu htab)
  clear htab hu
  go_enter Tryz.func39, Tryz.ntmps39
  go_wp2_with fail
  refine H.out.mono ?_
  rintro e w1 ⟨rfl, hx⟩
  have HX := Lib.hid hx
  clear hx
  go_wp2
  go_ret
  exact ⟨rfl, HX.out⟩

/-- Sixteen digits. -/
def hex16 (u : Nat) : List UInt8 := List.replicate (16 - (hexN u).length) 48 ++ hexN u

theorem repeatL_one (c : UInt8) (n : Nat) : Lib.repeatL [c] n = List.replicate n c := by
  induction n with
  | zero => rfl
  | succ n ih => rw [Lib.repeatL, ih]; rfl

theorem ba_append (a b : List UInt8) : (⟨a.toArray⟩ : ByteArray) ++ ⟨b.toArray⟩ = ⟨(a ++ b).toArray⟩ := by
  apply ByteArray.ext; simp

theorem digits_any (u : Nat) (w : World) (hu : u < 18446744073709551616) (htab : Lib.TabIs Tryz.prog w "math/bits.deBruijn64tab" .u8 deb64) :
    Calls Tryz.prog 17 #[.int .u64 u] w fun e w' => e = .returned (.string ⟨(hex16 u).toArray⟩) ∧ Ext w w' := by
  have H := Lib.hid (FormatUint_any u w hu htab)
  have hl := hexN_len u hu
  obtain ⟨n, hn⟩ : ∃ n, (hexN u).length = n := ⟨_, rfl⟩
  have HR := Lib.hid (fun W => Tryz.strings_Repeat ⟨#[48]⟩ (16 - n) W (by omega) (by
    have : (⟨#[48]⟩ : ByteArray).size = 1 := rfl
    rw [this]; omega))
  have HN := Lib.hid hn
  rw [hn] at hl
  clear htab hu
  go_enter Tryz.func17, Tryz.ntmps17
  go_wp2_with fail
  refine H.out.mono ?_
  rintro e w1 ⟨rfl, hx⟩
  have HX := Lib.hid hx
  clear hx
  go_wp2_with fail
  rw [show (16 : Int) - (n : Int) = ((16 - n : Nat) : Int) by omega]
  refine (HR.out _).mono ?_
  rintro e w2 ⟨rfl, hx⟩
  have HX2 := Lib.hid (HX.out.trans hx)
  have e2 : (⟨(Lib.repeatL (⟨#[48]⟩ : ByteArray).data.toList (16 - n)).toArray⟩ : ByteArray) = ⟨(List.replicate (16 - n) 48).toArray⟩ := by
    rw [show (⟨#[48]⟩ : ByteArray).data.toList = [48] from rfl, repeatL_one]
  rw [e2]
  clear hx HX HR H e2 hn
  have hl2 : (hexN u).length ≤ 16 := by have := HN.out; omega
  go_wp2
  go_ret
  refine ⟨?_, HX2.out⟩
  have e : (⟨Array.replicate (16 - n) 48⟩ : ByteArray) ++ ⟨(hexN u).toArray⟩ = ⟨(hex16 u).toArray⟩ := by
    rw [show (Array.replicate (16 - n) (48 : UInt8)) = (List.replicate (16 - n) 48).toArray by simp, ba_append]
    unfold hex16
    rw [HN.out]
  show Ending.returned (.string ((⟨Array.replicate (16 - n) 48⟩ : ByteArray) ++ ⟨(hexN u).toArray⟩)) = _
  rw [e]
end Go.Proofs.YtiihnoelclnahaaGreatDoor
