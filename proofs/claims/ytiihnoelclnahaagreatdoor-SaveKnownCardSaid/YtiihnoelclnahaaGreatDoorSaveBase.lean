/- Lists of forms in memory; their text. -/
import Derived.Test.YtiihnoelclnahaaGreatDoorSaveHex
import Derived.Lib.ItoaLen
import Derived.Lib.AppendStr
import Derived.Lib.AppendIntMem
namespace Go.Proofs.YtiihnoelclnahaaGreatDoor
open Go.RowKit
set_option linter.unusedVariables false

/-- The cells from A on hold these lists of rows. -/
def IsForms (w : World) (A : Option Addr) (ls : List (List (List Int))) : Prop :=
  0 < ls.length → ∃ b off : Nat, A = some ⟨b, off, none⟩ ∧ b < w.heap.size ∧ ∀ (i : Nat) (rows : List (List Int)), ls[i]? = some rows → ∃ R c, w.cell? ⟨b, off + i, none⟩ = some (.slice R rows.length c) ∧ rows.length ≤ c ∧ IsRows w R rows
def FitForms (ls : List (List (List Int))) : Prop := ls.length ≤ 140737488351232 ∧ ∀ rows ∈ ls, Fit64 rows

theorem IsForms.ext {w w' : World} {A : Option Addr} {ls : List (List (List Int))} (h : IsForms w A ls) (hb : Ext w w') : IsForms w' A ls := by
  intro hl
  obtain ⟨b, off, e, hlt, hc⟩ := h hl
  refine ⟨b, off, e, Nat.lt_of_lt_of_le hlt hb.size, fun i l hi => ?_⟩
  obtain ⟨R, c, h1, h2, h3⟩ := hc i l hi
  exact ⟨R, c, hb.cell h1, h2, h3.ext hb⟩
theorem IsForms.at_ {w : World} {A : Option Addr} {ls : List (List (List Int))} (h : IsForms w A ls) {i : Nat} {rows : List (List Int)} (hi : ls[i]? = some rows) :
    ∃ (b off : Nat) (R : Option Addr) (c : Nat), A = some ⟨b, off, none⟩ ∧ b < w.heap.size ∧ w.cell? ⟨b, off + i, none⟩ = some (.slice R rows.length c) ∧ rows.length ≤ c ∧ IsRows w R rows := by
  obtain ⟨b, off, e, hlt, hc⟩ := h (by have := (List.getElem?_eq_some_iff.1 hi).1; omega)
  obtain ⟨R, c, h1, h2, h3⟩ := hc i rows hi
  exact ⟨b, off, R, c, e, hlt, h1, h2, h3⟩

/-! ### The text -/
def rowText (l : List Int) (k : Nat) : List UInt8 := (l.take k).flatMap fun x => 32 :: Lib.itoa x
def rowsText (rows : List (List Int)) (i : Nat) : List UInt8 := (List.range i).flatMap fun r => rowText ((rows[r]?).getD []) (r + 1)
def lineOf (rows : List (List Int)) : List UInt8 := Lib.itoa rows.length ++ rowsText rows rows.length ++ [10]
/-- "parquet ". -/
def headW : List UInt8 := [112, 97, 114, 113, 117, 101, 116, 32]
/-- "sum ". -/
def sumW : List UInt8 := [115, 117, 109, 32]
def bodyTo (ls : List (List (List Int))) (k : Nat) : List UInt8 := headW ++ Lib.itoa ls.length ++ [10] ++ (ls.take k).flatMap lineOf
def bodyOf (ls : List (List (List Int))) : List UInt8 := bodyTo ls ls.length
def textOf (ls : List (List (List Int))) : List UInt8 := bodyOf ls ++ sumW ++ hex16 (fnv (bodyOf ls)) ++ [10]
/-- The first code that is none. -/
def firstBad : List (List (List Int)) → Int
  | [] => 0
  | rows :: ls => if chk rows = 0 then firstBad ls else chk rows
def codeW (ls : List (List (List Int))) : Int := if 64 < ls.length then 9 else firstBad ls
def textW (ls : List (List (List Int))) : List UInt8 := if codeW ls = 0 then textOf ls else []

theorem rowText_succ (l : List Int) (k : Nat) (x : Int) (h : l[k]? = some x) : rowText l (k + 1) = rowText l k ++ (32 :: Lib.itoa x) := by
  obtain ⟨h1, rfl⟩ := List.getElem?_eq_some_iff.1 h
  unfold rowText
  rw [List.take_succ_eq_append_getElem h1, List.flatMap_append]; simp
theorem rowsText_succ (rows : List (List Int)) (i : Nat) (l : List Int) (h : rows[i]? = some l) : rowsText rows (i + 1) = rowsText rows i ++ rowText l (i + 1) := by
  unfold rowsText
  rw [List.range_succ, List.flatMap_append]; simp [h]
theorem bodyTo_succ (ls : List (List (List Int))) (k : Nat) (rows : List (List Int)) (h : ls[k]? = some rows) : bodyTo ls (k + 1) = bodyTo ls k ++ lineOf rows := by
  obtain ⟨h1, rfl⟩ := List.getElem?_eq_some_iff.1 h
  unfold bodyTo
  rw [List.take_succ_eq_append_getElem h1, List.flatMap_append, ← List.append_assoc]; simp
theorem firstBad_ok {ls : List (List (List Int))} (h : ∀ (i : Nat) (rows : List (List Int)), ls[i]? = some rows → chk rows = 0) : firstBad ls = 0 := by
  induction ls with
  | nil => rfl
  | cons r ls ih =>
    rw [firstBad, if_pos (h 0 r rfl)]
    exact ih fun i rows hi => h (i + 1) rows hi
theorem firstBad_at {ls : List (List (List Int))} {k : Nat} {rows : List (List Int)} (hk : ls[k]? = some rows) (hb : ∀ (i : Nat) (r : List (List Int)), i < k → ls[i]? = some r → chk r = 0) (hc : chk rows ≠ 0) : firstBad ls = chk rows := by
  induction ls generalizing k with
  | nil => simp at hk
  | cons r ls ih =>
    cases k with
    | zero =>
      simp at hk; subst hk
      rw [firstBad, if_neg hc]
    | succ k =>
      rw [firstBad, if_pos (hb 0 r (by omega) rfl)]
      exact ih hk fun i r' hi hr => hb (i + 1) r' (by omega) hr
/-- What a list of rows is that Check lets in. -/
theorem chk_ok {rows : List (List Int)} (h : chk rows = 0) : 1 ≤ rows.length ∧ rows.length ≤ 8 ∧ (∀ l ∈ rows, l.length = rows.length) ∧ eachB smallP rows = true ∧ eachB (mirrorB rows) rows = true ∧ posB rows.length (entry rows) = true := by
  unfold chk at h
  split at h
  · omega
  · split at h
    · omega
    · split at h
      · omega
      · split at h
        · omega
        · split at h
          · omega
          · rename_i h1 h2 h3 h4 h5
            refine ⟨by omega, by omega, fun l hl => ?_, by simpa using h3, by simpa using h4, by simpa using h5⟩
            rcases Nat.decEq l.length rows.length with h | h
            · exact absurd ⟨l, hl, h⟩ h2
            · exact h

theorem rowText_len (l : List Int) (k : Nat) (hl : ∀ z ∈ l, -9223372036854775808 ≤ z ∧ z ≤ 9223372036854775807) : (rowText l k).length ≤ 22 * k := by
  induction k with
  | zero => simp [rowText]
  | succ k ih =>
    cases hx : l[k]? with
    | none =>
      have h1 := List.getElem?_eq_none_iff.1 hx
      have e : rowText l (k + 1) = rowText l k := by unfold rowText; rw [List.take_of_length_le (by omega), List.take_of_length_le (by omega)]
      rw [e]; omega
    | some x =>
      rw [rowText_succ l k x hx, List.length_append, List.length_cons]
      obtain ⟨q, rfl⟩ := List.getElem?_eq_some_iff.1 hx
      have := Lib.itoa_length_le l[k] (hl _ (List.getElem_mem q)).1 (hl _ (List.getElem_mem q)).2
      omega
theorem rowsText_len (rows : List (List Int)) (i : Nat) (hf : Fit64 rows) (hi : i ≤ 8) : (rowsText rows i).length ≤ 176 * i := by
  induction i with
  | zero => simp [rowsText]
  | succ i ih =>
    have ih := ih (by omega)
    cases hx : rows[i]? with
    | none =>
      have e : rowsText rows (i + 1) = rowsText rows i := by
        unfold rowsText
        rw [List.range_succ, List.flatMap_append]; simp [hx, rowText]
      rw [e]; omega
    | some l =>
      rw [rowsText_succ rows i l hx, List.length_append]
      have := rowText_len l (i + 1) (hf.row hx).2
      omega

theorem hex16_len {u : Nat} (h : u < 18446744073709551616) : (hex16 u).length = 16 := by
  unfold hex16
  have := hexN_len u h
  simp only [List.length_append, List.length_replicate]; omega

theorem itoa_pos (n : Int) : 1 ≤ (Lib.itoa n).length := by
  unfold Lib.itoa
  split
  · simp
  · rw [Lib.decDigits_length]; exact Lib.nDigits_pos _

/-- What the program's variables hold. -/
structure Vars (w : World) : Prop where
  pow : Lib.TabIs Tryz.prog w "internal/strconv.uint64pow10" .u64 Lib.pow10Tab
  deb : Lib.TabIs Tryz.prog w "math/bits.deBruijn64tab" .u8 deb64
  syn : ∃ tp p, w.var? Tryz.prog "strconv.ErrSyntax" = some #[.iface tp p]
  rng : ∃ tp p, w.var? Tryz.prog "strconv.ErrRange" = some #[.iface tp p]
  ety : w.cell? ⟨0, 0, none⟩ = some (.iface 86 (.agg #[.pointer (some ⟨7, 32, none⟩)]))
theorem Vars.ext {w w' : World} (h : Vars w) (hx : Ext w w') : Vars w' :=
  ⟨tabIs_ext h.pow hx, tabIs_ext h.deb hx, let ⟨tp, p, e⟩ := h.syn; ⟨tp, p, var_ext e hx⟩, let ⟨tp, p, e⟩ := h.rng; ⟨tp, p, var_ext e hx⟩, hx.cell h.ety⟩
theorem Vars.below {w : World} (h : Vars w) : Lib.TabBelow Tryz.prog w.heap.size w "internal/strconv.uint64pow10" .u64 Lib.pow10Tab := fun w' hb => tabIs_ext h.pow hb

theorem own_ext {w w' : World} {base : Nat} {e : TypeId} {size n : Nat} {v : Value} {xs : List Value} (h : w.ownsRow base e size v n xs) (hx : Ext w w') : w'.ownsRow base e size v n xs :=
  h.kept (row := none) ⟨Below.os hx, Below.tape hx, Below.output hx, Below.size hx, fun k hk _ => Below.block hx k hk⟩ (by cases v.ownBlock <;> simp)

theorem Tryz.infoU8 : (Tryz.prog.info? 5).map (fun i => (i.zero, i.size, i.bytes)) = some (some (.int .u8 0), 1, 1) := by kernel_rfl

theorem Itoa_any (n : Int) (w : World) (h0 : -9223372036854775808 ≤ n) (h1 : n ≤ 9223372036854775807) (hv : Vars w) :
    Calls Tryz.prog 14 #[.int .i64 n] w fun e w' => e = .returned (.string ⟨(Lib.itoa n).toArray⟩) ∧ Ext w w' :=
  (Tryz.strconv_Itoa n h0 h1 w hv.pow).mono fun e w' ⟨he, k, os, hw⟩ => ⟨he, by rw [hw]; exact Lib.below_grow w.heap.size w (Nat.le_refl _) k os⟩
theorem FormatInt_any (n : Int) (w : World) (h0 : -9223372036854775808 ≤ n) (h1 : n ≤ 9223372036854775807) (hv : Vars w) :
    Calls Tryz.prog 26 #[.int .i64 n, .int .i64 10] w fun e w' => e = .returned (.string ⟨(Lib.itoa n).toArray⟩) ∧ Ext w w' :=
  (Tryz.strconv_FormatInt_10 n h0 h1 w hv.pow).mono fun e w' ⟨he, k, os, hw⟩ => ⟨he, by rw [hw]; exact Lib.below_grow w.heap.size w (Nat.le_refl _) k os⟩
end Go.Proofs.YtiihnoelclnahaaGreatDoor
