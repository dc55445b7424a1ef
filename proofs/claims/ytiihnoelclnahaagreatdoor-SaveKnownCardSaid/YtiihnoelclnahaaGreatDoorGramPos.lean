/- gram.positive: Bareiss's steps over a matrix in memory. -/
import Derived.Test.YtiihnoelclnahaaGreatDoorGramSq
import Derived.StillTailTactics
import Derived.Deep.RegionHeld3
namespace Go.Proofs.YtiihnoelclnahaaGreatDoor
open Go.RowKit
set_option linter.unusedVariables false

/-- The number that stands at i, k behind the step r. -/
def barNew (r : Nat) (last : Int) (m : Nat → Nat → Int) (i k : Nat) : Int := exactZ (fitZ (fitZ (m r r * m i k) - fitZ (m i r * m r k))) last
def barStep (n r : Nat) (last : Int) (m : Nat → Nat → Int) : Nat → Nat → Int := fun i k => if r < i ∧ i < n ∧ r < k ∧ k < n then barNew r last m i k else m i k
def barPos (n : Nat) : Nat → Nat → Int → (Nat → Nat → Int) → Bool
  | 0, _, _, _ => true
  | fuel + 1, r, last, m => if m r r ≤ 0 then false else barPos n fuel (r + 1) (m r r) (barStep n r last m)
def posB (n : Nat) (m : Nat → Nat → Int) : Bool := barPos n n 0 1 m

/-- The rows below i are stepped. -/
def rowsTo (n r i : Nat) (last : Int) (m : Nat → Nat → Int) : Nat → Nat → Int := fun a b => if r < a ∧ a < i ∧ r < b ∧ b < n then barNew r last m a b else m a b
/-- In row i those below k. -/
def colsTo (n r i k : Nat) (last : Int) (m : Nat → Nat → Int) : Nat → Nat → Int := fun a b => if a = i ∧ r < b ∧ b < k then barNew r last m a b else rowsTo n r i last m a b

theorem MatZ.ext {w w' : World} {lo g n : Nat} {h : Nat → Nat} {m : Nat → Nat → Int} (M : MatZ w lo g n h m) (hx : Ext w w') : MatZ w' lo g n h m :=
  ⟨fun i hi => hx.cell (M.rows i hi), fun i hi => (M.row i hi).ext hx, M.inj, M.low, M.glow, M.typ.of_eq (Below.block hx g M.typ.lt)⟩
theorem MatZ.congr {w : World} {lo g n : Nat} {h : Nat → Nat} {m m' : Nat → Nat → Int} (M : MatZ w lo g n h m) (e : ∀ i j, i < n → j < n → m i j = m' i j) : MatZ w lo g n h m' :=
  ⟨M.rows, fun i hi => (M.row i hi).congr fun j hj => e i j hi hj, M.inj, M.low, M.glow, M.typ⟩
theorem MatZ.ne {w : World} {lo g n : Nat} {h : Nat → Nat} {m : Nat → Nat → Int} (M : MatZ w lo g n h m) {i : Nat} (hi : i < n) : h i ≠ g := (M.row i hi).typ.ne M.typ (by decide)
/-- An entry is set. -/
theorem MatZ.set_ {w : World} {lo g n : Nat} {h : Nat → Nat} {m : Nat → Nat → Int} (M : MatZ w lo g n h m) {i j : Nat} (hi : i < n) (hj : j < n) {neg : Bool} {A : Option Addr} {k : Nat} {z : Int} (hz : IsInt w neg A k z) :
    MatZ (setInt w (h i) (j * 2) neg A k) lo g n h (fun a b => if a = i ∧ b = j then z else m a b) := by
  obtain ⟨neg0, A0, k0, g1, g2, _⟩ := (M.row i hi).cells j hj
  refine ⟨fun a ha => ?_, fun a ha => ?_, M.inj, M.low, M.glow, setInt_typ M.typ⟩
  · rw [setInt_other (fun e => absurd e.symm (M.ne hi))]; exact M.rows a ha
  · by_cases e : a = i
    · subst e
      exact ((M.row a ha).set_ hj hz).congr fun b hb => by by_cases e : b = j <;> simp [e]
    · exact ((M.row a ha).far (b := h i) (o := j * 2) (fun e' => e (M.inj _ _ ha hi e'.symm)) g1 g2).congr fun b hb => by simp [e]

theorem rowsTo_start (n r : Nat) (last : Int) (m : Nat → Nat → Int) : rowsTo n r (r + 1) last m = m := by
  funext a b; unfold rowsTo; rw [if_neg (by omega)]
theorem rowsTo_end (n r : Nat) (last : Int) (m : Nat → Nat → Int) : rowsTo n r n last m = barStep n r last m := by
  funext a b; unfold rowsTo barStep; rfl
theorem colsTo_start (n r i : Nat) (last : Int) (m : Nat → Nat → Int) : colsTo n r i (r + 1) last m = rowsTo n r i last m := by
  funext a b; unfold colsTo; rw [if_neg (by omega)]
theorem colsTo_end (n r i : Nat) (last : Int) (m : Nat → Nat → Int) (hr : r < i) (a b : Nat) (hb : b < n) : colsTo n r i n last m a b = rowsTo n r (i + 1) last m a b := by
  unfold colsTo rowsTo
  by_cases e : a = i
  · subst e
    by_cases h : r < b
    · rw [if_pos ⟨rfl, h, hb⟩, if_pos ⟨hr, by omega, h, hb⟩]
    · rw [if_neg (by omega), if_neg (by omega), if_neg (by omega)]
  · rw [if_neg (by omega)]
    by_cases h : r < a ∧ a < i ∧ r < b ∧ b < n
    · rw [if_pos h, if_pos (by omega)]
    · rw [if_neg h, if_neg (by omega)]
theorem colsTo_step (n r i k : Nat) (last : Int) (m : Nat → Nat → Int) (hk : r < k) (a b : Nat) : (if a = i ∧ b = k then barNew r last m i k else colsTo n r i k last m a b) = colsTo n r i (k + 1) last m a b := by
  unfold colsTo
  by_cases h : a = i ∧ b = k
  · rw [if_pos h, if_pos (by omega)]; rw [h.1, h.2]
  · rw [if_neg h]
    by_cases h2 : a = i ∧ r < b ∧ b < k
    · rw [if_pos h2, if_pos (by omega)]
    · rw [if_neg h2, if_neg (by omega)]
/-- What the step reads is as it was. -/
theorem colsTo_reads (n r i k : Nat) (last : Int) (m : Nat → Nat → Int) (hr : r < i) (hk : r < k) : colsTo n r i k last m r r = m r r ∧ colsTo n r i k last m i k = m i k ∧ colsTo n r i k last m i r = m i r ∧ colsTo n r i k last m r k = m r k := by
  unfold colsTo rowsTo
  refine ⟨?_, ?_, ?_, ?_⟩ <;> rw [if_neg (by omega), if_neg (by omega)]

/-- What holds at the head of a round. -/
structure PosInv (w0 wr : World) (lo n r g bl : Nat) (h : Nat → Nat) (last : Int) (m : Nat → Nat → Int) (R : Bool) : Prop where
  mat : MatZ wr lo g n h m
  box : MRow wr bl 1 (fun _ => last)
  ne : ∀ i, i < n → h i ≠ bl
  low : w0.heap.size ≤ bl
  ext : Ext w0 wr
  pos : barPos n (n - r) r last m = R

theorem newbox {w w4 : World} (hx : Ext (w.alloc (.cells #[.bool false, .slice none 0 0] 104)).drew w4) : w4.cell? ⟨w.heap.size, 0, none⟩ = some (.bool false) ∧ w4.cell? ⟨w.heap.size, 1, none⟩ = some (.slice none 0 0) ∧
    w4.frozen? ⟨w.heap.size, 0, none⟩ = false ∧ w4.frozen? ⟨w.heap.size, 1, none⟩ = false ∧ Hid (TB w4 104 w.heap.size ∧ ∀ o, w4.frozen? ⟨w.heap.size, o, none⟩ = false) := by
  have hh : (w.alloc (.cells #[.bool false, .slice none 0 0] 104)).drew.heap[w.heap.size]? = some (.cells #[.bool false, .slice none 0 0] 104) := heap_new _ _
  have h0 : w.heap.size < (w.alloc (.cells #[.bool false, .slice none 0 0] 104)).drew.heap.size := by simp [World.drew]
  have e := Below.block hx w.heap.size h0
  have hh4 := e.trans hh
  refine ⟨by rw [cell_of_row _ _ _ _ _ _ hh4]; rfl, by rw [cell_of_row _ _ _ _ _ _ hh4]; rfl, by simp only [World.frozen?, hh4]; rfl, by simp only [World.frozen?, hh4]; rfl, ⟨⟨_, _, hh4⟩, fun o => by simp only [World.frozen?, hh4]; rfl⟩⟩

theorem MRow.new1 {w : World} {nx : Bool} {Ax : Option Addr} {kx : Nat} {z : Int} (hi : IsInt w nx Ax kx z) : MRow (w.alloc (.cells #[.bool nx, .slice Ax kx kx] 104)) w.heap.size 1 (fun _ => z) := by
  have hh := heap_new w (.cells #[.bool nx, .slice Ax kx kx] 104)
  refine ⟨fun j hj => ?_, fun o => by simp only [World.frozen?, hh]; rfl, ⟨_, _, hh⟩⟩
  obtain rfl : j = 0 := by omega
  exact ⟨nx, Ax, kx, by rw [cell_of_row _ _ _ _ _ _ hh]; rfl, by rw [cell_of_row _ _ _ _ _ _ hh]; rfl, hi.ext ((Ext.refl w).alloc _)⟩
theorem MRow.put1 {w : World} {b : Nat} {nx n0 : Bool} {Ax A0 : Option Addr} {kx k0 m0 : Nat} {z : Int} (hi : IsInt w nx Ax kx z) (d1 : w.cell? ⟨b, 0, none⟩ = some (.bool n0)) (d2 : w.cell? ⟨b, 1, none⟩ = some (.slice A0 k0 m0)) (d5 : Hid (TB w 104 b ∧ ∀ o, w.frozen? ⟨b, o, none⟩ = false)) :
    MRow ((w.setCell ⟨b, 0, none⟩ (.bool nx)).setCell ⟨b, 1, none⟩ (.slice Ax kx kx)) b 1 (fun _ => z) := by
  have hs := setInt_same (neg := nx) (A := Ax) (k := kx) d1 d2
  refine ⟨fun j hj => ?_, fun o => ?_, (d5.out.1.set_ _ _).set_ _ _⟩
  · obtain rfl : j = 0 := by omega
    exact ⟨nx, Ax, kx, hs.1, hs.2, setInt_isInt d1 d2 hi⟩
  · rw [World.frozen?_setCell, World.frozen?_setCell]; exact d5.out.2 o
/-- The cells of a box. -/
theorem MRow.one {w : World} {b : Nat} {z : Int} (h : MRow w b 1 (fun _ => z)) : ∃ neg A k, w.cell? ⟨b, 0, none⟩ = some (.bool neg) ∧ w.cell? ⟨b, 1, none⟩ = some (.slice A k k) ∧ IsInt w neg A k z := h.cells 0 (by omega)
end Go.Proofs.YtiihnoelclnahaaGreatDoor
