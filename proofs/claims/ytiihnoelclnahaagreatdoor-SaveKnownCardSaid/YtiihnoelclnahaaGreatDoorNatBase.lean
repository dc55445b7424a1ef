/- Digits to the base 2^32 and how a number's digits lie in memory. Plain; it names no program. -/
import Derived.WalkKit
import Derived.Deep.Draws
namespace Go.Proofs.YtiihnoelclnahaaGreatDoor
open Go.RowKit

abbrev B32 : Nat := 4294967296

/-- The number that digits tell, the lowest first. -/
def ofD : List Nat → Nat
  | [] => 0
  | d :: ds => d + 4294967296 * ofD ds

/-- A number's digits, the lowest first, no nought at the end. -/
def digs (n : Nat) : List Nat := if h : n = 0 then [] else n % 4294967296 :: digs (n / 4294967296)
  termination_by n
  decreasing_by exact Nat.div_lt_self (Nat.pos_of_ne_zero h) (by omega)

theorem digs_zero : digs 0 = [] := by rw [digs]; simp
theorem digs_pos {n : Nat} (h : n ≠ 0) : digs n = n % 4294967296 :: digs (n / 4294967296) := by rw [digs]; simp [h]

theorem ofD_digs (n : Nat) : ofD (digs n) = n := by
  induction n using Nat.strongRecOn with
  | _ n ih =>
    by_cases h : n = 0
    · subst h; rw [digs_zero]; rfl
    · rw [digs_pos h, ofD, ih _ (Nat.div_lt_self (Nat.pos_of_ne_zero h) (by omega))]; omega

theorem digs_lt (n : Nat) : ∀ d ∈ digs n, d < 4294967296 := by
  induction n using Nat.strongRecOn with
  | _ n ih =>
    by_cases h : n = 0
    · subst h; rw [digs_zero]; simp
    · rw [digs_pos h]
      intro d hd
      rcases List.mem_cons.1 hd with rfl | hd
      · omega
      · exact ih _ (Nat.div_lt_self (Nat.pos_of_ne_zero h) (by omega)) d hd

theorem digs_last (n : Nat) (h : digs n ≠ []) : (digs n).getLast h ≠ 0 := by
  induction n using Nat.strongRecOn with
  | _ n ih =>
    by_cases h0 : n = 0
    · subst h0; exact absurd digs_zero h
    · have hlt := Nat.div_lt_self (Nat.pos_of_ne_zero h0) (k := 4294967296) (by omega)
      by_cases h1 : n / 4294967296 = 0
      · have e : digs n = [n % 4294967296] := by rw [digs_pos h0, h1, digs_zero]
        simp only [e, List.getLast_singleton]; omega
      · have hne : digs (n / 4294967296) ≠ [] := by rw [digs_pos h1]; simp
        have := ih _ hlt hne
        have e := digs_pos h0
        simp only [e, List.getLast_cons hne]; exact this

theorem digs_ofD (l : List Nat) (hl : ∀ d ∈ l, d < 4294967296) (hz : ∀ h : l ≠ [], l.getLast h ≠ 0) : digs (ofD l) = l := by
  induction l with
  | nil => exact digs_zero
  | cons d ds ih =>
    have hd : d < 4294967296 := hl d (by simp)
    have ih' := ih (fun x hx => hl x (by simp [hx]))
    by_cases he : ds = []
    · subst he
      have : d ≠ 0 := by simpa using hz (by simp)
      have e : ofD [d] = d := by simp [ofD]
      rw [e, digs_pos this, Nat.div_eq_of_lt hd, digs_zero, Nat.mod_eq_of_lt hd]
    · have hz' : ∀ h : ds ≠ [], ds.getLast h ≠ 0 := fun h => by have := hz (by simp); rwa [List.getLast_cons h] at this
      have ih2 := ih' hz'
      have hp : ofD ds ≠ 0 := by intro h0; rw [h0, digs_zero] at ih2; exact he ih2.symm
      have e : ofD (d :: ds) = d + 4294967296 * ofD ds := rfl
      rw [e, digs_pos (by omega), show (d + 4294967296 * ofD ds) % 4294967296 = d by omega, show (d + 4294967296 * ofD ds) / 4294967296 = ofD ds by omega, ih2]

theorem ofD_append (a b : List Nat) : ofD (a ++ b) = ofD a + 4294967296 ^ a.length * ofD b := by
  induction a with
  | nil => simp [ofD]
  | cons d ds ih => simp only [List.cons_append, ofD, ih, List.length_cons, Nat.pow_succ, Nat.mul_add]; rw [Nat.mul_comm (4294967296 ^ ds.length) 4294967296, Nat.mul_assoc]; omega

theorem ofD_lt (l : List Nat) (hl : ∀ d ∈ l, d < 4294967296) : ofD l < 4294967296 ^ l.length := by
  induction l with
  | nil => simp [ofD]
  | cons d ds ih =>
    have hd : d < 4294967296 := hl d (by simp)
    have := ih (fun x hx => hl x (by simp [hx]))
    simp only [ofD, List.length_cons, Nat.pow_succ]
    have h2 : 4294967296 * (ofD ds + 1) ≤ 4294967296 * 4294967296 ^ ds.length := Nat.mul_le_mul_left _ this
    rw [Nat.mul_comm (4294967296 ^ ds.length)]
    omega

theorem ofD_replicate_zero (n : Nat) : ofD (List.replicate n 0) = 0 := by
  induction n with
  | zero => rfl
  | succ n ih => simp [List.replicate_succ, ofD, ih]

/-- How many digits: below B^k just if at most k. -/
theorem digs_length_le (n k : Nat) : (digs n).length ≤ k ↔ n < 4294967296 ^ k := by
  induction k generalizing n with
  | zero =>
    constructor
    · intro h
      have : digs n = [] := List.eq_nil_of_length_eq_zero (by omega)
      have h2 := ofD_digs n
      rw [this] at h2
      simp [ofD] at h2; omega
    · intro h
      have : n = 0 := by simpa using h
      subst this; rw [digs_zero]; simp
  | succ k ih =>
    by_cases h0 : n = 0
    · subst h0; rw [digs_zero]; simp [Nat.pow_pos]
    · rw [digs_pos h0, List.length_cons, Nat.add_le_add_iff_right, ih, Nat.pow_succ]
      constructor
      · intro h; have := Nat.lt_mul_of_div_lt h (by omega); exact this
      · intro h; exact Nat.div_lt_of_lt_mul (by rw [Nat.mul_comm]; exact h)

theorem digs_le (n : Nat) : n < 4294967296 ^ (digs n).length := (digs_length_le n _).1 (Nat.le_refl _)
theorem digs_ge {n k : Nat} (h : 4294967296 ^ k ≤ n) : k < (digs n).length := by
  rcases Nat.lt_or_ge k (digs n).length with h1 | h1
  · exact h1
  · have := (digs_length_le n k).1 h1; omega

/-- What is left of digits when the noughts at their end are struck. -/
def cutD : List Nat → List Nat
  | [] => []
  | d :: ds => match cutD ds with
    | [] => if d = 0 then [] else [d]
    | e :: es => d :: e :: es

/-- The digits' number from the place i on, at most `fuel` places. -/
theorem ofD_take_drop (l : List Nat) (k : Nat) (hk : k ≤ l.length) : ofD l = ofD (l.take k) + 4294967296 ^ k * ofD (l.drop k) := by
  have := ofD_append (l.take k) (l.drop k)
  rw [List.take_append_drop, List.length_take, Nat.min_eq_left hk] at this
  exact this

theorem ofD_snoc (l : List Nat) (d : Nat) : ofD (l ++ [d]) = ofD l + 4294967296 ^ l.length * d := by rw [ofD_append]; simp [ofD]

theorem ofD_take_succ (l : List Nat) (i : Nat) (hi : i < l.length) : ofD (l.take (i + 1)) = ofD (l.take i) + 4294967296 ^ i * l[i] := by
  have hl : (l.take i).length = i := by simp; omega
  rw [List.take_succ_eq_append_getElem hi, ofD_snoc, hl]

/-- Beyond the end: noughts. -/
theorem ofD_take_succ' (l : List Nat) (i : Nat) : ofD (l.take (i + 1)) = ofD (l.take i) + 4294967296 ^ i * (l[i]?).getD 0 := by
  rcases Nat.lt_or_ge i l.length with h | h
  · rw [ofD_take_succ l i h, List.getElem?_eq_getElem h, Option.getD_some]
  · rw [List.take_of_length_le (by omega), List.take_of_length_le (by omega), List.getElem?_eq_none h, Option.getD_none, Nat.mul_zero, Nat.add_zero]

theorem getD_lt {l : List Nat} (hl : ∀ d ∈ l, d < 4294967296) (i : Nat) : (l[i]?).getD 0 < 4294967296 := by
  cases hh : l[i]? with
  | none => simp
  | some z => obtain ⟨h1, rfl⟩ := List.getElem?_eq_some_iff.1 hh; exact hl _ (List.getElem_mem h1)

theorem ofD_zeros (l : List Nat) (h : ∀ d ∈ l, d = 0) : ofD l = 0 := by
  induction l with
  | nil => rfl
  | cons d ds ih => rw [ofD, ih (fun x hx => h x (by simp [hx])), h d (by simp)]

/-- THE CUT: where all digits from k on are noughts, and the one ahead is none: the first k are the number's digits. -/
theorem digs_take (l : List Nat) (k : Nat) (hk : k ≤ l.length) (hl : ∀ d ∈ l, d < 4294967296) (hz : ∀ j, k ≤ j → ∀ h : j < l.length, l[j] = 0) (hn : ∀ h : 0 < k, l[k-1]'(by omega) ≠ 0) :
    digs (ofD l) = l.take k := by
  have h1 : ofD (l.drop k) = 0 := ofD_zeros _ (by
    intro d hd
    obtain ⟨i, hi, rfl⟩ := List.getElem_of_mem hd
    rw [List.getElem_drop]
    exact hz _ (by omega) _)
  rw [ofD_take_drop l k hk, h1, Nat.mul_zero, Nat.add_zero]
  refine digs_ofD _ (fun d hd => hl d (List.mem_of_mem_take hd)) (fun h => ?_)
  rcases Nat.eq_zero_or_pos k with h0 | h0
  · subst h0; simp at h
  · rw [List.getLast_eq_getElem]
    simp only [List.length_take, List.getElem_take]
    have := hn h0
    simpa [Nat.min_eq_left hk] using this

/-! ### Memory -/
def u32 (d : Nat) : Value := .int .u32 (d : Int)

/-- Block b holds cells of the type t. -/
def TB (w : World) (t : TypeId) (b : Nat) : Prop := ∃ cs fr, w.heap[b]? = some (.cells cs t fr)
theorem TB.lt {w : World} {t : TypeId} {b : Nat} (h : TB w t b) : b < w.heap.size := by
  obtain ⟨cs, fr, h⟩ := h
  rcases Nat.lt_or_ge b w.heap.size with h1 | h1
  · exact h1
  · rw [Array.getElem?_eq_none h1] at h; cases h
theorem TB.of_eq {w w' : World} {t : TypeId} {b : Nat} (h : TB w t b) (e : w'.heap[b]? = w.heap[b]?) : TB w' t b := by
  obtain ⟨cs, fr, h⟩ := h; exact ⟨cs, fr, e.trans h⟩
theorem TB.set_ {w : World} {t : TypeId} {b : Nat} (h : TB w t b) (p : Addr) (u : Value) : TB (w.setCell p u) t b := by
  obtain ⟨cs, fr, h⟩ := h
  by_cases e : b = p.block
  · subst e
    unfold TB World.setCell
    simp only [Array.getElem?_modify, if_true, h, Option.map_some]
    exact ⟨_, _, rfl⟩
  · exact ⟨cs, fr, by rw [Below.heap_setCell _ _ _ _ e]; exact h⟩
theorem TB.ne {w : World} {t t' : TypeId} {b b' : Nat} (h : TB w t b) (h' : TB w t' b') (hne : t ≠ t') : b ≠ b' := by
  rintro rfl
  obtain ⟨cs, fr, h⟩ := h
  obtain ⟨cs', fr', h'⟩ := h'
  rw [h] at h'
  injection h' with h'
  injection h' with _ e
  exact hne e

/-- The cells from A on hold these digits. -/
def Digs (w : World) (A : Option Addr) (l : List Nat) : Prop :=
  0 < l.length → ∃ b off : Nat, A = some ⟨b, off, none⟩ ∧ TB w 145 b ∧ ∀ (j d : Nat), l[j]? = some d → w.cell? ⟨b, off + j, none⟩ = some (.int .u32 (d : Int))

/-- The slice of k cells at A holds the digits of n. (A Nat's value is '.agg #[.slice A k k]'.) -/
def IsNat (w : World) (A : Option Addr) (k n : Nat) : Prop := k = (digs n).length ∧ Digs w A (digs n)

theorem Digs.cell {w : World} {A : Option Addr} {l : List Nat} (h : Digs w A l) (k : Nat) (hk : k < l.length) :
    ∃ b off : Nat, A = some ⟨b, off, none⟩ ∧ b < w.heap.size ∧ w.cell? ⟨b, off + k, none⟩ = some (.int .u32 (l[k] : Int)) := by
  obtain ⟨b, off, e, hb, hc⟩ := h (by omega)
  exact ⟨b, off, e, hb.lt, hc k _ (List.getElem?_eq_getElem hk)⟩

theorem Digs.below {w w' : World} {A : Option Addr} {l : List Nat} (h : Digs w A l) (hb : Below w.heap.size w w') : Digs w' A l := by
  intro hl
  obtain ⟨b, off, e, hlt, hc⟩ := h hl
  exact ⟨b, off, e, hlt.of_eq (hb.block b hlt.lt), fun j d hj => (hb.cell (p := ⟨b, off + j, none⟩) hlt.lt).trans (hc j d hj)⟩

theorem Digs.set_ {w : World} {A : Option Addr} {l : List Nat} (h : Digs w A l) {b o : Nat} (u : Value) (hne : ∀ o', A ≠ some ⟨b, o', none⟩) : Digs (w.setCell ⟨b, o, none⟩ u) A l := by
  intro hl
  obtain ⟨b', off, e, hlt, hc⟩ := h hl
  refine ⟨b', off, e, hlt.set_ _ _, fun j d hj => ?_⟩
  rw [World.cell?_setCell_other _ _ _ _ (by intro he; injection he with h1 h2; subst h1; exact hne _ e)]
  exact hc j d hj

/-- A store of a slice value into a cell that held one turns no digits. -/
theorem Digs.setBox {w : World} {A : Option Addr} {l : List Nat} (h : Digs w A l) {b o : Nat} {a' : Option Addr} {n c : Nat} (hc : w.cell? ⟨b, o, none⟩ = some (.slice a' n c)) (u : Value) : Digs (w.setCell ⟨b, o, none⟩ u) A l := by
  intro hl
  obtain ⟨b', off, e, hlt, hd⟩ := h hl
  refine ⟨b', off, e, hlt.set_ _ _, fun j d hj => ?_⟩
  rw [World.cell?_setCell_other]
  · exact hd j d hj
  · intro he
    have := hd j d hj
    rw [← he, hc] at this
    cases this

theorem Digs.of_block {w : World} {b : Nat} {cs : Array Value} {fr : Nat × Nat} {l : List Nat} (h : w.heap[b]? = some (.cells cs 145 fr))
    (hc : ∀ (j d : Nat), l[j]? = some d → cs[j]? = some (.int .u32 (d : Int))) : Digs w (some ⟨b, 0, none⟩) l := by
  intro _
  refine ⟨b, 0, rfl, ⟨cs, fr, h⟩, fun j d hj => ?_⟩
  simp only [World.cell?, h, Nat.zero_add]
  exact hc j d hj

/-- Digits stay where the blocks of their type stay. -/
theorem Digs.typed {w w' : World} {A : Option Addr} {l : List Nat} (h : Digs w A l) (hk : ∀ b, TB w 145 b → w'.heap[b]? = w.heap[b]?) : Digs w' A l := by
  intro hl
  obtain ⟨b, off, e, hb, hc⟩ := h hl
  exact ⟨b, off, e, hb.of_eq (hk b hb), fun j d hj => by rw [← hc j d hj]; simp only [World.cell?, hk b hb]⟩

theorem heap_new (w : World) (o : Obj) : (w.alloc o).heap[w.heap.size]? = some o := by
  show (w.heap.push o)[w.heap.size]? = some o
  rw [Array.getElem?_push, if_pos rfl]

/-- All old cells and marks read as before. -/
theorem bcell {W w1 : World} (hb : Below W.heap.size W w1) : (∀ b o, b < W.heap.size → w1.cell? ⟨b, o, none⟩ = W.cell? ⟨b, o, none⟩) ∧ (∀ b o, b < W.heap.size → w1.frozen? ⟨b, o, none⟩ = W.frozen? ⟨b, o, none⟩) :=
  ⟨fun b o h => hb.cell (p := ⟨b, o, none⟩) h, fun b o h => hb.frozen (p := ⟨b, o, none⟩) h⟩

theorem lt_of_cell {w : World} {p : Addr} {u : Value} (h : w.cell? p = some u) : p.block < w.heap.size := by
  rcases Nat.lt_or_ge p.block w.heap.size with h1 | h1
  · exact h1
  · unfold World.cell? at h; rw [Array.getElem?_eq_none h1] at h; cases h

/-- An old cell, in the world behind a call. -/
theorem old {B : Nat} {W w1 : World} (hb : Below B W w1) {b o : Nat} {v : Value} (h : W.cell? ⟨b, o, none⟩ = some v) (hB : b < B) : w1.cell? ⟨b, o, none⟩ = some v := (hb.cell (p := ⟨b, o, none⟩) hB).trans h
theorem oldf {B : Nat} {W w1 : World} (hb : Below B W w1) {b o : Nat} (h : W.frozen? ⟨b, o, none⟩ = false) (hB : b < B) : w1.frozen? ⟨b, o, none⟩ = false := (hb.frozen (p := ⟨b, o, none⟩) hB).trans h
theorem setc {w : World} {b o : Nat} {u v : Value} (h : w.cell? ⟨b, o, none⟩ = some u) : (w.setCell ⟨b, o, none⟩ v).cell? ⟨b, o, none⟩ = some v := World.cell?_setCell_same' _ _ _ (by rw [h]; rfl)

theorem below_drewN {B : Nat} {a w : World} (h : Below B a w) (n : Nat) : Below B a (w.drewN n) := ⟨h.os, h.tape, h.output, h.size, h.block⟩
theorem ret_int {k : IntKind} {a b : Int} (h : a = b) : Ending.returned (.int k a) = .returned (.int k b) := by rw [h]

/-- All that lay in a lies in w as it lay. -/
def Ext (a w : World) : Prop := Below a.heap.size a w
theorem Ext.refl (w : World) : Ext w w := Below.refl _ _
theorem Ext.alloc {a w : World} (h : Ext a w) (o : Obj) : Ext a (w.alloc o) := Below.alloc h h.size o
theorem Ext.drewN {a w : World} (h : Ext a w) (n : Nat) : Ext a (w.drewN n) := below_drewN h n
theorem Ext.drew {a w : World} (h : Ext a w) : Ext a w.drew := Below.drew h
theorem Ext.trans {a b c : World} (h : Ext a b) (k : Ext b c) : Ext a c := Below.trans h (Below.mono k h.size)
theorem Ext.setCell {a w : World} (h : Ext a w) {p : Addr} (hp : a.heap.size ≤ p.block) (u : Value) : Ext a (w.setCell p u) := Below.setCell h hp u
theorem Ext.size {a w : World} (h : Ext a w) : a.heap.size ≤ w.heap.size := Below.size h
theorem Ext.cell {a w : World} (h : Ext a w) {b o : Nat} {v : Value} (hc : a.cell? ⟨b, o, none⟩ = some v) : w.cell? ⟨b, o, none⟩ = some v := old h hc (lt_of_cell hc)
theorem Ext.free {a w : World} (h : Ext a w) {b o : Nat} (hf : a.frozen? ⟨b, o, none⟩ = false) (hb : b < a.heap.size) : w.frozen? ⟨b, o, none⟩ = false := oldf h hf hb
theorem Ext.grown {a w w' : World} {row : Option Nat} (h : Ext a w) (hg : w.grownBy w' row) (hr : ∀ k, row = some k → a.heap.size ≤ k) : Ext a w' := Below.grown h hg h.size hr

/-- All that lay in a lies in w as it lay, but for the blocks of S. -/
structure ExtBut (S : Nat → Prop) (a w : World) : Prop where
  os : w.os = a.os
  tape : w.tape = a.tape
  output : w.output = a.output
  size : a.heap.size ≤ w.heap.size
  block : ∀ k, k < a.heap.size → ¬ S k → w.heap[k]? = a.heap[k]?
theorem ExtBut.refl (S : Nat → Prop) (w : World) : ExtBut S w w := ⟨rfl, rfl, rfl, Nat.le_refl _, fun _ _ _ => rfl⟩
theorem Ext.toBut {a w : World} (h : Ext a w) (S : Nat → Prop) : ExtBut S a w := ⟨Below.os h, Below.tape h, Below.output h, Below.size h, fun k hk _ => Below.block h k hk⟩
theorem ExtBut.trans {S : Nat → Prop} {a b c : World} (h : ExtBut S a b) (k : ExtBut S b c) : ExtBut S a c :=
  ⟨k.os.trans h.os, k.tape.trans h.tape, k.output.trans h.output, Nat.le_trans h.size k.size, fun i hi hs => (k.block i (Nat.lt_of_lt_of_le hi h.size) hs).trans (h.block i hi hs)⟩
theorem ExtBut.ext {S : Nat → Prop} {a b c : World} (h : ExtBut S a b) (k : Ext b c) : ExtBut S a c := h.trans (k.toBut S)
theorem ExtBut.alloc {S : Nat → Prop} {a w : World} (h : ExtBut S a w) (o : Obj) : ExtBut S a (w.alloc o) := h.ext ((Ext.refl w).alloc o)
theorem ExtBut.drewN {S : Nat → Prop} {a w : World} (h : ExtBut S a w) (n : Nat) : ExtBut S a (w.drewN n) := h.ext ((Ext.refl w).drewN n)
theorem ExtBut.drew {S : Nat → Prop} {a w : World} (h : ExtBut S a w) : ExtBut S a w.drew := h.ext (Ext.refl w).drew
theorem ExtBut.setCell {S : Nat → Prop} {a w : World} (h : ExtBut S a w) {p : Addr} (hp : S p.block ∨ a.heap.size ≤ p.block) (u : Value) : ExtBut S a (w.setCell p u) :=
  ⟨h.os, h.tape, h.output, by simpa [World.setCell] using h.size, fun k hk hs => (Below.heap_setCell w p u k (by
    rintro rfl
    rcases hp with hp | hp
    · exact hs hp
    · omega)).trans (h.block k hk hs)⟩
theorem ExtBut.mono {S T : Nat → Prop} {a w : World} (h : ExtBut S a w) (hST : ∀ g, S g → g < a.heap.size → T g) : ExtBut T a w :=
  ⟨h.os, h.tape, h.output, h.size, fun k hk hT => h.block k hk (fun hS => hT (hST k hS hk))⟩
theorem Ext.but {S : Nat → Prop} {a w w' : World} (h : Ext a w) (k : ExtBut S w w') (hS : ∀ g, S g → a.heap.size ≤ g) : Ext a w' :=
  ⟨k.os.trans (Below.os h), k.tape.trans (Below.tape h), k.output.trans (Below.output h), Nat.le_trans h.size k.size, fun i hi => (k.block i (Nat.lt_of_lt_of_le hi h.size) (fun hs => by have := hS i hs; omega)).trans (Below.block h i hi)⟩
theorem ExtBut.cell {S : Nat → Prop} {a w : World} (h : ExtBut S a w) {b o : Nat} {v : Value} (hc : a.cell? ⟨b, o, none⟩ = some v) (hb : ¬ S b) : w.cell? ⟨b, o, none⟩ = some v := by
  rw [← hc]; simp only [World.cell?, h.block b (lt_of_cell hc) hb]
theorem ExtBut.free {S : Nat → Prop} {a w : World} (h : ExtBut S a w) {b o : Nat} (hf : a.frozen? ⟨b, o, none⟩ = false) (hlt : b < a.heap.size) (hb : ¬ S b) : w.frozen? ⟨b, o, none⟩ = false := by
  rw [← hf]; simp only [World.frozen?, h.block b hlt hb]
theorem Digs.extBut {S : Nat → Prop} {w w' : World} {A : Option Addr} {l : List Nat} (h : Digs w A l) (hb : ExtBut S w w') (hS : ∀ g o, A = some ⟨g, o, none⟩ → ¬ S g) : Digs w' A l := by
  intro hl
  obtain ⟨b, off, e, hlt, hc⟩ := h hl
  exact ⟨b, off, e, hlt.of_eq (hb.block b hlt.lt (hS _ _ e)), fun j d hj => hb.cell (hc j d hj) (hS _ _ e)⟩

/-- Block g is a row of just these digits, none frozen. -/
def Row (w : World) (t : TypeId) (g : Nat) (l : List Nat) : Prop := w.heap[g]? = some (.cells (l.map fun d : Nat => Value.int .u32 (d : Int)).toArray t (0, 0))
theorem Row.lt {w : World} {t : TypeId} {g : Nat} {l : List Nat} (h : Row w t g l) : g < w.heap.size := by
  rcases Nat.lt_or_ge g w.heap.size with h1 | h1
  · exact h1
  · unfold Row at h; rw [Array.getElem?_eq_none h1] at h; cases h
theorem Row.cell {w : World} {t : TypeId} {g : Nat} {l : List Nat} (h : Row w t g l) {i d : Nat} (hi : l[i]? = some d) : w.cell? ⟨g, i, none⟩ = some (.int .u32 (d : Int)) := by
  unfold Row at h
  simp [World.cell?, h, hi]
theorem Row.free {w : World} {t : TypeId} {g : Nat} {l : List Nat} (h : Row w t g l) (i : Nat) : w.frozen? ⟨g, i, none⟩ = false := by
  unfold Row at h
  simp [World.frozen?, h]
theorem Row.set_ {w : World} {t : TypeId} {g : Nat} {l : List Nat} (h : Row w t g l) (i d : Nat) : Row (w.setCell ⟨g, i, none⟩ (.int .u32 (d : Int))) t g (l.set i d) := by
  unfold Row at h ⊢
  simp [World.setCell, Array.getElem?_modify, h, List.map_set]
theorem Row.extBut {S : Nat → Prop} {w w' : World} {t : TypeId} {g : Nat} {l : List Nat} (h : Row w t g l) (hb : ExtBut S w w') (hS : ¬ S g) : Row w' t g l := (hb.block g h.lt hS).trans h
theorem Row.ext {w w' : World} {t : TypeId} {g : Nat} {l : List Nat} (h : Row w t g l) (hb : Ext w w') : Row w' t g l := (Below.block hb g h.lt).trans h
theorem Row.drewN {w : World} {t : TypeId} {g : Nat} {l : List Nat} (h : Row w t g l) (n : Nat) : Row (w.drewN n) t g l := h
theorem Row.digs {w : World} {g : Nat} {l : List Nat} (h : Row w 145 g l) : Digs w (some ⟨g, 0, none⟩) l :=
  fun _ => ⟨g, 0, rfl, ⟨_, _, h⟩, fun j d hj => by rw [Nat.zero_add]; exact h.cell hj⟩
theorem Row.new (w : World) (t : TypeId) (l : List Nat) (cs : Array Value) (h : cs = (l.map fun d : Nat => Value.int .u32 (d : Int)).toArray) : Row (w.alloc (.cells cs t)) t w.heap.size l := by
  subst h
  show ((w.heap.push _)[w.heap.size]?) = _
  rw [Array.getElem?_push, if_pos rfl]

theorem Digs.nil (w : World) (A : Option Addr) : Digs w A [] := fun h => absurd h (by simp)

theorem isNat_zero (w : World) : IsNat w none 0 0 := by unfold IsNat; rw [digs_zero]; exact ⟨rfl, Digs.nil _ _⟩
theorem IsNat.ext {w w' : World} {A : Option Addr} {k n : Nat} (h : IsNat w A k n) (hb : Ext w w') : IsNat w' A k n := ⟨h.1, h.2.below hb⟩
theorem IsNat.alloc {w : World} {A : Option Addr} {k n : Nat} (h : IsNat w A k n) (o : Obj) : IsNat (w.alloc o) A k n := h.ext ((Ext.refl w).alloc o)
theorem IsNat.below {w w' : World} {A : Option Addr} {k n : Nat} (h : IsNat w A k n) (hb : Below w.heap.size w w') : IsNat w' A k n := ⟨h.1, h.2.below hb⟩
theorem IsNat.set_ {w : World} {A : Option Addr} {k n : Nat} (h : IsNat w A k n) {b o : Nat} (u : Value) (hne : ∀ o', A ≠ some ⟨b, o', none⟩) : IsNat (w.setCell ⟨b, o, none⟩ u) A k n := ⟨h.1, h.2.set_ u hne⟩
theorem IsNat.setBox {w : World} {A : Option Addr} {k n : Nat} (h : IsNat w A k n) {b o : Nat} {a' : Option Addr} {m c : Nat} (hc : w.cell? ⟨b, o, none⟩ = some (.slice a' m c)) (u : Value) : IsNat (w.setCell ⟨b, o, none⟩ u) A k n := ⟨h.1, h.2.setBox hc u⟩
theorem IsNat.cell {w : World} {A : Option Addr} {k n : Nat} (h : IsNat w A k n) (i : Nat) (hi : i < k) :
    ∃ b off d : Nat, A = some ⟨b, off, none⟩ ∧ b < w.heap.size ∧ (digs n)[i]? = some d ∧ d < 4294967296 ∧ w.cell? ⟨b, off + i, none⟩ = some (.int .u32 (d : Int)) := by
  have hi' : i < (digs n).length := by have := h.1; omega
  obtain ⟨b, off, e, hb, hc⟩ := h.2.cell i hi'
  exact ⟨b, off, _, e, hb, List.getElem?_eq_getElem hi', digs_lt n _ (List.getElem_mem hi'), hc⟩
theorem IsNat.k_zero {w : World} {A : Option Addr} {k n : Nat} (h : IsNat w A k n) : k = 0 ↔ n = 0 := by
  constructor
  · intro h0
    have : digs n = [] := List.eq_nil_of_length_eq_zero (by have := h.1; omega)
    have e := ofD_digs n
    rw [this] at e; simpa [ofD] using e.symm
  · intro h0; subst h0; have := h.1; rw [digs_zero] at this; exact this
end Go.Proofs.YtiihnoelclnahaaGreatDoor
