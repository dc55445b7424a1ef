/- gram.square over zint.Int, at gram.positive's closure. -/
import Derived.Test.YtiihnoelclnahaaGreatDoorGramEach
import Derived.Laws.OwnMore
namespace Go.Proofs.YtiihnoelclnahaaGreatDoor
set_option linter.unusedSimpArgs false
open Go.RowKit
set_option linter.unusedVariables false

/-- The entry of a list of rows. -/
def entry (rows : List (List Int)) (i j : Nat) : Int := (((rows[i]?).getD [])[j]?).getD 0

theorem entry_at (A : Option Addr) (n c : Nat) (rows : List (List Int)) (bx i j : Nat) (w : World) (hn : n = rows.length) (hn8 : n ≤ 100) (hc : w.cell? ⟨bx, 0, none⟩ = some (.slice A n c)) (hr : IsRows w A rows) (hf : Fit64 rows)
    (hsq : ∀ l ∈ rows, l.length = n) (hi : i < n) (hj : j < n) :
    Calls Tryz.prog 49 #[.int .i64 i, .int .i64 j, .pointer (some ⟨bx, 0, none⟩)] w fun e w' => ∃ n A k, e = .returned (.agg #[.bool n, .slice A k k]) ∧ IsInt w' n A k (entry rows i j) ∧ Ext w w' := by
  obtain ⟨l, hl⟩ : ∃ l, rows[i]? = some l := ⟨_, List.getElem?_eq_getElem (by omega)⟩
  have hll : l.length = n := by obtain ⟨h1, rfl⟩ := List.getElem?_eq_some_iff.1 hl; exact hsq _ (List.getElem_mem h1)
  obtain ⟨z, hz⟩ : ∃ z, l[j]? = some z := ⟨_, List.getElem?_eq_getElem (by omega)⟩
  obtain ⟨z0, z1⟩ := hf.at_ hl hz
  have HE : Hid (entry rows i j = z) := by unfold entry Hid; rw [hl, Option.getD_some, hz, Option.getD_some]
  obtain ⟨b, off, R, c', rfl, hb, h1, h2, h3⟩ := hr.at_ hl
  obtain ⟨b2, off2, rfl, hb2, h4⟩ := h3.at_ hz
  rw [hll] at h1 h2
  have h6 := lt_of_cell hc
  obtain ⟨W0, hWW0⟩ : ∃ W0 : World, w.alloc (.cells #[.bool false, .slice none 0 0] 104) = W0 := ⟨_, rfl⟩
  have hXW0 : Ext w W0 := by rw [← hWW0]; exact ((Ext.refl w).alloc _)
  have hsW0 : w.heap.size + 1 ≤ W0.heap.size := by rw [← hWW0]; simp only [World.size_alloc]; omega
  have c0a : W0.cell? ⟨w.heap.size, 0, none⟩ = some (.bool false) := by rw [← hWW0]; simp [go_sem]
  have f0a : W0.frozen? ⟨w.heap.size, 0, none⟩ = false := by rw [← hWW0]; simp [go_sem]
  have c0b : W0.cell? ⟨w.heap.size, 1, none⟩ = some (.slice none 0 0) := by rw [← hWW0]; simp [go_sem]
  have f0b : W0.frozen? ⟨w.heap.size, 1, none⟩ = false := by rw [← hWW0]; simp [go_sem]
  have HWW0 := Lib.hid hWW0
  clear hWW0
  have HX := Lib.hid hXW0
  have HO := Lib.hid (zOf_any z W0 z0 z1)
  clear hr hf hsq hn hl hz hll h3 hXW0
  rw [HE.out]
  go_enter Tryz.func49, Tryz.ntmps49
  go_wp2_with (fail)
  rw [HWW0.out]
  refine HO.out.mono ?_
  rintro e w1 ⟨ng, A, k, rfl, hi', hx⟩
  replace f0a := hx.free f0a (lt_of_cell c0a)
  replace c0a := hx.cell c0a
  replace f0b := hx.free f0b (lt_of_cell c0b)
  replace c0b := hx.cell c0b
  have hX := Lib.hid (HX.out.trans hx)
  have HI := Lib.hid hi'
  clear hx hi' HWW0 HO HX h1 h4 hc
  go_wp2
  obtain ⟨W2, hWW2⟩ : ∃ W2 : World, (w1.setCell ⟨w.heap.size, 0, none⟩ (.bool ng)).setCell ⟨w.heap.size, 1, none⟩ (.slice A k k) = W2 := ⟨_, rfl⟩
  have z0a : W2.cell? ⟨w.heap.size, 0, none⟩ = some (.bool ng) := by rw [← hWW2]; simp [go_sem, c0a, c0b]
  have zf0a : W2.frozen? ⟨w.heap.size, 0, none⟩ = false := by rw [← hWW2]; simp [go_sem, f0a, f0b]
  have z0b : W2.cell? ⟨w.heap.size, 1, none⟩ = some (.slice A k k) := by rw [← hWW2]; simp [go_sem, c0a, c0b]
  have zf0b : W2.frozen? ⟨w.heap.size, 1, none⟩ = false := by rw [← hWW2]; simp [go_sem, f0a, f0b]
  have znW2 : ∀ (A : Option Addr) (k n : Nat), IsNat w1 A k n → IsNat W2 A k n := by intro A k n h; rw [← hWW2]; exact ((h.setBool c0a _).setBox (by rw [World.cell?_setCell_other _ _ _ _ (by intro h; injection h with h1 h2; omega)]; exact c0b) _)
  have zxW2 : ∀ a : World, Ext a w1 → a.heap.size ≤ w.heap.size → Ext a W2 := by intro a h hs; rw [← hWW2]; exact (by repeat (first | exact h | refine Ext.drew ?_ | refine Ext.drewN ?_ _ | refine Ext.setCell ?_ (by first | exact Nat.le_refl _ | (simp only []; omega)) _ | refine Ext.alloc ?_ _))
  have HWW2 := Lib.hid hWW2
  clear hWW2
  rw [HWW2.out]
  exact bodyPost_ret (v := .agg #[.bool ng, .slice A k k]) (by simp [results, Tryz.results49, go_sem, z0a, z0b]) rfl ⟨ng, A, k, rfl, ⟨znW2 _ _ _ HI.out.nat, HI.out.sign, HI.out.bits⟩, zxW2 w hX.out (Nat.le_refl _)⟩

/-- A block of n whole numbers. -/
structure MRow (w : World) (h n : Nat) (f : Nat → Int) : Prop where
  cells : ∀ j, j < n → ∃ neg A k, w.cell? ⟨h, j * 2, none⟩ = some (.bool neg) ∧ w.cell? ⟨h, j * 2 + 1, none⟩ = some (.slice A k k) ∧ IsInt w neg A k (f j)
  free : ∀ o, w.frozen? ⟨h, o, none⟩ = false
  typ : TB w 104 h
theorem MRow.lt {w : World} {h n : Nat} {f : Nat → Int} (r : MRow w h n f) : h < w.heap.size := r.typ.lt

theorem MRow.ext {w w' : World} {h n : Nat} {f : Nat → Int} (r : MRow w h n f) (hb : Ext w w') : MRow w' h n f := by
  refine ⟨fun j hj => ?_, fun o => hb.free (r.free o) r.lt, r.typ.of_eq (hb.block h r.lt)⟩
  obtain ⟨neg, A, k, h1, h2, h3⟩ := r.cells j hj
  exact ⟨neg, A, k, hb.cell h1, hb.cell h2, h3.ext hb⟩
theorem MRow.congr {w : World} {h n : Nat} {f g : Nat → Int} (r : MRow w h n f) (e : ∀ j, j < n → f j = g j) : MRow w h n g := by
  refine ⟨fun j hj => ?_, r.free, r.typ⟩
  rw [← e j hj]; exact r.cells j hj

/-- Two cells of a block are set to a number. -/
def setInt (w : World) (h o : Nat) (neg : Bool) (A : Option Addr) (k : Nat) : World := (w.setCell ⟨h, o, none⟩ (.bool neg)).setCell ⟨h, o + 1, none⟩ (.slice A k k)

theorem setInt_isInt {w : World} {h o : Nat} {neg neg0 : Bool} {A A0 : Option Addr} {k k0 m0 : Nat} {ng : Bool} {B : Option Addr} {m : Nat} {z : Int} (h1 : w.cell? ⟨h, o, none⟩ = some (.bool neg0)) (h2 : w.cell? ⟨h, o + 1, none⟩ = some (.slice A0 k0 m0)) (hi : IsInt w ng B m z) :
    IsInt (setInt w h o neg A k) ng B m z := by
  unfold setInt
  refine (hi.setBool h1 _).setBox (a' := A0) (m := k0) (c := m0) ?_ _
  rw [World.cell?_setCell_other _ _ _ _ (by intro e; injection e with e1 e2; omega)]; exact h2
theorem setInt_same {w : World} {h o : Nat} {neg neg0 : Bool} {A A0 : Option Addr} {k k0 m0 : Nat} (h1 : w.cell? ⟨h, o, none⟩ = some (.bool neg0)) (h2 : w.cell? ⟨h, o + 1, none⟩ = some (.slice A0 k0 m0)) :
    (setInt w h o neg A k).cell? ⟨h, o, none⟩ = some (.bool neg) ∧ (setInt w h o neg A k).cell? ⟨h, o + 1, none⟩ = some (.slice A k k) := by
  unfold setInt
  refine ⟨?_, ?_⟩
  · rw [World.cell?_setCell_other _ _ _ _ (by intro e; injection e with e1 e2; omega)]; exact setc h1
  · refine setc (u := .slice A0 k0 m0) ?_
    rw [World.cell?_setCell_other _ _ _ _ (by intro e; injection e with e1 e2; omega)]; exact h2
theorem setInt_other {w : World} {h o : Nat} {neg : Bool} {A : Option Addr} {k : Nat} {b o' : Nat} (hne : b = h → o' ≠ o ∧ o' ≠ o + 1) : (setInt w h o neg A k).cell? ⟨b, o', none⟩ = w.cell? ⟨b, o', none⟩ := by
  unfold setInt
  rw [World.cell?_setCell_other _ _ _ _ (by intro e; injection e with e1 e2; have := hne e1.symm; omega), World.cell?_setCell_other _ _ _ _ (by intro e; injection e with e1 e2; have := hne e1.symm; omega)]
theorem setInt_frozen {w : World} {h o : Nat} {neg : Bool} {A : Option Addr} {k : Nat} {p : Addr} : (setInt w h o neg A k).frozen? p = w.frozen? p := by
  unfold setInt; rw [World.frozen?_setCell, World.frozen?_setCell]
theorem setInt_size {w : World} {h o : Nat} {neg : Bool} {A : Option Addr} {k : Nat} : (setInt w h o neg A k).heap.size = w.heap.size := by
  unfold setInt; simp [World.setCell]
theorem setInt_typ {w : World} {h o : Nat} {neg : Bool} {A : Option Addr} {k : Nat} {t : TypeId} {b : Nat} (ht : TB w t b) : TB (setInt w h o neg A k) t b := by
  unfold setInt; exact (ht.set_ _ _).set_ _ _
theorem setInt_ext {a w : World} {h o : Nat} {neg : Bool} {A : Option Addr} {k : Nat} (hx : Ext a w) (hh : a.heap.size ≤ h) : Ext a (setInt w h o neg A k) := by
  unfold setInt; exact (hx.setCell (p := ⟨h, o, none⟩) hh _).setCell (p := ⟨h, o + 1, none⟩) hh _

theorem MRow.set_ {w : World} {h n : Nat} {f : Nat → Int} (r : MRow w h n f) {j : Nat} (hj : j < n) {neg : Bool} {A : Option Addr} {k : Nat} {z : Int} (hz : IsInt w neg A k z) :
    MRow (setInt w h (j * 2) neg A k) h n (fun i => if i = j then z else f i) := by
  obtain ⟨neg0, A0, k0, g1, g2, _⟩ := r.cells j hj
  refine ⟨fun i hi => ?_, fun o => by rw [setInt_frozen]; exact r.free o, setInt_typ r.typ⟩
  by_cases e : i = j
  · subst e
    rw [if_pos rfl]
    have hs := setInt_same (neg := neg) (A := A) (k := k) g1 g2
    exact ⟨neg, A, k, hs.1, hs.2, setInt_isInt g1 g2 hz⟩
  · rw [if_neg e]
    obtain ⟨neg1, A1, k1, h1, h2, h3⟩ := r.cells i hi
    exact ⟨neg1, A1, k1, by rw [setInt_other (fun _ => by omega)]; exact h1, by rw [setInt_other (fun _ => by omega)]; exact h2, setInt_isInt g1 g2 h3⟩
/-- A store into another block. -/
theorem MRow.far {w : World} {h n : Nat} {f : Nat → Int} (r : MRow w h n f) {b o : Nat} (hb : b ≠ h) {neg0 : Bool} {A0 : Option Addr} {k0 m0 : Nat} {neg : Bool} {A : Option Addr} {k : Nat}
    (h1 : w.cell? ⟨b, o, none⟩ = some (.bool neg0)) (h2 : w.cell? ⟨b, o + 1, none⟩ = some (.slice A0 k0 m0)) : MRow (setInt w b o neg A k) h n f := by
  refine ⟨fun i hi => ?_, fun o => by rw [setInt_frozen]; exact r.free o, setInt_typ r.typ⟩
  obtain ⟨neg1, A1, k1, g1, g2, g3⟩ := r.cells i hi
  exact ⟨neg1, A1, k1, by rw [setInt_other (fun e => absurd e.symm hb)]; exact g1, by rw [setInt_other (fun e => absurd e.symm hb)]; exact g2, setInt_isInt h1 h2 g3⟩

theorem Tryz.infoZ : (Tryz.prog.info? 104).map (fun i => (i.zero, i.size, i.bytes)) = some (some (.agg #[.bool false, .slice none 0 0]), 2, 32) := by kernel_rfl

theorem make_ints (m : Int) (n : Nat) (h : m = n) (hn : n ≤ 100000) (w : World) :
    ∃ cs, (Instr.makeSlice 107 (.int .i64 m) (.int .i64 m)).run Tryz.prog w = .ok (.slice (some ⟨w.heap.size, 0, none⟩) n n) (w.alloc (.cells cs 104)) ∧ MRow (w.alloc (.cells cs 104)) w.heap.size n (fun _ => 0) := by
  subst h
  obtain ⟨i0, hi, hz0, hz1, hz2⟩ := info_parts Tryz.infoZ
  have hr := run_make (P := Tryz.prog) w 107 104 i0 _ Tryz.underlying107 hi hz0 .i64 .i64 n n (by omega) (by omega) (by rw [hz2]; omega) (by omega)
  simp only [Int.toNat_natCast] at hr
  have hcells : ∀ o, o < n * 2 → (madeCells (Value.agg #[.bool false, .slice none 0 0]).cells (n * i0.size))[o]? = some (if o % 2 = 0 then Value.bool false else .slice none 0 0) := by
    intro o ho
    rw [hz1]
    unfold madeCells
    rw [Array.getElem?_map, Array.getElem?_range, if_pos ho]
    rcases Nat.mod_two_eq_zero_or_one o with e | e <;> simp [Value.cells, e]
  have hh := fun cs => heap_new w (.cells cs 104)
  refine ⟨_, hr, ⟨fun j hj => ⟨false, none, 0, ?_, ?_, isInt_zero _⟩, fun o => by simp only [World.frozen?, hh]; rfl, ⟨_, _, hh _⟩⟩⟩
  · rw [cell_of_row _ _ _ _ _ _ (hh _), hcells (j * 2) (by omega), if_pos (by omega)]
  · rw [cell_of_row _ _ _ _ _ _ (hh _), hcells (j * 2 + 1) (by omega), if_neg (by omega)]

theorem IsNat.typed {w w' : World} {A : Option Addr} {k n : Nat} (h : IsNat w A k n) (hk : ∀ b, TB w 145 b → w'.heap[b]? = w.heap[b]?) : IsNat w' A k n := ⟨h.1, h.2.typed hk⟩
theorem IsInt.typed {w w' : World} {neg : Bool} {A : Option Addr} {k : Nat} {z : Int} (h : IsInt w neg A k z) (hk : ∀ b, TB w 145 b → w'.heap[b]? = w.heap[b]?) : IsInt w' neg A k z := ⟨h.nat.typed hk, h.sign, h.bits⟩
theorem cell_eq {w w' : World} {b : Nat} (e : w'.heap[b]? = w.heap[b]?) (o : Nat) : w'.cell? ⟨b, o, none⟩ = w.cell? ⟨b, o, none⟩ := by simp only [World.cell?, e]
theorem frozen_eq {w w' : World} {b : Nat} (e : w'.heap[b]? = w.heap[b]?) (o : Nat) : w'.frozen? ⟨b, o, none⟩ = w.frozen? ⟨b, o, none⟩ := by simp only [World.frozen?, e]
/-- A row stays where its block stays, and the blocks of digits. -/
theorem MRow.typed {w w' : World} {h n : Nat} {f : Nat → Int} (r : MRow w h n f) (e : w'.heap[h]? = w.heap[h]?) (hk : ∀ b, TB w 145 b → w'.heap[b]? = w.heap[b]?) : MRow w' h n f := by
  refine ⟨fun j hj => ?_, fun o => by rw [frozen_eq e]; exact r.free o, r.typ.of_eq e⟩
  obtain ⟨neg, A, k, h1, h2, h3⟩ := r.cells j hj
  exact ⟨neg, A, k, by rw [cell_eq e]; exact h1, by rw [cell_eq e]; exact h2, h3.typed hk⟩
theorem MRow.but {w w' : World} {h n g : Nat} {f : Nat → Int} (r : MRow w h n f) (hx : ExtBut (fun x => x = g) w w') (hg : h ≠ g) (ht : TB w 104 g) : MRow w' h n f :=
  r.typed (hx.block h r.lt hg) fun b hb => hx.block b hb.lt (hb.ne ht (by decide))

/-- The rows of a square matrix: g holds the n slices; row i lies in the block h i. -/
structure MatZ (w : World) (lo g n : Nat) (h : Nat → Nat) (m : Nat → Nat → Int) : Prop where
  rows : ∀ i, i < n → w.cell? ⟨g, i, none⟩ = some (.slice (some ⟨h i, 0, none⟩) n n)
  row : ∀ i, i < n → MRow w (h i) n (m i)
  inj : ∀ i j, i < n → j < n → h i = h j → i = j
  low : ∀ i, i < n → lo ≤ h i
  glow : lo ≤ g
  typ : TB w 107 g

theorem Tryz.infoZs : (Tryz.prog.info? 107).map (fun i => (i.zero, i.size, i.bytes)) = some (some (.slice none 0 0), 1, 24) := by kernel_rfl

/-- The loop's state: i rows are laid. -/
structure SqInv (w0 wr : World) (n i : Nat) (v : Value) (h : Nat → Nat) (m : Nat → Nat → Int) : Prop where
  own : wr.ownsRow w0.heap.size 107 1 v i ((List.range i).map fun j => Value.slice (some ⟨h j, 0, none⟩) n n)
  row : ∀ j, j < i → MRow wr (h j) n (m j)
  inj : ∀ j k, j < i → k < i → h j = h k → j = k
  low : ∀ j, j < i → w0.heap.size ≤ h j
  ext : Ext w0 wr

theorem ExtBut.grown {g : Nat} {a w : World} (h : ExtBut (fun x => x = g) a w) : a.grownBy w (some g) :=
  ⟨h.os, h.tape, h.output, h.size, fun k hk hne => h.block k hk (by intro e; exact hne (by rw [e]))⟩
theorem own_keep {w w' : World} {base : Nat} {t t' : TypeId} {v : Value} {n : Nat} {xs : List Value} {size : Nat} (ho : w.ownsRow base t size v n xs) (hg : w.grownBy w' v.ownBlock) {b : Nat} (hb : TB w t' b) (hne : t' ≠ t) : w'.heap[b]? = w.heap[b]? := by
  refine hg.block b hb.lt ?_
  rcases ho.2 with ⟨rfl, _⟩ | ⟨g, cap, cur, rfl, _, hh, _⟩
  · simp [Value.ownBlock]
  · simp only [Value.ownBlock]
    intro e
    injection e with e
    exact hb.ne ⟨_, _, hh⟩ hne e
theorem range_snoc (i : Nat) (f g : Nat → Value) (x : Value) (h : ∀ j, j < i → g j = f j) (hx : g i = x) : (List.range i).map f ++ [x] = (List.range (i + 1)).map g := by
  rw [List.range_succ, List.map_append]
  congr 1
  · exact List.map_congr_left fun j hj => (h j (List.mem_range.1 hj)).symm
  · simp [hx]

set_option maxHeartbeats 1000000 in
theorem square_any (A : Option Addr) (n c : Nat) (rows : List (List Int)) (bx : Nat) (w : World) (hn : n = rows.length) (hn1 : 1 ≤ n) (hn8 : n ≤ 100) (hc : w.cell? ⟨bx, 0, none⟩ = some (.slice A n c)) (hr : IsRows w A rows) (hf : Fit64 rows)
    (hsq : ∀ l ∈ rows, l.length = n) :
    Calls Tryz.prog 48 #[.int .i64 n, .func (.func 49) #[] #[.pointer (some ⟨bx, 0, none⟩)]] w fun e w' => ∃ g cap h, e = .returned (.slice (some ⟨g, 0, none⟩) n cap) ∧ n ≤ cap ∧ MatZ w' w.heap.size g n h (entry rows) ∧ Ext w w' := by
  have HEnt := Lib.hid (fun i j W (hi : i < n) (hj : j < n) (hX : Ext w W) => entry_at A n c rows bx i j W hn hn8 (hX.cell hc) (hr.ext hX) hf hsq hi hj)
  have hbx := lt_of_cell hc
  obtain ⟨i0, hi, hz0, hz1, hz2⟩ := info_parts Tryz.infoZs
  have HI0 := Lib.hid (show Tryz.prog.info? 107 = some i0 ∧ i0.zero = some (.slice none 0 0) ∧ i0.size = 1 ∧ i0.bytes = 24 from ⟨hi, hz0, hz1, hz2⟩)
  clear hn hc hr hf hsq hi hz0 hz1 hz2
  go_enter Tryz.func48, Tryz.ntmps48
  go_wp2
  go_loopg [5, 10] n (fun kk v iv wr => ∃ (i : Nat) (h : Nat → Nat), kk + i = n ∧ iv = .int .i64 i ∧ Hid (SqInv w wr n i v h (entry rows)))
  case atStart => exact ⟨0, fun _ => 0, by omega, rfl, ⟨World.ownsRow_nil _ _ _ _, fun j hj => by omega, fun j k hj => by omega, fun j hj => by omega, Ext.refl _⟩⟩
  case round =>
    obtain ⟨i, h, hki, rfl, HI⟩ := hrel
    by_cases hin : i < n
    · obtain ⟨cs, hmk, hrow⟩ := make_ints (n : Int) n rfl (by omega) wr
      have HMk := Lib.hid hrow
      clear hrow
      go_wp2
      obtain ⟨W1, hW1⟩ : ∃ W1, wr.alloc (.cells cs 104) = W1 := ⟨_, rfl⟩
      rw [hW1] at HMk
      rw [hW1]
      have hX1 : Ext wr W1 := by rw [← hW1]; exact (Ext.refl wr).alloc _
      have HX1 := Lib.hid hX1
      have HXw := Lib.hid (HI.out.ext.trans hX1)
      have hlo : w.heap.size ≤ wr.heap.size := HI.out.ext.size
      obtain ⟨hr, hhr⟩ : ∃ hr, wr.heap.size = hr := ⟨_, rfl⟩
      have HHr := Lib.hid hhr
      rw [hhr] at HMk hlo
      rw [hhr]
      clear hW1 hX1 hmk hhr
      go_loopg [17] n (fun kk jv wi => ∃ j : Nat, kk + j = n ∧ jv = .int .i64 j ∧ Hid (MRow wi hr n (fun j' => if j' < j then entry rows i j' else 0)) ∧ Hid (ExtBut (fun x => x = hr) W1 wi))
      case atStart => exact ⟨0, by omega, rfl, HMk.out.congr (fun j hj => by simp), ExtBut.refl _ _⟩
      case round =>
        obtain ⟨j, hkj, rfl, HR, HE⟩ := hrel
        by_cases hjn : j < n
        · have HC := Lib.hid (HEnt.out i j wr hin hjn (HXw.out.but HE.out (by rintro g rfl; exact hlo)))
          obtain ⟨ng0, A0, k0, c1, c2, _⟩ := HR.out.cells j hjn
          have f1 := HR.out.free (j * 2)
          have f2 := HR.out.free (j * 2 + 1)
          have hlt := HR.out.lt
          go_wp2_with fail
          refine HC.out.mono ?_
          rintro e w2 ⟨ng, A2, k2, rfl, hz, hx⟩
          replace f1 := hx.free f1 (lt_of_cell c1)
          replace c1 := hx.cell c1
          replace f2 := hx.free f2 (lt_of_cell c2)
          replace c2 := hx.cell c2
          have HR2 := Lib.hid ((HR.out.ext hx).set_ hjn hz)
          have HE2 := Lib.hid (HE.out.ext hx)
          clear hz hx HC HR HE
          have HX3 : Hid (ExtBut (fun x => x = hr) W1 ((w2.setCell ⟨hr, j * 2, none⟩ (.bool ng)).setCell ⟨hr, j * 2 + 1, none⟩ (.slice A2 k2 k2))) := (HE2.out.setCell (p := ⟨hr, j * 2, none⟩) (.inl rfl) _).setCell (p := ⟨hr, j * 2 + 1, none⟩) (.inl rfl) _
          have HR3 : Hid (MRow ((w2.setCell ⟨hr, j * 2, none⟩ (.bool ng)).setCell ⟨hr, j * 2 + 1, none⟩ (.slice A2 k2 k2)) hr n (fun j' => if j' < j + 1 then entry rows i j' else 0)) :=
            HR2.out.congr fun j' _ => by
              by_cases e : j' = j
              · subst e; rw [if_pos rfl, if_pos (by omega)]
              · rw [if_neg e]
                by_cases e2 : j' < j
                · rw [if_pos e2, if_pos (by omega)]
                · rw [if_neg e2, if_neg (by omega)]
          clear HR2 HE2
          go_wp2
          go_roundg (gk - 1)
          case measure => omega
          case rel => exact ⟨j + 1, by omega, by go_num, HR3, HX3⟩
        · obtain rfl : n = j := by omega
          obtain ⟨ii, hii, hz0, hz1, hz2⟩ : ∃ ii, Tryz.prog.info? 107 = some ii ∧ ii.zero = some (.slice none 0 0) ∧ ii.size = 1 ∧ ii.bytes = 24 := ⟨i0, HI0.out⟩
          have HTy := Lib.hid HR.out.typ
          have hlt := HR.out.lt
          have HOwn : Hid (wr.ownsRow w.heap.size 107 1 u5 i ((List.range i).map fun j => Value.slice (some ⟨h j, 0, none⟩) n n)) := by
            refine (HI.out.own.kept (row := none) ?_ (by cases u5.ownBlock <;> simp)).kept HE.out.grown ?_
            · exact ⟨Below.os HX1.out, Below.tape HX1.out, Below.output HX1.out, HX1.out.size, fun k hk _ => Below.block HX1.out k hk⟩
            · rcases hob : u5.ownBlock with _ | g
              · exact .inl rfl
              · refine .inr ?_
                have := HI.out.own.lt g hob
                have := HHr.out
                intro e; injection e with e; omega
          have HRows : Hid (∀ j, j < i → MRow wr (h j) n (entry rows j)) := fun j hj =>
            ((HI.out.row j hj).ext HX1.out).but HE.out (by have := (HI.out.row j hj).lt; have := HHr.out; omega) HMk.out.typ
          have HNew : Hid (MRow wr hr n (entry rows i)) := HR.out.congr fun j' hj' => if_pos hj'
          have HXn := Lib.hid (HXw.out.but HE.out (by rintro g rfl; exact hlo))
          clear HR HE
          have hws : w.heap.size ≤ wr.heap.size := HXn.out.size
          go_wp2_with (at_builtin; refine wpList_append_own _ rfl _ _ 99 rfl w.heap.size 107 ii (.slice none 0 0) 1 24 Tryz.underlying99 hii hz0 hz1 hz2 rfl (by decide) _ _ _ rfl (HOwn.out.alloc _) ⟨wr.heap.size, 0, none⟩ 1 1 [.slice (some ⟨hr, 0, none⟩) n n] rfl rfl ?c1 ?c2 ?c3 ?c4 ?c5 ?_)
          case c1 => exact cell_one_new _ _ _
          case c2 => intro u hu; rw [List.mem_singleton.1 hu]; rfl
          case c3 => unfold maxLen; omega
          case c4 => omega
          case c5 => simp only [World.size_alloc]; omega
          intro v' w5 hown' hgrow _
          have hOwnA := HOwn.out.alloc (.cells #[.slice (some ⟨hr, 0, none⟩) n n] 107)
          have hk104 : ∀ b, TB (wr.alloc (.cells #[.slice (some ⟨hr, 0, none⟩) n n] 107)) 104 b → w5.heap[b]? = (wr.alloc (.cells #[.slice (some ⟨hr, 0, none⟩) n n] 107)).heap[b]? := fun b hb => own_keep hOwnA hgrow hb (by decide)
          have hk32 : ∀ b, TB (wr.alloc (.cells #[.slice (some ⟨hr, 0, none⟩) n n] 107)) 145 b → w5.heap[b]? = (wr.alloc (.cells #[.slice (some ⟨hr, 0, none⟩) n n] 107)).heap[b]? := fun b hb => own_keep hOwnA hgrow hb (by decide)
          have hXA : Ext wr (wr.alloc (.cells #[.slice (some ⟨hr, 0, none⟩) n n] 107)) := (Ext.refl wr).alloc _
          have HS : Hid (SqInv w w5 n (i + 1) v' (fun j => if j = i then hr else h j) (entry rows)) := by
            refine ⟨?_, fun j hj => ?_, fun j k hj hk e => ?_, fun j hj => ?_, ?_⟩
            · rw [← range_snoc i (fun j => Value.slice (some ⟨h j, 0, none⟩) n n) _ (.slice (some ⟨hr, 0, none⟩) n n) (fun j hj => by simp only [if_neg (show ¬ j = i by omega)]) (by simp)]
              exact hown'
            · by_cases e : j = i
              · subst e
                simp only [if_true]
                exact (HNew.out.ext hXA).typed (hk104 _ (HNew.out.ext hXA).typ) hk32
              · simp only [if_neg e]
                have h2 := (HRows.out j (by omega)).ext hXA
                exact h2.typed (hk104 _ h2.typ) hk32
            · by_cases e1 : j = i <;> by_cases e2 : k = i
              · omega
              · rw [if_pos e1, if_neg e2] at e
                have h1 := (HI.out.row k (by omega)).lt
                have h2 := HHr.out
                omega
              · rw [if_neg e1, if_pos e2] at e
                have h1 := (HI.out.row j (by omega)).lt
                have h2 := HHr.out
                omega
              · rw [if_neg e1, if_neg e2] at e
                exact HI.out.inj j k (by omega) (by omega) e
            · by_cases e1 : j = i
              · simp only [if_pos e1]; exact hlo
              · simp only [if_neg e1]; exact HI.out.low j (by omega)
            · exact (HXn.out.alloc _).grown hgrow (fun k hk => (hOwnA.lt k hk).1)
          clear hown' hgrow hOwnA hk104 hk32 hXA
          go_wp2
          go_roundg (n - (i + 1))
          case measure => omega
          case rel => exact ⟨i + 1, _, by omega, by go_num, HS⟩
    · obtain rfl : n = i := by omega
      rcases HI.out.own.2 with ⟨_, h0⟩ | ⟨g, cap, cur, rfl, hg, hh, hnc, hcm, hcs, hct⟩
      · omega
      · have HM : Hid (MatZ wr w.heap.size g n h (entry rows)) := by
          refine ⟨fun i hi => ?_, HI.out.row, HI.out.inj, HI.out.low, hg, ⟨_, _, hh⟩⟩
          have h1 := HI.out.own.cells (g := g) rfl i (.slice (some ⟨h i, 0, none⟩) n n) (by simp [hi])
          rw [← h1]
          unfold Addr.add
          split
          · subst_vars; rfl
          · simp
        have HX := Lib.hid HI.out.ext
        clear hh hcs hct HI
        go_wp2
        go_ret
        exact ⟨g, cap, h, rfl, hnc, HM.out, HX.out⟩
end Go.Proofs.YtiihnoelclnahaaGreatDoor
