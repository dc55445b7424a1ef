/- Square matrices of machine numbers that the call makes; lists of them; save.Read's variables. -/
import Derived.Test.YtiihnoelclnahaaGreatDoorSaveWord
import Derived.Laws.OwnMore
namespace Go.Proofs.YtiihnoelclnahaaGreatDoor
open Go.RowKit
set_option linter.unusedVariables false

theorem Tryz.infoI64 : (Tryz.prog.info? 2).map (fun i => (i.zero, i.size, i.bytes)) = some (some (.int .i64 0), 1, 8) := by kernel_rfl
theorem Tryz.infoRow : (Tryz.prog.info? 38).map (fun i => (i.zero, i.size, i.bytes)) = some (some (.slice none 0 0), 1, 24) := by kernel_rfl
theorem Tryz.infoRows : (Tryz.prog.info? 39).map (fun i => (i.zero, i.size, i.bytes)) = some (some (.slice none 0 0), 1, 24) := by kernel_rfl

theorem make_row (m : Int) (n : Nat) (h : m = n) (hn : n ≤ 1099511627776) (w : World) :
    (Instr.makeSlice 38 (.int .i64 m) (.int .i64 m)).run Tryz.prog w = .ok (.slice (some ⟨w.heap.size, 0, none⟩) n n) (w.alloc (.cells (Array.replicate n (.int .i64 0)) 2)) := by
  subst h
  obtain ⟨i0, hi, hz0, hz1, hz2⟩ := info_parts Tryz.infoI64
  have hr := run_make (P := Tryz.prog) w 38 2 i0 _ Tryz.underlying38 hi hz0 .i64 .i64 n n (by omega) (by omega) (by rw [hz2]; omega) (by omega)
  simp only [Int.toNat_natCast] at hr
  rw [hr, hz1, Nat.mul_one]
  have : madeCells (Value.int IntKind.i64 0).cells n = Array.replicate n (.int .i64 0) := by
    unfold madeCells
    apply Array.ext
    · simp
    · intro i h1 h2
      simp [Value.cells, Nat.mod_one]
  rw [this]
theorem make_rows (m : Int) (n : Nat) (h : m = n) (hn : n ≤ 1099511627776) (w : World) :
    (Instr.makeSlice 39 (.int .i64 m) (.int .i64 m)).run Tryz.prog w = .ok (.slice (some ⟨w.heap.size, 0, none⟩) n n) (w.alloc (.cells (Array.replicate n (.slice none 0 0)) 38)) := by
  subst h
  obtain ⟨i0, hi, hz0, hz1, hz2⟩ := info_parts Tryz.infoRow
  have hr := run_make (P := Tryz.prog) w 39 38 i0 _ Tryz.underlying39 hi hz0 .i64 .i64 n n (by omega) (by omega) (by rw [hz2]; omega) (by omega)
  simp only [Int.toNat_natCast] at hr
  rw [hr, hz1, Nat.mul_one]
  have : madeCells (Value.slice none 0 0).cells n = Array.replicate n (.slice none 0 0) := by
    unfold madeCells
    apply Array.ext
    · simp
    · intro i h1 h2
      simp [Value.cells, Nat.mod_one]
  rw [this]

/-- The blocks of a from B on lie so in w. -/
structure Fr (B : Nat) (a w : World) : Prop where
  size : a.heap.size ≤ w.heap.size
  keep : ∀ b : Nat, B ≤ b → b < a.heap.size → w.heap[b]? = a.heap[b]?
theorem Fr.refl (B : Nat) (w : World) : Fr B w w := ⟨Nat.le_refl _, fun _ _ _ => rfl⟩
theorem Fr.trans {B : Nat} {a b c : World} (h : Fr B a b) (k : Fr B b c) : Fr B a c :=
  ⟨Nat.le_trans h.size k.size, fun x hB hx => (k.keep x hB (Nat.lt_of_lt_of_le hx h.size)).trans (h.keep x hB hx)⟩
theorem Ext.fr {a w : World} (h : Ext a w) (B : Nat) : Fr B a w := ⟨h.size, fun x _ hx => Below.block h x hx⟩
theorem Fr.ext {B : Nat} {a b c : World} (h : Fr B a b) (k : Ext b c) : Fr B a c := h.trans (k.fr B)
theorem ExtBut.fr {B : Nat} {a w : World} {b : Nat} (h : ExtBut (fun x => x = b) a w) (hb : b < B) : Fr B a w := ⟨h.size, fun x hB hx => h.block x hx (by omega)⟩
/-- A store into a new block, or into one below B. -/
theorem Fr.set_ {B : Nat} {a w : World} (h : Fr B a w) {p : Addr} (hp : a.heap.size ≤ p.block ∨ p.block < B) (u : Value) : Fr B a (w.setCell p u) :=
  ⟨by simpa [World.setCell] using h.size, fun x hB hx => (Below.heap_setCell w p u x (by rintro rfl; omega)).trans (h.keep x hB hx)⟩

/-- A block whose first k rows are made; the entries. -/
structure MatI (w : World) (lo g n k : Nat) (h : Nat → Nat) (m : Nat → Nat → Int) : Prop where
  made : ∀ i, i < k → w.cell? ⟨g, i, none⟩ = some (.slice (some ⟨h i, 0, none⟩) n n)
  nil : ∀ i, k ≤ i → i < n → w.cell? ⟨g, i, none⟩ = some (.slice none 0 0)
  gfree : ∀ o, w.frozen? ⟨g, o, none⟩ = false
  gtyp : TB w 38 g
  glow : lo ≤ g
  row : ∀ i, i < k → ∀ j, j < n → w.cell? ⟨h i, j, none⟩ = some (.int .i64 (m i j))
  free : ∀ i, i < k → ∀ o, w.frozen? ⟨h i, o, none⟩ = false
  typ : ∀ i, i < k → TB w 2 (h i)
  low : ∀ i, i < k → lo ≤ h i
  inj : ∀ i j, i < k → j < k → h i = h j → i = j

theorem MatI.keep {w w' : World} {lo g n k : Nat} {h : Nat → Nat} {m : Nat → Nat → Int} (M : MatI w lo g n k h m) (f : Fr lo w w') : MatI w' lo g n k h m := by
  have hg := f.keep g M.glow M.gtyp.lt
  have hr := fun i hi => f.keep (h i) (M.low i hi) (M.typ i hi).lt
  have cg : ∀ o, w'.cell? ⟨g, o, none⟩ = w.cell? ⟨g, o, none⟩ := fun o => by simp only [World.cell?, hg]
  have ch : ∀ i, i < k → ∀ o, w'.cell? ⟨h i, o, none⟩ = w.cell? ⟨h i, o, none⟩ := fun i hi o => by simp only [World.cell?, hr i hi]
  exact ⟨fun i hi => (cg i).trans (M.made i hi), fun i h1 h2 => (cg i).trans (M.nil i h1 h2), fun o => by rw [← M.gfree o]; simp only [World.frozen?, hg], M.gtyp.of_eq hg, M.glow,
    fun i hi j hj => (ch i hi j).trans (M.row i hi j hj), fun i hi o => by rw [← M.free i hi o]; simp only [World.frozen?, hr i hi], fun i hi => (M.typ i hi).of_eq (hr i hi), M.low, M.inj⟩
theorem MatI.congr {w : World} {lo g n k : Nat} {h : Nat → Nat} {m m' : Nat → Nat → Int} (M : MatI w lo g n k h m) (e : ∀ i j, i < k → j < n → m i j = m' i j) : MatI w lo g n k h m' :=
  ⟨M.made, M.nil, M.gfree, M.gtyp, M.glow, fun i hi j hj => by rw [← e i j hi hj]; exact M.row i hi j hj, M.free, M.typ, M.low, M.inj⟩
theorem MatI.weak {w : World} {lo lo' g n k : Nat} {h : Nat → Nat} {m : Nat → Nat → Int} (M : MatI w lo g n k h m) (hl : lo' ≤ lo) : MatI w lo' g n k h m :=
  ⟨M.made, M.nil, M.gfree, M.gtyp, Nat.le_trans hl M.glow, M.row, M.free, M.typ, fun i hi => Nat.le_trans hl (M.low i hi), M.inj⟩
theorem MatI.ne {w : World} {lo g n k : Nat} {h : Nat → Nat} {m : Nat → Nat → Int} (M : MatI w lo g n k h m) {i : Nat} (hi : i < k) : h i ≠ g := (M.typ i hi).ne M.gtyp (by decide)

theorem MatI.new (w : World) (n lo : Nat) (h : Nat → Nat) (m : Nat → Nat → Int) (hl : lo ≤ w.heap.size) : MatI (w.alloc (.cells (Array.replicate n (.slice none 0 0)) 38)) lo w.heap.size n 0 h m := by
  have hh := heap_new w (.cells (Array.replicate n (.slice none 0 0)) 38)
  exact ⟨fun i hi => by omega, fun i _ hi => by rw [cell_of_row _ _ _ _ _ _ hh]; simp [hi], fun o => by simp only [World.frozen?, hh]; rfl, ⟨_, _, hh⟩, hl, fun i hi => by omega, fun i hi => by omega, fun i hi => by omega, fun i hi => by omega, fun i j hi => by omega⟩

/-- A row more is made. -/
theorem MatI.grow {w : World} {lo g n k : Nat} {h : Nat → Nat} {m : Nat → Nat → Int} (M : MatI w lo g n k h m) (hk : k < n) (hl : lo ≤ w.heap.size) :
    MatI ((w.alloc (.cells (Array.replicate n (.int .i64 0)) 2)).setCell ⟨g, k, none⟩ (.slice (some ⟨w.heap.size, 0, none⟩) n n)) lo g n (k + 1) (fun i => if i = k then w.heap.size else h i) (fun i j => if i = k then 0 else m i j) := by
  have hx : Ext w (w.alloc (.cells (Array.replicate n (.int .i64 0)) 2)) := (Ext.refl w).alloc _
  have M1 := M.keep (hx.fr lo)
  have hh := heap_new w (.cells (Array.replicate n (.int .i64 0)) 2)
  obtain ⟨W, hW⟩ : ∃ W, w.alloc (.cells (Array.replicate n (.int .i64 0)) 2) = W := ⟨_, rfl⟩
  rw [hW] at hx M1 hh ⊢
  have hgl := M.gtyp.lt
  have ho : ∀ b o, b ≠ g → (W.setCell ⟨g, k, none⟩ (.slice (some ⟨w.heap.size, 0, none⟩) n n)).cell? ⟨b, o, none⟩ = W.cell? ⟨b, o, none⟩ := fun b o hb => World.cell?_setCell_other _ _ _ _ (by intro e; injection e with e1 _; exact hb e1.symm)
  have hg2 : ∀ i, i ≠ k → (W.setCell ⟨g, k, none⟩ (.slice (some ⟨w.heap.size, 0, none⟩) n n)).cell? ⟨g, i, none⟩ = W.cell? ⟨g, i, none⟩ := fun i hi => World.cell?_setCell_other _ _ _ _ (by intro e; injection e with _ e2; exact hi e2.symm)
  have hts : ∀ t b, TB W t b → TB (W.setCell ⟨g, k, none⟩ (.slice (some ⟨w.heap.size, 0, none⟩) n n)) t b := fun t b hb => hb.set_ _ _
  have hnew : w.heap.size ≠ g := by omega
  have hlt : ∀ i, i < k → h i < w.heap.size := fun i hi => (M.typ i hi).lt
  refine ⟨fun i hi => ?_, fun i h1 h2 => ?_, fun o => by rw [World.frozen?_setCell]; exact M1.gfree o, hts _ _ M1.gtyp, M.glow, fun i hi j hj => ?_, fun i hi o => ?_, fun i hi => ?_, fun i hi => ?_, fun i j hi hj e => ?_⟩
  · by_cases e : i = k
    · subst e; rw [if_pos rfl]; exact setc (M1.nil i (Nat.le_refl _) hk)
    · rw [if_neg e, hg2 i e]; exact M1.made i (by omega)
  · rw [hg2 i (by omega)]; exact M1.nil i (by omega) h2
  · by_cases e : i = k
    · subst e
      simp only [if_pos]
      rw [ho _ _ hnew, cell_of_row _ _ _ _ _ _ hh]; simp [hj]
    · simp only [if_neg e]
      rw [ho _ _ (M1.ne (by omega))]; exact M1.row i (by omega) j hj
  · rw [World.frozen?_setCell]
    by_cases e : i = k
    · subst e; simp only [if_pos]; simp only [World.frozen?, hh]; rfl
    · simp only [if_neg e]; exact M1.free i (by omega) o
  · by_cases e : i = k
    · subst e; simp only [if_pos]; exact hts _ _ ⟨_, _, hh⟩
    · simp only [if_neg e]; exact hts _ _ (M1.typ i (by omega))
  · by_cases e : i = k
    · subst e; simp only [if_pos]; exact hl
    · simp only [if_neg e]; exact M1.low i (by omega)
  · by_cases e1 : i = k
    · by_cases e2 : j = k
      · omega
      · simp only [if_pos e1, if_neg e2] at e; have := hlt j (by omega); omega
    · by_cases e2 : j = k
      · simp only [if_neg e1, if_pos e2] at e; have := hlt i (by omega); omega
      · simp only [if_neg e1, if_neg e2] at e; exact M.inj i j (by omega) (by omega) e

/-- An entry is set. -/
theorem MatI.set_ {w : World} {lo g n k : Nat} {h : Nat → Nat} {m : Nat → Nat → Int} (M : MatI w lo g n k h m) {i j : Nat} (hi : i < k) (hj : j < n) (z : Int) :
    MatI (w.setCell ⟨h i, j, none⟩ (.int .i64 z)) lo g n k h (fun a b => if a = i ∧ b = j then z else m a b) := by
  have ho : ∀ b o, (⟨h i, j, none⟩ : Addr) ≠ ⟨b, o, none⟩ → (w.setCell ⟨h i, j, none⟩ (.int .i64 z)).cell? ⟨b, o, none⟩ = w.cell? ⟨b, o, none⟩ := fun b o hb => World.cell?_setCell_other _ _ _ _ hb
  have hg : ∀ o, (⟨h i, j, none⟩ : Addr) ≠ ⟨g, o, none⟩ := fun o e => by injection e with e1 _; exact M.ne hi e1
  refine ⟨fun a ha => (ho _ _ (hg _)).trans (M.made a ha), fun a h1 h2 => (ho _ _ (hg _)).trans (M.nil a h1 h2), fun o => by rw [World.frozen?_setCell]; exact M.gfree o, M.gtyp.set_ _ _, M.glow, fun a ha b hb => ?_, fun a ha o => by rw [World.frozen?_setCell]; exact M.free a ha o, fun a ha => (M.typ a ha).set_ _ _, M.low, M.inj⟩
  by_cases e : a = i ∧ b = j
  · rw [if_pos e, e.1, e.2]; exact setc (M.row i hi j hj)
  · rw [if_neg e]
    rw [ho _ _ (by intro e'; injection e' with e1 e2; exact e ⟨M.inj _ _ ha hi e1.symm, e2.symm⟩)]
    exact M.row a ha b hb

theorem matOf_len (n : Nat) (l : List Int) : (matOf n l).length = n := by unfold matOf; simp
theorem matOf_row {n i : Nat} {l : List Int} {r : List Int} (h : (matOf n l)[i]? = some r) : i < n ∧ r = (List.range n).map fun j => ent l i j := by
  unfold matOf at h
  rw [List.getElem?_map] at h
  rcases Nat.lt_or_ge i n with hi | hi
  · rw [List.getElem?_range hi] at h
    simp only [Option.map_some, Option.some.injEq] at h
    exact ⟨hi, h.symm⟩
  · rw [List.getElem?_eq_none (by simpa using hi)] at h; cases h

/-- A matrix as rows. -/
theorem MatI.rows {w : World} {lo g n : Nat} {h : Nat → Nat} {l : List Int} (M : MatI w lo g n n h (ent l)) : IsRows w (some ⟨g, 0, none⟩) (matOf n l) := by
  intro _
  refine ⟨g, 0, rfl, M.gtyp.lt, fun i r hr => ?_⟩
  obtain ⟨hi, rfl⟩ := matOf_row hr
  refine ⟨some ⟨h i, 0, none⟩, n, by rw [Nat.zero_add, M.made i hi]; simp, by simp, fun _ => ⟨h i, 0, rfl, (M.typ i hi).lt, fun j z hj => ?_⟩⟩
  rw [List.getElem?_map] at hj
  rcases Nat.lt_or_ge j n with hjn | hjn
  · rw [List.getElem?_range hjn] at hj
    simp only [Option.map_some, Option.some.injEq] at hj
    rw [Nat.zero_add, M.row i hi j hjn, hj]
  · rw [List.getElem?_eq_none (by simpa using hjn)] at hj; cases hj

/-- The lists so far, in a row of the call's own. -/
def Forms (w : World) (B : Nat) (v : Value) (ls : List (List (List Int))) : Prop :=
  ∃ cs : List Value, w.ownsRow B 39 1 v ls.length cs ∧ ∀ (i : Nat) (f : List (List Int)), ls[i]? = some f → ∃ g n h l, cs[i]? = some (.slice (some ⟨g, 0, none⟩) n n) ∧ f = matOf n l ∧ MatI w B g n n h (ent l)

theorem lt_of_row {w : World} {g : Nat} {o : Obj} (h : w.heap[g]? = some o) : g < w.heap.size := (Array.getElem?_eq_some_iff.1 h).1
theorem ownsRow_fr {w w' : World} {base n : Nat} {v : Value} {xs : List Value} (h : w.ownsRow base 39 1 v n xs) (f : Fr base w w') : w'.ownsRow base 39 1 v n xs := by
  obtain ⟨hl, h1 | ⟨g, cap, cur, hv, hb, hh, r⟩⟩ := h
  · exact ⟨hl, .inl h1⟩
  · exact ⟨hl, .inr ⟨g, cap, cur, hv, hb, (f.keep g hb (lt_of_row hh)).trans hh, r⟩⟩
theorem Forms.keep {w w' : World} {B : Nat} {v : Value} {ls : List (List (List Int))} (h : Forms w B v ls) (f : Fr B w w') : Forms w' B v ls := by
  obtain ⟨cs, h1, h2⟩ := h
  refine ⟨cs, ownsRow_fr h1 f, fun i r hr => ?_⟩
  obtain ⟨g, n, h, l, q1, q2, q3⟩ := h2 i r hr
  exact ⟨g, n, h, l, q1, q2, q3.keep f⟩
theorem Forms.nil (w : World) (B : Nat) : Forms w B (.slice none 0 0) [] := ⟨[], ⟨rfl, .inl ⟨rfl, rfl⟩⟩, fun i f h => by simp at h⟩
theorem Forms.value {w : World} {B : Nat} {v : Value} {ls : List (List (List Int))} (h : Forms w B v ls) : ∃ A c, v = .slice A ls.length c ∧ IsForms w A ls := by
  obtain ⟨cs, h1, h2⟩ := h
  obtain ⟨hl, ⟨rfl, h0⟩ | ⟨g, cap, cur, hv, hb, hh, r1, r2, r3, r4⟩⟩ := h1
  · exact ⟨none, 0, by rw [h0], fun hp => by omega⟩
  · refine ⟨_, cap, hv, fun _ => ⟨g, 0, rfl, lt_of_row hh, fun i rows hi => ?_⟩⟩
    obtain ⟨g2, n2, h2', l2, q1, q2, q3⟩ := h2 i rows hi
    refine ⟨some ⟨g2, 0, none⟩, n2, ?_, by rw [q2, matOf_len]; exact Nat.le_refl _, by rw [q2]; exact q3.rows⟩
    rw [Nat.zero_add, cell_of_row _ _ _ _ _ _ hh]
    have e := congrArg (fun q : List Value => q[i]?) r4
    have hil := (List.getElem?_eq_some_iff.1 hi).1
    simp only [List.getElem?_take, Nat.mul_one, hil, if_true, Array.getElem?_toList] at e
    rw [e, q1, q2, matOf_len]
theorem Forms.lowT {w : World} {B : Nat} {v : Value} {ls : List (List (List Int))} (h : Forms w B v ls) : ∀ k, v.ownBlock = some k → B ≤ k ∧ TB w 39 k := by
  intro k hk
  obtain ⟨cs, h1, _⟩ := h
  refine ⟨(h1.lt k hk).1, ?_⟩
  obtain ⟨hl, ⟨rfl, h0⟩ | ⟨g, cap, cur, rfl, hb, hh, r⟩⟩ := h1
  · cases hk
  · have : g = k := by simpa [Value.ownBlock] using hk
    subst this; exact ⟨_, _, hh⟩
/-- Rows and matrices live on where the row of lists grows. -/
theorem MatI.grown {w w' : World} {B lo g n k : Nat} {v : Value} {ls : List (List (List Int))} {h : Nat → Nat} {m : Nat → Nat → Int} (M : MatI w lo g n k h m) (F : Forms w B v ls) (hg : w.grownBy w' v.ownBlock) : MatI w' lo g n k h m := by
  have hb : ∀ b t, (t = 2 ∨ t = 38) → TB w t b → w'.heap[b]? = w.heap[b]? := fun b t ht hx => hg.block b hx.lt (by
    intro e
    have := (F.lowT b e.symm).2
    refine absurd rfl (hx.ne this ?_)
    rcases ht with rfl | rfl <;> decide)
  have h1 := hb g _ (.inr rfl) M.gtyp
  have hr := fun i hi => hb (h i) _ (.inl rfl) (M.typ i hi)
  have cg : ∀ o, w'.cell? ⟨g, o, none⟩ = w.cell? ⟨g, o, none⟩ := fun o => by simp only [World.cell?, h1]
  have ch : ∀ i, i < k → ∀ o, w'.cell? ⟨h i, o, none⟩ = w.cell? ⟨h i, o, none⟩ := fun i hi o => by simp only [World.cell?, hr i hi]
  exact ⟨fun i hi => (cg i).trans (M.made i hi), fun i q1 q2 => (cg i).trans (M.nil i q1 q2), fun o => by rw [← M.gfree o]; simp only [World.frozen?, h1], M.gtyp.of_eq h1, M.glow,
    fun i hi j hj => (ch i hi j).trans (M.row i hi j hj), fun i hi o => by rw [← M.free i hi o]; simp only [World.frozen?, hr i hi], fun i hi => (M.typ i hi).of_eq (hr i hi), M.low, M.inj⟩

/-- append(out, a), a lying in a new block of one cell. -/
theorem wpList_append_form {W : World} {ops : Array Oper} {rest : List Oper} {o : Oper} {a : Act} {Q : Exit → Act → World → Prop} (hgd : o.guard = none) (s x : Operand)
    (ho : o.op = .call { callee := .builtin .append, args := #[s, x], argTypes := #[22, 22] })
    (B : Nat) (v : Value) (ls : List (List (List Int))) (hs : a.eval s = v) (hF : Forms W B v ls) (g n : Nat) (h : Nat → Nat) (l : List Int) (M : MatI W B g n n h (ent l)) (hx : a.eval x = .slice (some ⟨W.heap.size, 0, none⟩) 1 1)
    (hl : ls.length ≤ 1000000) (hbase : B ≤ W.heap.size)
    (h2 : ∀ v' w', Hid (Forms w' B v' (ls ++ [matOf n l])) → Hid (Below B W w') → wpList Tryz.prog ops Q rest (a.put o.dst v') w') : wpList Tryz.prog ops Q (o :: rest) a (W.alloc (.cells #[.slice (some ⟨g, 0, none⟩) n n] 39)) := by
  obtain ⟨W1, hW1⟩ : ∃ W1, W.alloc (.cells #[.slice (some ⟨g, 0, none⟩) n n] 39) = W1 := ⟨_, rfl⟩
  have hx1 : Ext W W1 := by rw [← hW1]; exact (Ext.refl W).alloc _
  have hc : W1.cell? ⟨W.heap.size, 0, none⟩ = some (.slice (some ⟨g, 0, none⟩) n n) := by
    rw [← hW1, cell_of_row _ _ _ _ _ _ (heap_new W _)]; rfl
  have F1 := hF.keep (hx1.fr B)
  have M1 := M.keep (hx1.fr B)
  rw [hW1]
  obtain ⟨cs, own, hall⟩ := F1
  obtain ⟨i0, hi, hz0, hz1, hz2⟩ := info_parts Tryz.infoRows
  refine wpList_append_own (P := Tryz.prog) W1 hgd s x 22 ho B 39 i0 (.slice none 0 0) 1 24 Tryz.underlying22 hi hz0 hz1 hz2 rfl (by decide) v ls.length cs hs own ⟨W.heap.size, 0, none⟩ 1 1 [.slice (some ⟨g, 0, none⟩) n n] hx rfl ?_ ?_ (by unfold maxLen; omega) (by omega) (Nat.le_trans hbase hx1.size) ?_
  · intro j u hj
    match j, hj with
    | 0, hj =>
      simp at hj; subst hj
      have ea : (⟨W.heap.size, 0, none⟩ : Addr).add 0 = ⟨W.heap.size, 0, none⟩ := by unfold Addr.add; simp
      rw [ea]; exact hc
  · intro u hu; simp at hu; subst hu; rfl
  · intro v' w' hv hg _
    have F1' : Forms W1 B v ls := ⟨cs, own, hall⟩
    refine h2 v' w' ⟨cs ++ [.slice (some ⟨g, 0, none⟩) n n], by rw [List.length_append]; exact hv, fun i f hf => ?_⟩ (Below.trans (Below.mono hx1 hbase) (Below.grown (Below.refl _ _) hg (Nat.le_trans hbase hx1.size) fun k hk => (F1'.lowT k hk).1))
    have hcl : cs.length = ls.length := by have := own.1; omega
    rcases Nat.lt_trichotomy i ls.length with hil | hil | hil
    · rw [List.getElem?_append_left hil] at hf
      obtain ⟨g2, n2, h2', l2, q1, q2, q3⟩ := hall i f hf
      exact ⟨g2, n2, h2', l2, by rw [List.getElem?_append_left (by omega)]; exact q1, q2, q3.grown F1' hg⟩
    · subst hil
      rw [List.getElem?_append_right (Nat.le_refl _), Nat.sub_self] at hf
      simp at hf
      exact ⟨g, n, h, l, by rw [← hcl, List.getElem?_append_right (Nat.le_refl _), Nat.sub_self]; rfl, hf.symm, M1.grown F1' hg⟩
    · rw [List.getElem?_eq_none (by rw [List.length_append, List.length_cons, List.length_nil]; omega)] at hf; cases hf

/-- save.Read's variables: the text, the error, the place, fail. -/
structure RdInv (w0 wr : World) (s : ByteArray) (bS bO bE bA bF : Nat) (p : Nat) : Prop where
  S : wr.cell? ⟨bS, 0, none⟩ = some (.string s)
  E : wr.cell? ⟨bE, 0, none⟩ = some .nilIface
  fE : wr.frozen? ⟨bE, 0, none⟩ = false
  fO : wr.frozen? ⟨bO, 0, none⟩ = false
  A : wr.cell? ⟨bA, 0, none⟩ = some (.int .i64 p)
  fA : wr.frozen? ⟨bA, 0, none⟩ = false
  F : wr.cell? ⟨bF, 0, none⟩ = some (.func (.func 21) #[] #[])
  X : Ext w0 wr
  lO : bO < wr.heap.size
theorem RdInv.ext {w0 wr w' : World} {s : ByteArray} {bS bO bE bA bF p : Nat} (h : RdInv w0 wr s bS bO bE bA bF p) (hx : Ext wr w') : RdInv w0 w' s bS bO bE bA bF p :=
  ⟨hx.cell h.S, hx.cell h.E, hx.free h.fE (lt_of_cell h.E), hx.free h.fO h.lO, hx.cell h.A, hx.free h.fA (lt_of_cell h.A), hx.cell h.F, h.X.trans hx, Nat.lt_of_lt_of_le h.lO hx.size⟩
/-- All below B stays. -/
theorem RdInv.below {w0 wr w' : World} {s : ByteArray} {bS bO bE bA bF p B : Nat} (h : RdInv w0 wr s bS bO bE bA bF p) (hx : Below B wr w') (hB : bS < B ∧ bO < B ∧ bE < B ∧ bA < B ∧ bF < B ∧ w0.heap.size ≤ B) : RdInv w0 w' s bS bO bE bA bF p := by
  obtain ⟨h1, h2, h3, h4, h5, h6⟩ := hB
  exact ⟨old hx h.S h1, old hx h.E h3, oldf hx h.fE h3, oldf hx h.fO h2, old hx h.A h4, oldf hx h.fA h4, old hx h.F h5, Below.trans h.X (Below.mono hx h6), Nat.lt_of_lt_of_le h.lO hx.size⟩
theorem RdInv.but {w0 wr w' : World} {s : ByteArray} {bS bO bE bA bF p q : Nat} (h : RdInv w0 wr s bS bO bE bA bF p) (hx : ExtBut (fun x => x = bA) wr w') (cA : w'.cell? ⟨bA, 0, none⟩ = some (.int .i64 q)) (fA : w'.frozen? ⟨bA, 0, none⟩ = false) (hO : w0.heap.size ≤ bA)
    (hne : bS ≠ bA ∧ bE ≠ bA ∧ bO ≠ bA ∧ bF ≠ bA) : RdInv w0 w' s bS bO bE bA bF q :=
  ⟨hx.cell h.S hne.1, hx.cell h.E hne.2.1, hx.free h.fE (lt_of_cell h.E) hne.2.1, hx.free h.fO h.lO hne.2.2.1, cA, fA, hx.cell h.F hne.2.2.2, h.X.but hx (by rintro g rfl; exact hO), Nat.lt_of_lt_of_le h.lO hx.size⟩
/-- A store elsewhere. -/
theorem RdInv.set_ {w0 wr : World} {s : ByteArray} {bS bO bE bA bF p : Nat} (h : RdInv w0 wr s bS bO bE bA bF p) {b o : Nat} (u : Value) (hb : b ≠ bS ∧ b ≠ bE ∧ b ≠ bA ∧ b ≠ bF) (hO : w0.heap.size ≤ b) : RdInv w0 (wr.setCell ⟨b, o, none⟩ u) s bS bO bE bA bF p := by
  have ho : ∀ x, b ≠ x → (wr.setCell ⟨b, o, none⟩ u).cell? ⟨x, 0, none⟩ = wr.cell? ⟨x, 0, none⟩ := fun x hx => World.cell?_setCell_other _ _ _ _ (by intro e; injection e with e1 _; exact hx e1)
  obtain ⟨h1, h2, h3, h4⟩ := hb
  exact ⟨(ho _ h1).trans h.S, (ho _ h2).trans h.E, by rw [World.frozen?_setCell]; exact h.fE, by rw [World.frozen?_setCell]; exact h.fO, (ho _ h3).trans h.A, by rw [World.frozen?_setCell]; exact h.fA, (ho _ h4).trans h.F, h.X.setCell hO u, by simpa [World.setCell] using h.lO⟩
theorem RdInv.putA {w0 wr : World} {s : ByteArray} {bS bO bE bA bF p : Nat} (h : RdInv w0 wr s bS bO bE bA bF p) (q : Nat) (hO : w0.heap.size ≤ bA) (hne : bS ≠ bA ∧ bE ≠ bA ∧ bO ≠ bA ∧ bF ≠ bA) : RdInv w0 (wr.setCell ⟨bA, 0, none⟩ (.int .i64 (q : Nat))) s bS bO bE bA bF q :=
  h.but ((ExtBut.refl (fun x => x = bA) wr).setCell (p := ⟨bA, 0, none⟩) (.inl rfl) _) (setc h.A) (by rw [World.frozen?_setCell]; exact h.fA) hO hne
end Go.Proofs.YtiihnoelclnahaaGreatDoor
