/- A row of bytes that the call made: what append does to it. -/
import Derived.Test.YtiihnoelclnahaaGreatDoorSaveBase
import Derived.Lib.SlBytesConst
namespace Go.Proofs.YtiihnoelclnahaaGreatDoor
set_option linter.unusedSimpArgs false
open Go.RowKit
set_option linter.unusedVariables false

/-- A row of bytes that the call made. -/
def Buf (w : World) (B : Nat) (v : Value) (l : List UInt8) : Prop := w.ownsRow B 5 1 v l.length (Lib.byteCells l)

theorem Buf.ext {w w' : World} {B : Nat} {v : Value} {l : List UInt8} (h : Buf w B v l) (hx : Ext w w') : Buf w' B v l := own_ext h hx
theorem byteCells_append (a b : List UInt8) : Lib.byteCells (a ++ b) = Lib.byteCells a ++ Lib.byteCells b := by simp [Lib.byteCells]

theorem Buf.slice {w : World} {B : Nat} {v : Value} {l : List UInt8} (h : Buf w B v l) (h0 : 0 < l.length) :
    ∃ g cap, v = .slice (some ⟨g, 0, none⟩) l.length cap ∧ B ≤ g ∧ ∀ j, j < l.length → w.cell? ⟨g, j, none⟩ = some (.int .u8 (l[j]!).toNat) := by
  obtain ⟨hl, h1 | ⟨g, cap, cur, hv, hb, hh, r1, r2, r3, r4⟩⟩ := h
  · omega
  · refine ⟨g, cap, hv, hb, fun j hj => ?_⟩
    rw [cell_of_row _ _ _ _ _ _ hh]
    have e := congrArg (fun q : List Value => q[j]?) r4
    simp only [List.getElem?_take, Nat.mul_one, hj, if_true, Array.getElem?_toList] at e
    rw [e]
    simp [Lib.byteCells, hj]

/-- string(b). -/
theorem Buf.text {w : World} {B : Nat} {v : Value} {l : List UInt8} (h : Buf w B v l) (h0 : 0 < l.length) : (convert 36 9 v).run Tryz.prog w = .ok (.string ⟨l.toArray⟩) w := by
  obtain ⟨g, cap, rfl, _, hc⟩ := h.slice h0
  refine run_convert_bytes_back (P := Tryz.prog) _ 36 9 5 ⟨g, 0, none⟩ _ l Tryz.underlying36 Tryz.underlying5 Tryz.underlying9 fun j hj => ?_
  have ea : (⟨g, 0, none⟩ : Addr).add j = ⟨g, j, none⟩ := by
    unfold Addr.add
    split
    · rename_i h; rw [h]
    · simp
  rw [ea, hc j hj]
  simp [hj]

theorem grown_below {B : Nat} {w w' : World} {v : Value} {l : List UInt8} (h : Buf w B v l) (hg : w.grownBy w' v.ownBlock) (hB : B ≤ w.heap.size) : Below B w w' :=
  Below.grown (Below.refl _ _) hg hB fun k hk => (h.lt k hk).1

/-- append(b, c). -/
theorem wpList_append_byte {w : World} {ops : Array Oper} {rest : List Oper} {o : Oper} {a : Act} {Q : Exit → Act → World → Prop} (hgd : o.guard = none) (s x : Operand)
    (ho : o.op = .call { callee := .builtin .append, args := #[s, x], argTypes := #[36, 36] })
    (B : Nat) (v : Value) (l : List UInt8) (hs : a.eval s = v) (hB : Buf w B v l) (g cap : Nat) (c : UInt8) (hx : a.eval x = .slice (some ⟨g, 0, none⟩) 1 cap) (hc : w.cell? ⟨g, 0, none⟩ = some (.int .u8 c.toNat))
    (hl : l.length ≤ 1099511627776) (hbase : B ≤ w.heap.size)
    (h : ∀ v' w', Hid (Buf w' B v' (l ++ [c])) → Hid (Below B w w') → wpList Tryz.prog ops Q rest (a.put o.dst v') w') : wpList Tryz.prog ops Q (o :: rest) a w := by
  obtain ⟨i0, hi, hz0, hz1, hz2⟩ := info_parts Tryz.infoU8
  refine wpList_append_own (P := Tryz.prog) w hgd s x 36 ho B 5 i0 (.int .u8 0) 1 1 Tryz.underlying36 hi hz0 hz1 hz2 rfl (by decide) v l.length (Lib.byteCells l) hs hB ⟨g, 0, none⟩ 1 cap [.int .u8 c.toNat] hx rfl ?_ ?_ (by unfold maxLen; omega) (by omega) hbase ?_
  · intro j u hj
    match j, hj with
    | 0, hj =>
      simp at hj; subst hj
      have ea : (⟨g, 0, none⟩ : Addr).add 0 = ⟨g, 0, none⟩ := by unfold Addr.add; simp
      rw [ea]; exact hc
  · intro u hu; simp at hu; subst hu; rfl
  · intro v' w' hv hg _
    refine h v' w' ?_ (grown_below hB hg hbase)
    unfold Buf Hid
    rw [List.length_append, byteCells_append]
    exact hv

/-- append(b, c), the one byte lying in a new block. -/
theorem wpList_append_lit {W : World} {ops : Array Oper} {rest : List Oper} {o : Oper} {a : Act} {Q : Exit → Act → World → Prop} (hgd : o.guard = none) (s x : Operand)
    (ho : o.op = .call { callee := .builtin .append, args := #[s, x], argTypes := #[36, 36] })
    (B : Nat) (v : Value) (l : List UInt8) (hs : a.eval s = v) (hB : Buf W B v l) (c : UInt8) (q : Int) (hq : q = c.toNat) (hx : a.eval x = .slice (some ⟨W.heap.size, 0, none⟩) 1 1)
    (hl : l.length ≤ 1099511627776) (hbase : B ≤ W.heap.size)
    (h : ∀ v' w', Hid (Buf w' B v' (l ++ [c])) → Hid (Below B W w') → wpList Tryz.prog ops Q rest (a.put o.dst v') w') : wpList Tryz.prog ops Q (o :: rest) a (W.alloc (.cells #[.int .u8 q] 5)) := by
  subst hq
  have hx1 : Ext W (W.alloc (.cells #[.int .u8 (c.toNat : Int)] 5)) := (Ext.refl W).alloc _
  refine wpList_append_byte hgd s x ho B v l hs (hB.ext hx1) W.heap.size 1 c hx ?_ hl (Nat.le_trans hbase hx1.size) fun v' w' h1 h2 => h v' w' h1 ?_
  · rw [cell_of_row _ _ _ _ _ _ (heap_new W _)]; rfl
  · exact Below.trans (Below.mono hx1 hbase) h2.out

/-- append([]byte("parquet "), s...): there is no room. -/
theorem wpList_append_first {w : World} {ops : Array Oper} {rest : List Oper} {o : Oper} {a : Act} {Q : Exit → Act → World → Prop} (hgd : o.guard = none) (s x : Operand)
    (ho : o.op = .call { callee := .builtin .append, args := #[s, x], argTypes := #[36, 9] })
    (B g : Nat) (l t : List UInt8) (k : Nat) (hs : a.eval s = .slice (some ⟨g, 0, none⟩) k k) (hk : k = l.length) (hc : ∀ (j : Nat) (u : UInt8), l[j]? = some u → w.cell? ⟨g, j, none⟩ = some (.int .u8 u.toNat))
    (hx : a.eval x = .string ⟨t.toArray⟩) (h0 : 0 < t.length) (hl : l.length + t.length ≤ 1099511627776) (hbase : B ≤ w.heap.size)
    (h : ∀ v' w', Hid (Buf w' B v' (l ++ t)) → Hid (Ext w w') → wpList Tryz.prog ops Q rest (a.put o.dst v') w') : wpList Tryz.prog ops Q (o :: rest) a w := by
  subst hk
  obtain ⟨i0, hi, hz0, hz1, hz2⟩ := info_parts Tryz.infoU8
  have hsz : (⟨t.toArray⟩ : ByteArray).size = t.length := by simp [ByteArray.size]
  have hr := Lib.run_append_grow_string (P := Tryz.prog) w 36 9 o.type 5 i0 (.int .u8 0) Tryz.underlying36 Tryz.underlying9 hi hz0 ⟨g, 0, none⟩ l.length l.length (Lib.byteCells l) (by rw [hz1]; simp [Lib.byteCells]) (by
    intro j v hj
    have ea : (⟨g, 0, none⟩ : Addr).add j = ⟨g, j, none⟩ := by
      unfold Addr.add
      split
      · rename_i h; rw [h]
      · simp
    rw [ea]
    simp only [Lib.byteCells, List.getElem?_map] at hj
    cases hh : l[j]? with
    | none => rw [hh] at hj; cases hj
    | some u =>
      rw [hh] at hj
      simp only [Option.map_some, Option.some.injEq] at hj
      subst hj
      exact hc j u hh) ⟨t.toArray⟩ (by omega) (by omega) (by rw [hsz, hz2]; exact growslice_fits (by omega) (by omega))
  refine wpList_plain hgd fun K hK => ?_
  unfold Oper.wp execOp
  simp only [ho, resolve, invoke, builtin, Sem.run_bind, Sem.run_pure, Result.andThen_ok, List.map_toArray, List.map_cons, List.map_nil, hs, hx, hr]
  refine hK _ _ (h _ _ ?_ ?_)
  · have hge := grownCap_ge w (l.length + t.length) l.length 5
    have hle := grownCap_le_maxLen w (l.length + t.length) l.length 5 (by unfold maxLen; omega)
    have hcz : (Value.int IntKind.u8 0).cells.size = 1 := rfl
    rw [hsz]
    refine ⟨by rw [Lib.byteCells_length]; omega, .inr ⟨w.heap.size, grownCap w (l.length + t.length) l.length 5, _, ?_, hbase, heap_new w.drew _, ?_, hle, ?_, ?_⟩⟩
    · rw [List.length_append]
    · rw [List.length_append]; exact hge
    · simp only [Array.size_append, size_zeroCells, hcz, Lib.strCells_toArray, List.size_toArray, Lib.byteCells_length]; omega
    · simp only [Lib.strCells_toArray, Array.toList_append, List.toList_toArray, Nat.mul_one, ← byteCells_append]
      rw [List.take_append_of_le_length (by rw [Lib.byteCells_length]; omega), List.take_of_length_le (by rw [Lib.byteCells_length]; omega)]
  · exact Ext.alloc (Ext.drew (Ext.refl w)) _
end Go.Proofs.YtiihnoelclnahaaGreatDoor
