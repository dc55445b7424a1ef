/- make and copy on rows of digits, as facts for a walk. -/
import Derived.Test.YtiihnoelclnahaaGreatDoorNatLess
import Derived.Laws.CopyOwn
import Derived.Laws.MakeOwn
import Derived.Maps.AppendAt
import Derived.Deep.AppendLies
import Derived.Laws.Rows
namespace Go.Proofs.YtiihnoelclnahaaGreatDoor
open Go.RowKit
set_option linter.unusedVariables false

theorem Tryz.infoU32 : (Tryz.prog.info? 145).map (fun i => (i.zero, i.size, i.bytes)) = some (some (.int .u32 0), 1, 4) := by kernel_rfl
theorem Tryz.sizeU32 : (Tryz.prog.info? 145).map (·.size) = some 1 := by kernel_rfl

/-- A row of n noughts, as it is made. -/
def zerosA (n : Nat) : Array Value := ((List.replicate n 0).map fun d : Nat => Value.int .u32 (d : Int)).toArray

theorem Row.zeros (w : World) (t : TypeId) (n : Nat) : Row (w.alloc (.cells (zerosA n) t)) t w.heap.size (List.replicate n 0) := Row.new w t _ _ rfl

theorem make_u32 (m : Int) (n : Nat) (h : m = n) (hn : n ≤ 1099511627776) (w : World) :
    (Instr.makeSlice 79 (.int .i64 m) (.int .i64 m)).run Tryz.prog w = .ok (.slice (some ⟨w.heap.size, 0, none⟩) n n) (w.alloc (.cells (zerosA n) 145)) := by
  subst h
  obtain ⟨i0, hi, hz0, hz1, hz2⟩ := info_parts Tryz.infoU32
  have hr := run_make (P := Tryz.prog) w 79 145 i0 _ Tryz.underlying79 hi hz0 .i64 .i64 n n (by omega) (by omega) (by rw [hz2]; omega) (by omega)
  simp only [Int.toNat_natCast] at hr
  rw [hr, hz1, Nat.mul_one]
  have : madeCells (Value.int IntKind.u32 0).cells n = zerosA n := by
    unfold madeCells zerosA
    apply Array.ext
    · simp
    · intro i h1 h2
      simp [Value.cells, Nat.mod_one]
  rw [this]

theorem splice_digs (l Z : List Nat) (h : l.length ≤ Z.length) : splice (Z.map fun d : Nat => Value.int .u32 (d : Int)) 0 (l.map fun d : Nat => Value.int .u32 (d : Int)) = (l ++ Z.drop l.length).map fun d : Nat => Value.int .u32 (d : Int) := by
  unfold splice; simp

/-- copy(out, src) where out is a row of the call's own and src digits that fit. -/
theorem wpList_copy_digs {w : World} {ops : Array Oper} {rest : List Oper} {o : Oper} {a : Act} {Q : Exit → Act → World → Prop} (hgd : o.guard = none) (d s : Operand)
    (ho : o.op = .call { callee := .builtin .copy, args := #[d, s], argTypes := #[79, 79] })
    (g n dCap : Nat) (A : Option Addr) (m sCap : Nat) (hd : a.eval d = .slice (some ⟨g, 0, none⟩) n dCap) (hs : a.eval s = .slice A m sCap)
    (Z l : List Nat) (hR : Row w 145 g Z) (hZ : Z.length = n) (hl : l.length = m) (hm : m ≤ n) (hA : Digs w A l)
    (h : ∀ w', Hid (Row w' 145 g (l ++ Z.drop m)) → Hid (Below g w w') → wpList Tryz.prog ops Q rest (a.put o.dst (goInt m)) w') :
    wpList Tryz.prog ops Q (o :: rest) a w := by
  refine wpList_copy_splice hgd d s _ _ ho 145 Tryz.underlying79 Tryz.sizeU32 _ A n dCap m sCap hd hs g 0 (Z.map fun d : Nat => Value.int .u32 (d : Int)) 145 hR
    (l.map fun d : Nat => Value.int .u32 (d : Int)) (by simp only [List.length_map, hl]; exact (Nat.min_eq_left hm).symm) ?_ (by simp; omega) ?_ g w (Below.refl _ _) (Nat.le_refl _) ?_
  · intro h0
    obtain ⟨b, off, e, hb, hc⟩ := hA (by simpa using h0)
    refine ⟨rfl, _, e, fun j v hj => ?_⟩
    rw [List.getElem?_map] at hj
    cases hh : l[j]? with
    | none => rw [hh] at hj; cases hj
    | some x =>
      rw [hh] at hj
      have := hc j x hh
      simp only [Option.map_some, Option.some.injEq] at hj
      subst hj
      rw [← this]
      unfold Addr.add
      split
      · subst_vars; rfl
      · rfl
  · intro v hv
    obtain ⟨x, _, rfl⟩ := List.mem_map.1 hv
    rfl
  · intro w' hR' hb'
    have e : (goInt ((l.map fun d : Nat => Value.int .u32 (d : Int)).length)) = goInt m := by simp [hl]
    rw [e]
    refine h w' ?_ hb'
    have := hR'.out
    rw [splice_digs l Z (by omega), hl] at this
    exact this
end Go.Proofs.YtiihnoelclnahaaGreatDoor
