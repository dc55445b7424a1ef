/- save.Read. -/
import Derived.Test.YtiihnoelclnahaaGreatDoorSaveNum
import Derived.Test.YtiihnoelclnahaaGreatDoorSaveDoor
import Derived.Test.YtiihnoelclnahaaGreatDoorSaveMat
import Derived.Laws.EntriesVeiled
import Derived.IntWalk
namespace Go.Proofs.YtiihnoelclnahaaGreatDoor
set_option linter.unusedSimpArgs false
open Go.RowKit
set_option linter.unusedVariables false

/-- What Read leaves: the lists, or a fault. -/
def ReadPost (r : Except (Int × Nat) (List (List (List Int)))) (w : World) (e : Ending) (w' : World) : Prop :=
  Ext w w' ∧ ((∃ ls A c, r = .ok ls ∧ e = .returned (.tuple #[.slice A ls.length c, .nilIface]) ∧ IsForms w' A ls) ∨
    (∃ code a N, r = .error (code, a) ∧ e = .returned (.tuple #[.slice none 0 0, .iface 43 (.pointer (some ⟨N, 0, none⟩))]) ∧ w.heap.size ≤ N ∧ IsFault w' N code a))

/-- The named results are read. -/
theorem read_results {tmps : Array Value} {bO bE : Nat} {v e : Value} {w : World} (h2 : tmps[2]? = some (.pointer (some ⟨bO, 0, none⟩))) (h3 : tmps[3]? = some (.pointer (some ⟨bE, 0, none⟩)))
    (cO : w.cell? ⟨bO, 0, none⟩ = some v) (cE : w.cell? ⟨bE, 0, none⟩ = some e) : (results Tryz.f11 tmps).run Tryz.prog w = .ok (.tuple #[v, e]) w := by
  have e2 : tmps.getD 2 undef = .pointer (some ⟨bO, 0, none⟩) := by rw [Array.getD_eq_getD_getElem?, h2]; rfl
  have e3 : tmps.getD 3 undef = .pointer (some ⟨bE, 0, none⟩) := by rw [Array.getD_eq_getD_getElem?, h3]; rfl
  simp [results, Tryz.results11, go_sem, h2, h3, cO, cE]

/-- A fault that goes through the door. -/
theorem read_caught {tmps : Array Value} {w0 w : World} {r : Except (Int × Nat) (List (List (List Int)))} {bO bE N a : Nat} {code : Int} {v e : Value} (hr : r = .error (code, a)) (h2 : tmps[2]? = some (.pointer (some ⟨bO, 0, none⟩))) (h3 : tmps[3]? = some (.pointer (some ⟨bE, 0, none⟩)))
    (cO : w.cell? ⟨bO, 0, none⟩ = some v) (fO : w.frozen? ⟨bO, 0, none⟩ = false) (cE : w.cell? ⟨bE, 0, none⟩ = some e) (fE : w.frozen? ⟨bE, 0, none⟩ = false) (hne : bO ≠ bE) (hF : IsFault w N code a) (nO : N ≠ bO) (nE : N ≠ bE) (hN : w0.heap.size ≤ N) (hO : w0.heap.size ≤ bO) (hE : w0.heap.size ≤ bE) (hX : Ext w0 w) :
    Leaves Tryz.prog Tryz.f11 tmps (ReadPost r w0) [{ target := .fn (.func 22) #[.pointer (some ⟨bO, 0, none⟩), .pointer (some ⟨bE, 0, none⟩)], args := #[] }] (.panicking (faultAt N)) w := by
  refine leaves_cons (f := 22) (args := #[.pointer (some ⟨bO, 0, none⟩), .pointer (some ⟨bE, 0, none⟩)]) (by simp) (by simp [go_sem]) ?_
  refine (catch_fault bO bE N v e [] w cO fO cE fE hne).mono ?_
  rintro e1 u' w'' ⟨rfl, rfl, rfl⟩
  have cO2 : ((w.setCell ⟨bO, 0, none⟩ (.slice none 0 0)).setCell ⟨bE, 0, none⟩ (.iface 43 (.pointer (some ⟨N, 0, none⟩)))).cell? ⟨bO, 0, none⟩ = some (.slice none 0 0) := by
    rw [World.cell?_setCell_other _ _ _ _ (by intro h; injection h with h1 h2; exact hne h1.symm)]
    exact setc cO
  have cE2 : ((w.setCell ⟨bO, 0, none⟩ (.slice none 0 0)).setCell ⟨bE, 0, none⟩ (.iface 43 (.pointer (some ⟨N, 0, none⟩)))).cell? ⟨bE, 0, none⟩ = some (.iface 43 (.pointer (some ⟨N, 0, none⟩))) := by
    refine setc (u := e) ?_
    rw [World.cell?_setCell_other _ _ _ _ (by intro h; injection h with h1 h2; exact hne h1)]
    exact cE
  refine ⟨_, read_results h2 h3 cO2 cE2, (hX.setCell hO _).setCell hE _, .inr ⟨code, a, N, hr, rfl, hN, ?_⟩⟩
  unfold IsFault
  rw [Below.heap_setCell _ _ _ _ nE, Below.heap_setCell _ _ _ _ nO]
  exact hF

/-- The end of the text. -/
theorem read_told {tmps : Array Value} {w0 w : World} {r : Except (Int × Nat) (List (List (List Int)))} {bO bE c : Nat} {ls : List (List (List Int))} {A : Option Addr} (hr : r = .ok ls) (h2 : tmps[2]? = some (.pointer (some ⟨bO, 0, none⟩))) (h3 : tmps[3]? = some (.pointer (some ⟨bE, 0, none⟩)))
    (cO : w.cell? ⟨bO, 0, none⟩ = some (.slice A ls.length c)) (cE : w.cell? ⟨bE, 0, none⟩ = some .nilIface) (hF : IsForms w A ls) (hX : Ext w0 w) :
    Leaves Tryz.prog Tryz.f11 tmps (ReadPost r w0) [{ target := .fn (.func 22) #[.pointer (some ⟨bO, 0, none⟩), .pointer (some ⟨bE, 0, none⟩)], args := #[] }] .returning w := by
  refine leaves_cons (f := 22) (args := #[.pointer (some ⟨bO, 0, none⟩), .pointer (some ⟨bE, 0, none⟩)]) (by simp) (by simp [go_sem]) ?_
  refine (catch_idle bO bE w).mono ?_
  rintro e1 u' w'' ⟨rfl, rfl, rfl⟩
  exact ⟨_, read_results h2 h3 cO cE, hX, .inl ⟨ls, A, c, hr, rfl, hF⟩⟩

set_option maxHeartbeats 2000000 in
set_option maxRecDepth 100000 in
theorem read_long (s : ByteArray) (w : World) (hs : 1048576 < s.size) (hm : s.size ≤ 9223372036854775807) :
    Calls Tryz.prog 11 #[.string s] w (ReadPost (.error (3, 0)) w) := by
  have hd : decide ((1048576 : Int) < s.size) = true := by simp; omega
  go_enter_defers Tryz.func11, Tryz.ntmps11
  go_wp2
  obtain ⟨W0, hWW0⟩ : ∃ W0 : World, (((w.alloc (.cells #[.string s] 9)).alloc (.cells #[.slice none 0 0] 22)).alloc (.cells #[.iface 43 (.pointer (some ⟨w.heap.size + 1 + 1 + 1, 0, none⟩))] 32)).alloc (.cells #[.int .i64 3, .int .i64 0, .string ⟨#[]⟩] 47) = W0 := ⟨_, rfl⟩
  have hXW0 : Ext w W0 := by rw [← hWW0]; exact (((((Ext.refl w).alloc _).alloc _).alloc _).alloc _)
  have hsW0 : w.heap.size + 4 ≤ W0.heap.size := by rw [← hWW0]; simp only [World.size_alloc]; omega
  have c0 : W0.cell? ⟨w.heap.size, 0, none⟩ = some (.string s) := by rw [← hWW0]; simp [go_sem]
  have f0 : W0.frozen? ⟨w.heap.size, 0, none⟩ = false := by rw [← hWW0]; simp [go_sem]
  have c1 : W0.cell? ⟨w.heap.size + 1, 0, none⟩ = some (.slice none 0 0) := by rw [← hWW0]; simp [go_sem]
  have f1 : W0.frozen? ⟨w.heap.size + 1, 0, none⟩ = false := by rw [← hWW0]; simp [go_sem]
  have c2 : W0.cell? ⟨w.heap.size + 1 + 1, 0, none⟩ = some (.iface 43 (.pointer (some ⟨w.heap.size + 1 + 1 + 1, 0, none⟩))) := by rw [← hWW0]; simp [go_sem]
  have f2 : W0.frozen? ⟨w.heap.size + 1 + 1, 0, none⟩ = false := by rw [← hWW0]; simp [go_sem]
  have c3a : W0.cell? ⟨w.heap.size + 1 + 1 + 1, 0, none⟩ = some (.int .i64 3) := by rw [← hWW0]; simp [go_sem]
  have f3a : W0.frozen? ⟨w.heap.size + 1 + 1 + 1, 0, none⟩ = false := by rw [← hWW0]; simp [go_sem]
  have c3b : W0.cell? ⟨w.heap.size + 1 + 1 + 1, 1, none⟩ = some (.int .i64 0) := by rw [← hWW0]; simp [go_sem]
  have f3b : W0.frozen? ⟨w.heap.size + 1 + 1 + 1, 1, none⟩ = false := by rw [← hWW0]; simp [go_sem]
  have c3c : W0.cell? ⟨w.heap.size + 1 + 1 + 1, 2, none⟩ = some (.string ⟨#[]⟩) := by rw [← hWW0]; simp [go_sem]
  have f3c : W0.frozen? ⟨w.heap.size + 1 + 1 + 1, 2, none⟩ = false := by rw [← hWW0]; simp [go_sem]
  have HWW0 := Lib.hid hWW0
  clear hWW0
  rw [HWW0.out]
  refine ⟨_, read_results rfl rfl c1 c2, hXW0, .inr ⟨3, 0, w.heap.size + 1 + 1 + 1, rfl, rfl, by omega, ?_⟩⟩
  have := heap_new (((w.alloc (.cells #[.string s] 9)).alloc (.cells #[.slice none 0 0] 22)).alloc (.cells #[.iface 43 (.pointer (some ⟨w.heap.size + 1 + 1 + 1, 0, none⟩))] 32)) (.cells #[.int .i64 3, .int .i64 0, .string ⟨#[]⟩] 47)
  rw [HWW0.out] at this
  unfold IsFault
  simp only [World.size_alloc] at this
  rw [this]; rfl

/-- At the door only the slots 2 and 3 of the frame are read. -/
theorem leaves_same {R : Ending → World → Prop} {tmps tmps' : Array Value} (h2 : tmps'[2]? = tmps[2]?) (h3 : tmps'[3]? = tmps[3]?) : ∀ (ds : List Deferred) (u : FrameMode) (w : World),
    Leaves Tryz.prog Tryz.f11 tmps R ds u w → Leaves Tryz.prog Tryz.f11 tmps' R ds u w := by
  intro ds
  induction ds with
  | nil =>
    intro u w h
    cases u with
    | run => exact h
    | panicking c => exact h
    | returning =>
      obtain ⟨v, hr, hR⟩ := h
      refine ⟨v, ?_, hR⟩
      rw [← hr]
      simp [results, Tryz.results11, h2, h3]
  | cons d ds ih =>
    intro u w h
    obtain ⟨hu, fv, cap, f, args, hd, hi, hC⟩ := h
    refine ⟨hu, fv, cap, f, args, hd, hi, hC.mono fun e u' w' hq => ?_⟩
    cases e with
    | returned v => exact ih _ _ hq
    | panicked c => exact ih _ _ hq
    | outgrown => exact hq
theorem leaves_put {R : Ending → World → Prop} {a : Act} {d : Nat} {v : Value} {u : FrameMode} {w : World} (h2 : d ≠ 2) (h3 : d ≠ 3) (h : Leaves Tryz.prog Tryz.f11 (a.put (some d) v).tmps R (a.put (some d) v).defers u w) : Leaves Tryz.prog Tryz.f11 a.tmps R a.defers u w :=
  leaves_same (by simp [Act.put, h2]) (by simp [Act.put, h3]) _ _ _ h

theorem NumPost_ok {v : Int} {b bA : Nat} {w w' : World} {e : Ending} (h : (∃ v' b', (Except.ok (v, b) : Except Nat (Int × Nat)) = .ok (v', b') ∧ e = .returned (.int .i64 v') ∧ w'.cell? ⟨bA, 0, none⟩ = some (.int .i64 (b' : Nat)) ∧ w'.frozen? ⟨bA, 0, none⟩ = false) ∨ (∃ b', (Except.ok (v, b) : Except Nat (Int × Nat)) = .error b' ∧ Failed 280 b' w e w')) :
    ∃ v' b', (v = v' ∧ b = b') ∧ e = .returned (.int .i64 v') ∧ w'.cell? ⟨bA, 0, none⟩ = some (.int .i64 (b' : Nat)) ∧ w'.frozen? ⟨bA, 0, none⟩ = false := by
  rcases h with ⟨v', b', he, h1, h2, h3⟩ | ⟨b', he, _⟩
  · injection he with he; injection he with e1 e2; exact ⟨v', b', ⟨e1, e2⟩, h1, h2, h3⟩
  · cases he

/-- A closure's panic: from the world ahead of the call. -/
theorem read_panic {tmps : Array Value} {w0 wr w' : World} {s : ByteArray} {r : Except (Int × Nat) (List (List (List Int)))} {bS bO bE bA bF p N a : Nat} {code : Int} {ov : Value} (I : RdInv w0 wr s bS bO bE bA bF p) (cO : wr.cell? ⟨bO, 0, none⟩ = some ov)
    (hx : ExtBut (fun x => x = bA) wr w') (hN : wr.heap.size ≤ N) (hF : IsFault w' N code a) (hr : r = .error (code, a)) (h2 : tmps[2]? = some (.pointer (some ⟨bO, 0, none⟩))) (h3 : tmps[3]? = some (.pointer (some ⟨bE, 0, none⟩)))
    (hb : w0.heap.size ≤ bS ∧ bS < bO ∧ bO < bE ∧ bE < bA) :
    Leaves Tryz.prog Tryz.f11 tmps (ReadPost r w0) [{ target := .fn (.func 22) #[.pointer (some ⟨bO, 0, none⟩), .pointer (some ⟨bE, 0, none⟩)], args := #[] }] (.panicking (faultAt N)) w' := by
  obtain ⟨h4, h5, h6, h7⟩ := hb
  have l1 := I.lO
  have l2 := lt_of_cell I.E
  simp only [] at l2
  have l3 := I.X.size
  exact read_caught hr h2 h3 (hx.cell cO (by omega)) (hx.free I.fO I.lO (by omega)) (hx.cell I.E (by omega)) (hx.free I.fE l2 (by omega)) (by omega) hF (by omega) (by omega) (by omega) (by omega) (by omega) (I.X.but hx (by rintro g rfl; omega))

set_option maxHeartbeats 2000000 in
set_option maxRecDepth 100000 in
theorem read_rest (s : ByteArray) (w : World) (hs : s.size ≤ 1048576) (hv : Vars w) :
    Calls Tryz.prog 11 #[.string s] w (ReadPost (readP s.data.toList) w) := by
  have hd : decide ((1048576 : Int) < s.size) = false := by simp; omega
  have HL : Hid (¬ 1048576 < s.data.toList.length) := by simp [Hid]; exact hs
  have HV := Lib.hid hv
  have hmf : ∀ (fn : Fn) (first cap : Array Value) (w : World), (Instr.makeFunc fn first cap).run Tryz.prog w = .ok (.func fn first cap) w := fun _ _ _ _ => rfl
  have hs40 : s.size ≤ 1099511627776 := by omega
  obtain ⟨W0, hWW0⟩ : ∃ W0 : World, ((((w.alloc (.cells #[.string s] 9)).alloc (.cells #[.slice none 0 0] 22)).alloc (.cells #[.nilIface] 32)).alloc (.cells #[.int .i64 0] 3)).alloc (.cells #[.func (.func 21) #[] #[]] 53) = W0 := ⟨_, rfl⟩
  have hXW0 : Ext w W0 := by rw [← hWW0]; exact ((((((Ext.refl w).alloc _).alloc _).alloc _).alloc _).alloc _)
  have hsW0 : w.heap.size + 5 ≤ W0.heap.size := by rw [← hWW0]; simp only [World.size_alloc]; omega
  have c0 : W0.cell? ⟨w.heap.size, 0, none⟩ = some (.string s) := by rw [← hWW0]; simp [go_sem]
  have f0 : W0.frozen? ⟨w.heap.size, 0, none⟩ = false := by rw [← hWW0]; simp [go_sem]
  have c1 : W0.cell? ⟨w.heap.size + 1, 0, none⟩ = some (.slice none 0 0) := by rw [← hWW0]; simp [go_sem]
  have f1 : W0.frozen? ⟨w.heap.size + 1, 0, none⟩ = false := by rw [← hWW0]; simp [go_sem]
  have c2 : W0.cell? ⟨w.heap.size + 1 + 1, 0, none⟩ = some (.nilIface) := by rw [← hWW0]; simp [go_sem]
  have f2 : W0.frozen? ⟨w.heap.size + 1 + 1, 0, none⟩ = false := by rw [← hWW0]; simp [go_sem]
  have c3 : W0.cell? ⟨w.heap.size + 1 + 1 + 1, 0, none⟩ = some (.int .i64 0) := by rw [← hWW0]; simp [go_sem]
  have f3 : W0.frozen? ⟨w.heap.size + 1 + 1 + 1, 0, none⟩ = false := by rw [← hWW0]; simp [go_sem]
  have c4 : W0.cell? ⟨w.heap.size + 1 + 1 + 1 + 1, 0, none⟩ = some (.func (.func 21) #[] #[]) := by rw [← hWW0]; simp [go_sem]
  have f4 : W0.frozen? ⟨w.heap.size + 1 + 1 + 1 + 1, 0, none⟩ = false := by rw [← hWW0]; simp [go_sem]
  have HWW0 := Lib.hid hWW0
  clear hWW0
  clear hv
  go_enter_defers Tryz.func11, Tryz.ntmps11
  go_wp2_with fail
  rw [HWW0.out]
  obtain ⟨bF, hbF⟩ : ∃ bF, w.heap.size + 1 + 1 + 1 + 1 = bF := ⟨_, rfl⟩
  obtain ⟨bA, hbA⟩ : ∃ bA, w.heap.size + 1 + 1 + 1 = bA := ⟨_, rfl⟩
  obtain ⟨bE, hbE⟩ : ∃ bE, w.heap.size + 1 + 1 = bE := ⟨_, rfl⟩
  obtain ⟨bO, hbO⟩ : ∃ bO, w.heap.size + 1 = bO := ⟨_, rfl⟩
  obtain ⟨bS, hbS⟩ : ∃ bS, w.heap.size = bS := ⟨_, rfl⟩
  rw [hbF, hbA, hbE, hbO, hbS]
  rw [hbF] at c4 f4
  rw [hbA] at c3 f3
  rw [hbE] at c2 f2
  rw [hbO] at c1 f1
  rw [hbS] at c0 f0
  obtain ⟨B, hB⟩ : ∃ B, W0.heap.size = B := ⟨_, rfl⟩
  have i0 : w.heap.size ≤ bS := by omega
  have i1 : bS < bO := by omega
  have i2 : bO < bE := by omega
  have i3 : bE < bA := by omega
  have i4 : bA < bF := by omega
  have i5 : bF < B := by omega
  have HI0 : Hid (RdInv w W0 s bS bO bE bA bF 0) := ⟨c0, c2, f2, f1, c3, f3, c4, hXW0, by omega⟩
  have HO0 := Lib.hid c1
  have H1 := Lib.hid (word_any s ⟨#[112, 97, 114, 113, 117, 101, 116, 32]⟩ 0 bA bS bF W0 hs40 (by decide) (by omega) c3 f3 c0 c4 (by omega) (by omega))
  rw [show (⟨#[112, 97, 114, 113, 117, 101, 116, 32]⟩ : ByteArray).data.toList = headW from rfl] at H1
  have hbB : B ≤ W0.heap.size := by omega
  clear hbF hbA hbE hbO hbS hB c0 f0 c1 f1 c2 f2 c3 f3 c4 f4 hXW0 hsW0 HWW0
  refine H1.out.mono ?_
  rintro e w1 ⟨hr, hx⟩
  rcases hr with ⟨p1, hw1, rfl, cA1, fA1⟩ | ⟨b, hw1, N, rfl, hN, hF⟩
  case inr =>
    have HRes := Lib.hid (readP_1 HL.out hw1)
    have HX := Lib.hid hx
    have HF := Lib.hid hF
    clear hx hF hw1 H1
    go_wp2
    exact read_panic HI0.out HO0.out HX.out hN HF.out HRes.out rfl rfl ⟨i0, i1, i2, i3⟩
  have hp1 := (wordP_le hw1 (by omega)).2
  rw [show s.data.toList.length = s.size by simp] at hp1
  have HW1 := Lib.hid hw1
  have HI1 : Hid (RdInv w w1 s bS bO bE bA bF p1) := HI0.out.but hx cA1 fA1 (by omega) (by omega)
  have HO1 : Hid (w1.cell? ⟨bO, 0, none⟩ = some (.slice none 0 0)) := hx.cell HO0.out (by omega)
  have hB1 : B ≤ w1.heap.size := Nat.le_trans hbB hx.size
  clear hx cA1 fA1 hw1 H1 HI0 HO0 hbB
  have H2 := Lib.hid (number_any s 0 64 p1 bA bS bF w1 hs40 hp1 (HV.out.ext HI1.out.X) HI1.out.A HI1.out.fA HI1.out.S HI1.out.F (by omega) (by omega))
  go_wp2_with fail
  refine H2.out.mono ?_
  rintro e w2 ⟨hr, hx⟩
  rcases hr with ⟨v, p2, hw2, rfl, cA2, fA2⟩ | ⟨b, hw2, N, rfl, hN, hF⟩
  case inr =>
    have HRes := Lib.hid (readP_2 HL.out HW1.out hw2)
    have HX := Lib.hid hx
    have HF := Lib.hid hF
    clear hx hF hw2 H2
    go_wp2
    exact read_panic HI1.out HO1.out HX.out hN HF.out HRes.out rfl rfl ⟨i0, i1, i2, i3⟩
  have hp2 := numP_le hw2 (by simpa using hp1)
  rw [show s.data.toList.length = s.size by simp] at hp2
  obtain ⟨_, hp2, hv0, hv1⟩ := hp2
  obtain ⟨nn, rfl⟩ := Int.eq_ofNat_of_zero_le hv0
  have HW2 := Lib.hid hw2
  have HI2 : Hid (RdInv w w2 s bS bO bE bA bF p2) := HI1.out.but hx cA2 fA2 (by omega) (by omega)
  have HO2 : Hid (w2.cell? ⟨bO, 0, none⟩ = some (.slice none 0 0)) := hx.cell HO1.out (by omega)
  have hB2 : B ≤ w2.heap.size := Nat.le_trans hB1 hx.size
  clear hx cA2 fA2 hw2 H2 HI1 HO1 hB1
  have H3 := Lib.hid (word_any s ⟨#[10]⟩ p2 bA bS bF w2 hs40 (by decide) hp2 HI2.out.A HI2.out.fA HI2.out.S HI2.out.F (by omega) (by omega))
  rw [show (⟨#[10]⟩ : ByteArray).data.toList = [10] from rfl] at H3
  go_wp2_with fail
  refine H3.out.mono ?_
  rintro e w3 ⟨hr, hx⟩
  rcases hr with ⟨p3, hw3, rfl, cA3, fA3⟩ | ⟨b, hw3, N, rfl, hN, hF⟩
  case inr =>
    have HRes := Lib.hid (readP_3 HL.out HW1.out HW2.out hw3)
    have HX := Lib.hid hx
    have HF := Lib.hid hF
    clear hx hF hw3 H3
    go_wp2
    exact read_panic HI2.out HO2.out HX.out hN HF.out HRes.out rfl rfl ⟨i0, i1, i2, i3⟩
  have hp3 := (wordP_le hw3 (by simpa using hp2)).2
  rw [show s.data.toList.length = s.size by simp] at hp3
  have HI3 : Hid (RdInv w w3 s bS bO bE bA bF p3) := HI2.out.but hx cA3 fA3 (by omega) (by omega)
  have HO3 : Hid (w3.cell? ⟨bO, 0, none⟩ = some (.slice none 0 0)) := hx.cell HO2.out (by omega)
  have hB3 : B ≤ w3.heap.size := Nat.le_trans hB2 hx.size
  have HR3 := readP_4 HL.out HW1.out HW2.out hw3
  rw [Int.toNat_natCast] at HR3
  replace HR3 := Lib.hid HR3
  clear hx cA3 fA3 hw3 H3 HI2 HO2 hB2 HW1 HW2
  go_wp2
  go_loopg [31] nn (fun kk iv wr => ∃ (i p : Nat) (acc : List (List (List Int))) (ov : Value), kk + i = nn ∧ iv = .int .i64 i ∧ acc.length = i ∧ p ≤ s.size ∧ B ≤ wr.heap.size ∧ Hid (RdInv w wr s bS bO bE bA bF p) ∧ Hid (wr.cell? ⟨bO, 0, none⟩ = some ov) ∧ Hid (Forms wr B ov acc) ∧ Hid (readP s.data.toList = afterP s.data.toList (formsP s.data.toList (nn - i) p acc)))
  case atStart => exact ⟨0, p3, [], _, by omega, rfl, rfl, hp3, hB3, HI3, HO3, Forms.nil _ _, HR3⟩
  case round =>
    clear HI3 HO3 hB3 HR3 hp1 hp2 hp3
    obtain ⟨i, p, acc, ov, hki, rfl, hal, hp, hBr, HI, HO, HFm, HR⟩ := hrel
    by_cases hin : i < nn
    · have cA := HI.out.A
      have H1 := Lib.hid (number_any s 1 8 p bA bS bF wr hs40 hp (HV.out.ext HI.out.X) HI.out.A HI.out.fA HI.out.S HI.out.F (by omega) (by omega))
      obtain ⟨k', hk'⟩ : ∃ k', nn - i = k' + 1 := ⟨nn - i - 1, by omega⟩
      rw [hk'] at HR
      have hk2 : nn - (i + 1) = k' := by omega
      have HK2 := Lib.hid hk2
      clear hk' hk2
      go_wp2_with fail
      refine H1.out.mono ?_
      rintro e w1 ⟨hr, hx⟩
      rcases hr with ⟨v, q0, hw1, rfl, cA1, fA1⟩ | ⟨b, hw1, N, rfl, hN, hF⟩
      case inr =>
        have HRes := Lib.hid (HR.out.trans (forms_err (formP_n hw1)))
        have HX := Lib.hid hx
        have HF := Lib.hid hF
        clear hx hF hw1 H1 cA
        go_wp2
        exact read_panic HI.out HO.out HX.out hN HF.out HRes.out rfl rfl ⟨i0, i1, i2, i3⟩
      have hq := numP_le hw1 (by simpa using hp)
      rw [show s.data.toList.length = s.size by simp] at hq
      obtain ⟨_, hq0, hv0, hv1⟩ := hq
      obtain ⟨n, rfl⟩ := Int.eq_ofNat_of_zero_le (show 0 ≤ v by omega)
      have HN := Lib.hid hw1
      have HI1 : Hid (RdInv w w1 s bS bO bE bA bF q0) := HI.out.but hx cA1 fA1 (by omega) (by omega)
      have HO1 : Hid (w1.cell? ⟨bO, 0, none⟩ = some ov) := hx.cell HO.out (by omega)
      have HF1 : Hid (Forms w1 B ov acc) := HFm.out.keep (hx.fr (by omega))
      have hB1 : B ≤ w1.heap.size := Nat.le_trans hBr hx.size
      obtain ⟨FT, hFT⟩ : ∃ FT, flatP s.data.toList (tri n) q0 [] = FT := ⟨_, rfl⟩
      have HFT := Lib.hid hFT
      have hmk := fun W => make_rows (n : Int) n rfl (by omega) W
      clear hx cA1 fA1 hw1 H1 HI HO HFm hBr cA hFT
      go_wp2
      -- <fold>
      obtain ⟨g, hg⟩ : ∃ g, w1.heap.size = g := ⟨_, rfl⟩
      obtain ⟨W2, hW2⟩ : ∃ W2, w1.alloc (.cells (Array.replicate n (.slice none 0 0)) 38) = W2 := ⟨_, rfl⟩
      have hx2 : Ext w1 W2 := by rw [← hW2]; exact (Ext.refl w1).alloc _
      have HM2 : Hid (MatI W2 g g n 0 (fun _ => 0) (ent [])) := by rw [← hg, ← hW2]; exact MatI.new w1 n _ _ _ (Nat.le_refl _)
      have HI2 := Lib.hid (HI1.out.ext hx2)
      have HO2 : Hid (W2.cell? ⟨bO, 0, none⟩ = some ov) := hx2.cell HO1.out
      have HF2 := Lib.hid (hx2.fr B)
      have hB2 : B ≤ W2.heap.size := Nat.le_trans hB1 hx2.size
      have hg2 : g ≤ W2.heap.size := by rw [← hg]; exact hx2.size
      have hBg : B ≤ g := by omega
      have HG := Lib.hid hg
      rw [hg, hW2]
      clear hW2 hx2 HI1 HO1 hg hmk
      go_loopg [39] n (fun kk iv wi => ∃ (r q : Nat) (l : List Int) (h : Nat → Nat), kk + r = n ∧ iv = .int .i64 r ∧ q ≤ s.size ∧ g ≤ wi.heap.size ∧ Hid (l.length = tri r) ∧ Hid (RdInv w wi s bS bO bE bA bF q) ∧ Hid (wi.cell? ⟨bO, 0, none⟩ = some ov) ∧ Hid (Fr B w1 wi) ∧ Hid (MatI wi g g n r h (ent l)) ∧ Hid (flatP s.data.toList (tri n - tri r) q l = FT) ∧ Hid (∀ x ∈ l, -16384 ≤ x ∧ x ≤ 16384))
      case atStart => exact ⟨0, q0, [], _, by omega, rfl, hq0, hg2, rfl, HI2, HO2, HF2, HM2, HFT, by intro x hx; cases hx⟩
      case round =>
        clear HI2 HO2 HF2 HM2 hB2 hg2
        obtain ⟨r, q, l, h, hkr, rfl, hq, hgi, HLL, HI, HO, HFr, HM, HFl, HBd⟩ := hrel
        by_cases hrn : r < n
        · have cg := HM.out.nil r (Nat.le_refl _) hrn
          have fg := HM.out.gfree r
          have hmk := fun W => make_row (n : Int) n rfl (by omega) W
          have hgl := HM.out.gtyp.lt
          go_wp2
          obtain ⟨W3, hW3⟩ : ∃ W3, (wr.setCell ⟨g, r, none⟩ (.slice (some ⟨wr.heap.size, 0, none⟩) n n)).alloc (.cells (Array.replicate n (.int .i64 0)) 2) = W3 := ⟨_, rfl⟩
          obtain ⟨h2, hh2⟩ : ∃ h2, (fun i => if i = r then wr.heap.size else h i) = h2 := ⟨_, rfl⟩
          have HM3 : Hid (MatI W3 g g n (r + 1) h2 (ent l)) := by
            have hM3 := HM.out.grow hrn hgi
            rw [World.setCell_alloc_past _ _ _ _ hgl, hW3, hh2] at hM3
            refine hM3.congr fun i j hi hj => ?_
            by_cases e : i = r
            · subst e; rw [if_pos rfl]; exact (ent_zero (Nat.le_of_eq HLL.out) i (Nat.le_refl _)).symm
            · rw [if_neg e]
          have HI3 : Hid (RdInv w W3 s bS bO bE bA bF q) := by
            rw [← hW3]; exact (HI.out.set_ _ (by omega) (by omega)).ext ((Ext.refl _).alloc _)
          have HO3 : Hid (W3.cell? ⟨bO, 0, none⟩ = some ov) := by
            rw [← hW3]; refine ((Ext.refl _).alloc _).cell ?_
            rw [World.cell?_setCell_other _ _ _ _ (by intro e; injection e with e1 _; omega)]; exact HO.out
          have HF3 : Hid (Fr B w1 W3) := by
            rw [← hW3]; exact (HFr.out.set_ (.inl (by rw [HG.out]; exact Nat.le_refl _)) _).ext ((Ext.refl _).alloc _)
          have hg3 : g ≤ W3.heap.size := by have := HM3.out.gtyp.lt; omega
          rw [hW3]
          clear hW3 hh2 HI HO HFr HM cg fg hmk hgl hgi
          go_loopg [50] (r + 1) (fun kk jv wj => ∃ (j q : Nat) (l : List Int), kk + j = r + 1 ∧ jv = .int .i64 j ∧ q ≤ s.size ∧ g ≤ wj.heap.size ∧ Hid (l.length = tri r + j) ∧ Hid (RdInv w wj s bS bO bE bA bF q) ∧ Hid (wj.cell? ⟨bO, 0, none⟩ = some ov) ∧ Hid (Fr B w1 wj) ∧ Hid (MatI wj g g n (r + 1) h2 (ent l)) ∧ Hid (flatP s.data.toList (tri n - tri r - j) q l = FT) ∧ Hid (∀ x ∈ l, -16384 ≤ x ∧ x ≤ 16384))
          case atStart => exact ⟨0, q, l, by omega, rfl, hq, hg3, HLL, HI3, HO3, HF3, HM3, HFl, HBd⟩
          case round =>
            clear HI3 HO3 HF3 HM3 hg3 HLL HFl HBd hq l q
            obtain ⟨j, q, l, hkj, rfl, hq, hgj, HLL, HI, HO, HFr, HM, HFl, HBd⟩ := hrel
            by_cases hjr : j < r + 1
            · obtain ⟨m', hm'⟩ : ∃ m', tri n - tri r - j = m' + 1 := by
                have h1 := tri_mono (show r + 1 ≤ n by omega)
                rw [tri_succ] at h1
                exact ⟨tri n - tri r - j - 1, by omega⟩
              have hm2 : tri n - tri r - (j + 1) = m' := by omega
              rw [hm'] at HFl
              have HM2 := Lib.hid hm2
              clear hm' hm2
              have H1 := Lib.hid (word_any s ⟨#[32]⟩ q bA bS bF wr hs40 (by decide) hq HI.out.A HI.out.fA HI.out.S HI.out.F (by omega) (by omega))
              rw [show (⟨#[32]⟩ : ByteArray).data.toList = [32] from rfl] at H1
              go_wp2_with fail
              refine H1.out.mono ?_
              rintro e w2 ⟨hr, hx⟩
              rcases hr with ⟨q1, hw2, rfl, cA2, fA2⟩ | ⟨b, hw2, N, rfl, hN, hF⟩
              case inr =>
                have HRes := Lib.hid (HR.out.trans (forms_err (formP_f HN.out (by rw [Int.toNat_natCast, HFT.out, ← HFl.out]; exact flatP_w hw2))))
                have HX := Lib.hid hx
                have HF := Lib.hid hF
                clear hx hF hw2 H1
                go_wp2
                exact read_panic HI.out HO.out HX.out hN HF.out HRes.out rfl rfl ⟨i0, i1, i2, i3⟩
              have hq1 := (wordP_le hw2 (by simpa using hq)).2
              rw [show s.data.toList.length = s.size by simp] at hq1
              have HW2 := Lib.hid hw2
              have HI2 : Hid (RdInv w w2 s bS bO bE bA bF q1) := HI.out.but hx cA2 fA2 (by omega) (by omega)
              have HO2 : Hid (w2.cell? ⟨bO, 0, none⟩ = some ov) := hx.cell HO.out (by omega)
              have HF2 : Hid (Fr B w1 w2) := HFr.out.trans (hx.fr (by omega))
              have HM3 : Hid (MatI w2 g g n (r + 1) h2 (ent l)) := HM.out.keep (hx.fr (by omega))
              have hg2 : g ≤ w2.heap.size := Nat.le_trans hgj hx.size
              clear hx cA2 fA2 hw2 H1 HI HO HFr HM hgj
              have cg := HM3.out.made r (by omega)
              have ch := HM3.out.row r (by omega) j (by omega)
              have fh := HM3.out.free r (by omega) j
              have hgl := HM3.out.low r (by omega)
              have hgt := HM3.out.typ r (by omega)
              have hgt2 := hgt.lt
              have HH := Lib.hid (fun W (hx : Ext w2 W) => number_any s (-16384) 16384 q1 bA bS bF W hs40 hq1 (HV.out.ext (HI2.out.X.trans hx)) (hx.cell HI2.out.A) (hx.free HI2.out.fA (lt_of_cell HI2.out.A)) (hx.cell HI2.out.S) (hx.cell HI2.out.F) (by omega) (by omega))
              have hjn : j < n := by omega
              have hng : g ≠ bA := by omega
              have hne : h2 r ≠ g := HM3.out.ne (by omega)
              have hnh : h2 r ≠ bA := by omega
              clear hgt
              cases hnum : numP s.data.toList (-16384) 16384 q1 with
              | error b =>
                rw [hnum] at HH
                have HRes := Lib.hid (HR.out.trans (forms_err (formP_f HN.out (by rw [Int.toNat_natCast, HFT.out, ← HFl.out]; exact flatP_n HW2.out hnum))))
                clear hnum
                go_wp2_with fail
                refine wp_region_held_drew (S := fun w' => w'.cell? ⟨g, r, none⟩ = some (.slice (some ⟨h2 r, 0, none⟩) n n)) (by kernel_rfl) cg (fun hHeld => ?_)
                refine wpAnyH_take (i := 0) (v := ?_) rfl (by kernel_rfl) (by kernel_rfl) (by kernel_rfl) (fun _ _ _ h => leaves_put (by decide) (by decide) h) (Or.inl ⟨by rfl, ?_⟩) hHeld ?_
                rotate_left
                · intro w' hSw
                  (try dsimp only at hSw)
                  go_simp
                  try with_reducible rfl
                try simp only [Act.put, List.setIfInBounds_toArray, List.set_cons_zero, List.set_cons_succ]
                refine wpAnyH_take (i := 1) (v := ?_) rfl (by kernel_rfl) (by kernel_rfl) (by kernel_rfl) (fun _ _ _ h => leaves_put (by decide) (by decide) h) (Or.inl ⟨by rfl, ?_⟩) hHeld ?_
                rotate_left
                · intro w' hSw
                  (try dsimp only at hSw)
                  go_simp
                  try with_reducible rfl
                try simp only [Act.put, List.setIfInBounds_toArray, List.set_cons_zero, List.set_cons_succ]
                refine wpAnyH_take (i := 2) (v := ?_) rfl (by kernel_rfl) (by kernel_rfl) (by kernel_rfl) (fun _ _ _ h => leaves_put (by decide) (by decide) h) (Or.inl ⟨by rfl, ?_⟩) hHeld ?_
                rotate_left
                · intro w' hSw
                  (try dsimp only at hSw)
                  go_simp
                  try with_reducible rfl
                try simp only [Act.put, List.setIfInBounds_toArray, List.set_cons_zero, List.set_cons_succ]
                refine wpAnyH_take (i := 3) (v := ?_) rfl (by kernel_rfl) (by kernel_rfl) (by kernel_rfl) (fun _ _ _ h => leaves_put (by decide) (by decide) h) (Or.inl ⟨by rfl, ?_⟩) hHeld ?_
                rotate_left
                · intro w' hSw
                  (try dsimp only at hSw)
                  go_simp
                  try with_reducible rfl
                try simp only [Act.put, List.setIfInBounds_toArray, List.set_cons_zero, List.set_cons_succ]
                refine wpAnyH_take (i := 4) (v := ?_) rfl (by kernel_rfl) (by kernel_rfl) (by kernel_rfl) (fun _ _ _ h => leaves_put (by decide) (by decide) h) (Or.inl ⟨by rfl, ?_⟩) hHeld ?_
                rotate_left
                · intro w' hSw
                  (try dsimp only at hSw)
                  go_simp
                  try with_reducible rfl
                try simp only [Act.put, List.setIfInBounds_toArray, List.set_cons_zero, List.set_cons_succ]
                refine wpAnyH_take (i := 5) (v := ?_) rfl (by kernel_rfl) (by kernel_rfl) (by kernel_rfl) (fun _ _ _ h => leaves_put (by decide) (by decide) h) (Or.inl ⟨by rfl, ?_⟩) hHeld ?_
                rotate_left
                · intro w' hSw
                  (try dsimp only at hSw)
                  go_simp
                  try with_reducible rfl
                try simp only [Act.put, List.setIfInBounds_toArray, List.set_cons_zero, List.set_cons_succ]
                refine wpAnyH_ready (rs := [6]) (by kernel_rfl) (by simp) ?_
                refine AllReadyH.cons rfl (fun K hK => ?_) AllReadyH.nil
                go_simp
                refine (HH.out _ (Ext.refl w2).drew).mono ?_
                rintro e w4 ⟨hr, hx⟩
                rcases hr with ⟨v', b', he, _⟩ | ⟨b', he, N, rfl, hN, hF⟩
                · cases he
                injection he with he
                subst he
                have HX4 := Lib.hid (((Ext.refl w2).drew.toBut (fun x => x = bA)).trans hx)
                have HF := Lib.hid hF
                exact read_panic HI2.out HO2.out HX4.out hN HF.out HRes.out rfl rfl ⟨i0, i1, i2, i3⟩
              | ok x =>
                obtain ⟨v, q2⟩ := x
                rw [hnum] at HH
                have hvb := numP_le hnum (by simpa using hq1)
                rw [show s.data.toList.length = s.size by simp] at hvb
                obtain ⟨_, hq2, hv0, hv1⟩ := hvb
                have HNum := Lib.hid hnum
                clear hnum
                go_wp2_with fail
                go_region_held3 (fun w' => w'.cell? ⟨g, r, none⟩ = some (.slice (some ⟨h2 r, 0, none⟩) n n)) (first | exact cg | exact cg4 | (rw [World.cell?_setCell_other _ _ _ _ (by intro e; injection e with e1 _; exact hne e1)]; exact cg4))
                  (first | (go_at_call 24; refine (HH.out _ (Ext.refl w2).drew).mono ?_; rintro e w4 ⟨hr, hx⟩; obtain ⟨v', b', hvb, rfl, cA4, fA4⟩ := NumPost_ok hr; obtain ⟨rfl, rfl⟩ := hvb; have cg4 := hx.cell (b := g) (o := r) cg hng; have ch4 := hx.cell (b := h2 r) (o := j) ch hnh; have fh4 := hx.free (b := h2 r) (o := j) fh hgt2 hnh; have HX4 := Lib.hid hx; clear hx))
                have HX4' : Hid (ExtBut (fun x => x = bA) w2 w4) := ((Ext.refl w2).drew.toBut _).trans HX4.out
                have HM4 := Lib.hid (HM3.out.keep (HX4'.out.fr (B := g) (by omega)))
                have HI4 : Hid (RdInv w w4 s bS bO bE bA bF q2) := HI2.out.but HX4'.out cA4 fA4 (by omega) (by omega)
                have HO4 : Hid (w4.cell? ⟨bO, 0, none⟩ = some ov) := HX4'.out.cell HO2.out (by omega)
                have HF4 : Hid (Fr B w1 w4) := HF2.out.trans (HX4'.out.fr (by omega))
                have hg4 : g ≤ w4.heap.size := Nat.le_trans hg2 HX4'.out.size
                clear HX4 HX4' HM3 HI2 HO2 HF2 hg2 HH cA4 fA4 cg4 ch4 fh4 cg ch fh hgt2
                go_wp2_with fail
                obtain ⟨W5, hW5⟩ : ∃ W5, w4.setCell ⟨h2 r, j, none⟩ (.int .i64 v) = W5 := ⟨_, rfl⟩
                have HM5 : Hid (MatI W5 g g n (r + 1) h2 (fun a b => if a = r ∧ b = j then v else ent l a b)) := by rw [← hW5]; exact HM4.out.set_ (by omega) hjn v
                have HI5 : Hid (RdInv w W5 s bS bO bE bA bF q2) := by rw [← hW5]; exact HI4.out.set_ _ (by omega) (by omega)
                have HO5 : Hid (W5.cell? ⟨bO, 0, none⟩ = some ov) := by
                  rw [← hW5, World.cell?_setCell_other _ _ _ _ (by intro e; injection e with e1 _; omega)]; exact HO4.out
                have HF5 : Hid (Fr B w1 W5) := by rw [← hW5]; exact HF4.out.set_ (.inl (by rw [HG.out]; exact hgl)) _
                have hg5 : g ≤ W5.heap.size := by have := HM5.out.gtyp.lt; omega
                rw [hW5]
                clear hW5 HM4 HI4 HO4 HF4 hg4
                have HM6 := Lib.hid (HM5.out.set_ (i := j) (j := r) (by omega) hrn v)
                have a1 := HM5.out.made j (by omega)
                have a2 := HM5.out.made r (by omega)
                have a3 := HM5.out.row r (by omega) j hjn
                rw [if_pos ⟨rfl, rfl⟩] at a3
                have a4 := HM5.out.row j (by omega) r hrn
                obtain ⟨old, hold⟩ : ∃ old, (if j = r ∧ r = j then v else ent l j r) = old := ⟨_, rfl⟩
                rw [hold] at a4
                clear hold
                have a5 := HM5.out.free j (by omega) r
                have b1 := HM6.out.made j (by omega)
                have b2 := HM6.out.made r (by omega)
                have b3 := HM6.out.row r (by omega) j hjn
                have hif : (if r = j ∧ j = r then v else if r = r ∧ j = j then v else ent l r j) = v := by
                  by_cases e : r = j ∧ j = r
                  · rw [if_pos e]
                  · rw [if_neg e, if_pos ⟨rfl, rfl⟩]
                rw [hif] at b3
                have HB1 := Lib.hid b1
                have HB2 := Lib.hid b2
                have HB3 := Lib.hid b3
                have hlj := HM5.out.low j (by omega)
                have hltj := (HM5.out.typ j (by omega)).lt
                clear hif b1 b2 b3
                go_region_held3 (fun w' => w'.cell? ⟨g, j, none⟩ = some (.slice (some ⟨h2 j, 0, none⟩) n n) ∧ w'.cell? ⟨g, r, none⟩ = some (.slice (some ⟨h2 r, 0, none⟩) n n) ∧ w'.cell? ⟨h2 r, j, none⟩ = some (.int .i64 v)) (first | exact ⟨a1, a2, a3⟩ | exact ⟨HB1.out, HB2.out, HB3.out⟩) (fail)
                go_wp2_with fail
                have hxd : Ext (W5.setCell ⟨h2 j, r, none⟩ (.int .i64 v)) (W5.setCell ⟨h2 j, r, none⟩ (.int .i64 v)).drew := (Ext.refl _).drew
                have hrj : j ≤ r := by omega
                go_roundg (r - j)
                case measure => omega
                case rel => exact ⟨j + 1, q2, l ++ [v], by omega, by go_num, hq2, by have := hxd.size; have h3 : g ≤ (W5.setCell ⟨h2 j, r, none⟩ (.int .i64 v)).heap.size := (by simpa [World.setCell] using hg5); omega, by unfold Hid; rw [List.length_append, HLL.out]; rfl,
                  (HI5.out.set_ _ (by omega) (by omega)).ext hxd, hxd.cell (by rw [World.cell?_setCell_other _ _ _ _ (by intro e; injection e with e1 _; omega)]; exact HO5.out), (HF5.out.set_ (.inl (by rw [HG.out]; exact hlj)) _).ext hxd,
                  (HM6.out.keep (hxd.fr g)).congr (fun a b _ _ => by
                    rw [ent_snoc v HLL.out hrj]
                    by_cases e1 : a = j ∧ b = r
                    · rw [if_pos e1, if_pos (.inr e1)]
                    · rw [if_neg e1]
                      by_cases e2 : a = r ∧ b = j
                      · rw [if_pos e2, if_pos (.inl e2)]
                      · rw [if_neg e2, if_neg (by rintro (h | h); exact e2 h; exact e1 h)]), by
                  have := HFl.out
                  rw [flatP_s HW2.out HNum.out] at this
                  rw [HM2.out]; exact this, by
                  intro x hx
                  rcases List.mem_append.1 hx with h | h
                  · exact HBd.out x h
                  · simp at h; subst h; exact ⟨hv0, hv1⟩⟩
            · obtain rfl : j = r + 1 := by omega
              go_wp2
              go_roundg (n - (r + 1))
              case measure => omega
              case rel => exact ⟨r + 1, q, l, h2, by omega, by go_num, hq, hgj, by rw [tri_succ]; exact HLL, HI, HO, HFr, HM, by
                have := HFl.out
                rw [show tri n - tri (r + 1) = tri n - tri r - (r + 1) by rw [tri_succ]; omega]; exact this, HBd⟩
        · obtain rfl : r = n := by omega
          have HFe : Hid (FT = .ok (l, q)) := by rw [← HFl.out, Nat.sub_self]; rfl
          have HF1' := Lib.hid (HF1.out.keep HFr.out)
          have H1 := Lib.hid (word_any s ⟨#[10]⟩ q bA bS bF wr hs40 (by decide) hq HI.out.A HI.out.fA HI.out.S HI.out.F (by omega) (by omega))
          rw [show (⟨#[10]⟩ : ByteArray).data.toList = [10] from rfl] at H1
          have HFT2 : Hid (flatP s.data.toList (tri (r : Int).toNat) q0 [] = .ok (l, q)) := by rw [Int.toNat_natCast, HFT.out]; exact HFe.out
          go_wp2_with fail
          refine H1.out.mono ?_
          rintro e w2 ⟨hr, hx⟩
          rcases hr with ⟨q1, hw2, rfl, cA2, fA2⟩ | ⟨b, hw2, N, rfl, hN, hF⟩
          case inr =>
            have HRes := Lib.hid (HR.out.trans (forms_err (formP_w HN.out HFT2.out hw2)))
            have HX := Lib.hid hx
            have HF := Lib.hid hF
            clear hx hF hw2 H1
            go_wp2
            exact read_panic HI.out HO.out HX.out hN HF.out HRes.out rfl rfl ⟨i0, i1, i2, i3⟩
          have hq1 := (wordP_le hw2 (by simpa using hq)).2
          rw [show s.data.toList.length = s.size by simp] at hq1
          have HW2 := Lib.hid hw2
          have HI2 : Hid (RdInv w w2 s bS bO bE bA bF q1) := HI.out.but hx cA2 fA2 (by omega) (by omega)
          have HO2 : Hid (w2.cell? ⟨bO, 0, none⟩ = some ov) := hx.cell HO.out (by omega)
          have HF2 : Hid (Forms w2 B ov acc) := HF1'.out.keep (hx.fr (by omega))
          have HM3 : Hid (MatI w2 g g r r h (ent l)) := HM.out.keep (hx.fr (by omega))
          have hg2 : g ≤ w2.heap.size := Nat.le_trans hgi hx.size
          clear hx cA2 fA2 hw2 H1 HI HO HFr HM hgi HF1'
          have HCk := Lib.hid (check_any (some ⟨g, 0, none⟩) r r (matOf r l) w2 (matOf_len r l).symm HM3.out.rows (by
            refine ⟨by rw [matOf_len]; omega, fun row hrow => ?_⟩
            obtain ⟨x, hx, rfl⟩ := List.getElem_of_mem hrow
            obtain ⟨_, he⟩ := matOf_row (List.getElem?_eq_getElem hx)
            rw [he]
            refine ⟨by simp; omega, fun z hz => ?_⟩
            obtain ⟨y, _, rfl⟩ := List.mem_map.1 hz
            unfold ent
            rw [List.getD_eq_getElem?_getD]
            cases hy : l[tri (max x y) + min x y]? with
            | none => simp
            | some z2 => have := HBd.out z2 (List.mem_of_getElem? hy); simp; omega))
          obtain ⟨cc, hcc⟩ : ∃ cc, chk (matOf r l) = cc := ⟨_, rfl⟩
          rw [hcc] at HCk
          have HCC := Lib.hid hcc
          clear hcc
          by_cases hc0 : cc = 0
          · subst hc0
            have HFo : Hid (formP s.data.toList p = .ok (matOf r l, q1)) := by
              have := formP_s HN.out HFT2.out HW2.out (by rw [Int.toNat_natCast]; exact HCC.out)
              rw [Int.toNat_natCast] at this; exact this
            go_wp2_with fail
            refine HCk.out.mono ?_
            rintro e w3 ⟨rfl, hx⟩
            have HI3 := Lib.hid (HI2.out.ext hx)
            have cO3 := hx.cell HO2.out
            have HF3 := Lib.hid (HF2.out.keep (hx.fr B))
            have HM4 := Lib.hid ((HM3.out.keep (hx.fr g)).weak hBg)
            have hB3 : B ≤ w3.heap.size := by have := hx.size; omega
            have hal2 : acc.length ≤ 1000000 := by omega
            clear hx HCk HI2 HO2 HF2 HM3 hg2
            go_wp2_with (with_reducible refine wpList_append_form rfl (.tmp 86) (.tmp 88) rfl B ov acc rfl HF3.out g r h l HM4.out rfl hal2 hB3 ?_)
            intro v4 w4 HF4 HX4
            have HI4 := Lib.hid (HI3.out.below HX4.out ⟨by omega, by omega, by omega, by omega, by omega, by have := HI3.out.X.size; omega⟩)
            have cO4 := old HX4.out cO3 (by omega)
            have fO4 := HI4.out.fO
            have hB4 : B ≤ w4.heap.size := Nat.le_trans hB3 HX4.out.size
            obtain ⟨A4, k4, hv4, _⟩ := HF4.out.value
            obtain ⟨n4, hn4⟩ : ∃ n4, (acc ++ [matOf r l]).length = n4 := ⟨_, rfl⟩
            rw [hn4] at hv4
            subst hv4
            clear hn4
            go_wp2
            go_roundg (nn - (i + 1))
            case measure => omega
            case rel => exact ⟨i + 1, q1, acc ++ [matOf r l], _, by omega, by go_num, by rw [List.length_append, hal]; rfl, hq1, by simpa [World.setCell] using hB4, HI4.out.set_ _ (by omega) (by omega), setc cO4, HF4.out.keep ((Fr.refl B w4).set_ (p := ⟨bO, 0, none⟩) (.inr (by show bO < B; omega)) _), by
              rw [HK2.out]
              have := HR.out
              rw [forms_s HFo.out] at this; exact this⟩
          · have hcb : (cc != 0) = true := by rw [bne_iff_ne]; exact hc0
            have HRes := Lib.hid (HR.out.trans (forms_err (formP_c HN.out HFT2.out HW2.out (by rw [Int.toNat_natCast, HCC.out]; exact hc0))))
            clear hc0
            go_wp2_with fail
            refine HCk.out.mono ?_
            rintro e w3 ⟨rfl, hx⟩
            have HI3 := Lib.hid (HI2.out.ext hx)
            have HO3 := Lib.hid (hx.cell HO2.out)
            have cF3 := HI3.out.F
            clear hx HCk HI2 HO2 HF2 HM3 hg2
            go_wp2_with fail
            refine (fail_any 280 p _).mono ?_
            rintro e w4 ⟨⟨N, rfl, hN, hF⟩, hx⟩
            have HX := Lib.hid (hx.toBut (fun x => x = bA))
            have HF := Lib.hid hF
            clear hx hF cF3
            go_wp2
            exact read_panic HI3.out HO3.out HX.out hN HF.out HRes.out rfl rfl ⟨i0, i1, i2, i3⟩
      -- </fold>
    · obtain rfl : i = nn := by omega
      rw [Nat.sub_self] at HR
      have H1 := Lib.hid (word_any s ⟨#[115, 117, 109, 32]⟩ p bA bS bF wr hs40 (by decide) hp HI.out.A HI.out.fA HI.out.S HI.out.F (by omega) (by omega))
      rw [show (⟨#[115, 117, 109, 32]⟩ : ByteArray).data.toList = sumW from rfl] at H1
      have cA := HI.out.A
      go_wp2_with fail
      refine H1.out.mono ?_
      rintro e w1 ⟨hr, hx⟩
      rcases hr with ⟨f, hw1, rfl, cA1, fA1⟩ | ⟨b, hw1, N, rfl, hN, hF⟩
      case inr =>
        have HRes := Lib.hid (HR.out.trans (after_e (tailP_1 hw1) (by decide)))
        have HX := Lib.hid hx
        have HF := Lib.hid hF
        clear hx hF hw1 H1 cA
        go_wp2
        exact read_panic HI.out HO.out HX.out hN HF.out HRes.out rfl rfl ⟨i0, i1, i2, i3⟩
      have hf := (wordP_le hw1 (by simpa using hp)).2
      rw [show s.data.toList.length = s.size by simp] at hf
      have HW1 := Lib.hid hw1
      have HI1 : Hid (RdInv w w1 s bS bO bE bA bF f) := HI.out.but hx cA1 fA1 (by omega) (by omega)
      have HO1 : Hid (w1.cell? ⟨bO, 0, none⟩ = some ov) := hx.cell HO.out (by omega)
      have HF1 : Hid (Forms w1 B ov acc) := HFm.out.keep (hx.fr (by omega))
      have cA1' := cA1
      clear hx fA1 hw1 H1 HI HO HFm hBr cA cA1
      go_wp2
      go_loopg [95] 16 (fun kk iv wi => ∃ x y : Nat, kk + x = 16 ∧ iv = .int .i64 x ∧ y ≤ s.size ∧ Hid (RdInv w wi s bS bO bE bA bF y) ∧ Hid (wi.cell? ⟨bO, 0, none⟩ = some ov) ∧ Hid (Forms wi B ov acc) ∧ Hid (hexP s.data.toList (16 - x) y = hexP s.data.toList 16 f))
      case atStart => exact ⟨0, f, by omega, rfl, hf, HI1, HO1, HF1, rfl⟩
      case round =>
        clear HI1 HO1 HF1 cA1'
        obtain ⟨x, y, hkx, rfl, hy, HI, HO, HFm, HX⟩ := hrel
        have cA := HI.out.A
        have fA := HI.out.fA
        have cS := HI.out.S
        have cF := HI.out.F
        by_cases hx16 : x < 16
        · obtain ⟨k', hk'⟩ : ∃ k', 16 - x = k' + 1 := ⟨16 - x - 1, by omega⟩
          have hk2 : 16 - (x + 1) = k' := by omega
          rw [hk'] at HX
          have HK2 := Lib.hid hk2
          clear hk' hk2
          by_cases hys : y = s.size
          · have HE : Hid (hexP s.data.toList 16 f = .error y) := by rw [← HX.out]; exact hexP_end (List.getElem?_eq_none (by simp; omega))
            have HRes := Lib.hid (HR.out.trans (after_e (tailP_2 HW1.out HE.out) (by decide)))
            have hyb : ((y : Int) == s.size) = true := by rw [beq_iff_eq]; omega
            clear hys
            go_wp2_with fail
            refine (fail_any 280 y _).mono ?_
            rintro e w4 ⟨⟨N, rfl, hN, hF⟩, hx⟩
            have HX := Lib.hid (hx.toBut (fun x => x = bA))
            have HF := Lib.hid hF
            clear hx hF cF cA fA cS
            go_wp2
            exact read_panic HI.out HO.out HX.out hN HF.out HRes.out rfl rfl ⟨i0, i1, i2, i3⟩
          · have hyl : y < s.size := by omega
            have hyb : ((y : Int) == s.size) = false := by rw [beq_eq_false_iff_ne]; omega
            have hc := byte_at s y hyl
            clear hys
            -- <fold>
            by_cases c1 : s[y].toNat < 48
            · have hb : hexB s[y] = false := by unfold hexB; simp; omega
              have HE : Hid (hexP s.data.toList 16 f = .error y) := by rw [← HX.out]; exact hexP_e hc hb
              have HRes := Lib.hid (HR.out.trans (after_e (tailP_2 HW1.out HE.out) (by decide)))
              have t48 : decide ((48 : Int) ≤ (s[y].toNat : Int)) = false := by simp; omega
              have t97 : decide ((97 : Int) ≤ (s[y].toNat : Int)) = false := by simp; omega
              clear hb hc
              go_wp2_with fail
              refine (fail_any 280 y _).mono ?_
              rintro e w4 ⟨⟨N, rfl, hN, hF⟩, hx⟩
              have HX := Lib.hid (hx.toBut (fun x => x = bA))
              have HF := Lib.hid hF
              clear hx hF cF cA fA cS
              go_wp2
              exact read_panic HI.out HO.out HX.out hN HF.out HRes.out rfl rfl ⟨i0, i1, i2, i3⟩
            by_cases c2 : s[y].toNat ≤ 57
            · have hb : hexB s[y] = true := by unfold hexB; simp; omega
              have HE : Hid (hexP s.data.toList k' (y + 1) = hexP s.data.toList 16 f) := by rw [← HX.out]; exact (hexP_s hc hb).symm
              have t48 : (48 : Int) ≤ (s[y].toNat : Int) := by omega
              have u57 : (s[y].toNat : Int) ≤ 57 := by omega
              clear hb hc
              go_wp2
              go_roundg (gk - 1)
              case measure => omega
              case rel => exact ⟨x + 1, y + 1, by omega, by go_num, by omega, HI.out.putA (y + 1) (by omega) (by omega), by rw [World.cell?_setCell_other _ _ _ _ (by intro e; injection e with e1 _; omega)]; exact HO.out, HFm.out.keep ((Fr.refl B wr).set_ (p := ⟨bA, 0, none⟩) (.inr (by show bA < B; omega)) _), by rw [HK2.out]; exact HE⟩
            by_cases c3 : s[y].toNat < 97
            · have hb : hexB s[y] = false := by unfold hexB; simp; omega
              have HE : Hid (hexP s.data.toList 16 f = .error y) := by rw [← HX.out]; exact hexP_e hc hb
              have HRes := Lib.hid (HR.out.trans (after_e (tailP_2 HW1.out HE.out) (by decide)))
              have t48 : (48 : Int) ≤ (s[y].toNat : Int) := by omega
              have u57 : decide ((s[y].toNat : Int) ≤ 57) = false := by simp; omega
              have t97 : decide ((97 : Int) ≤ (s[y].toNat : Int)) = false := by simp; omega
              clear hb hc
              go_wp2_with fail
              refine (fail_any 280 y _).mono ?_
              rintro e w4 ⟨⟨N, rfl, hN, hF⟩, hx⟩
              have HX := Lib.hid (hx.toBut (fun x => x = bA))
              have HF := Lib.hid hF
              clear hx hF cF cA fA cS
              go_wp2
              exact read_panic HI.out HO.out HX.out hN HF.out HRes.out rfl rfl ⟨i0, i1, i2, i3⟩
            by_cases c4 : s[y].toNat ≤ 102
            · have hb : hexB s[y] = true := by unfold hexB; simp; omega
              have HE : Hid (hexP s.data.toList k' (y + 1) = hexP s.data.toList 16 f) := by rw [← HX.out]; exact (hexP_s hc hb).symm
              have t48 : (48 : Int) ≤ (s[y].toNat : Int) := by omega
              have u57 : decide ((s[y].toNat : Int) ≤ 57) = false := by simp; omega
              have t97 : (97 : Int) ≤ (s[y].toNat : Int) := by omega
              have u102 : (s[y].toNat : Int) ≤ 102 := by omega
              clear hb hc
              go_wp2
              go_roundg (gk - 1)
              case measure => omega
              case rel => exact ⟨x + 1, y + 1, by omega, by go_num, by omega, HI.out.putA (y + 1) (by omega) (by omega), by rw [World.cell?_setCell_other _ _ _ _ (by intro e; injection e with e1 _; omega)]; exact HO.out, HFm.out.keep ((Fr.refl B wr).set_ (p := ⟨bA, 0, none⟩) (.inr (by show bA < B; omega)) _), by rw [HK2.out]; exact HE⟩
            · have hb : hexB s[y] = false := by unfold hexB; simp; omega
              have HE : Hid (hexP s.data.toList 16 f = .error y) := by rw [← HX.out]; exact hexP_e hc hb
              have HRes := Lib.hid (HR.out.trans (after_e (tailP_2 HW1.out HE.out) (by decide)))
              have t48 : (48 : Int) ≤ (s[y].toNat : Int) := by omega
              have u57 : decide ((s[y].toNat : Int) ≤ 57) = false := by simp; omega
              have t97 : (97 : Int) ≤ (s[y].toNat : Int) := by omega
              have u102 : decide ((s[y].toNat : Int) ≤ 102) = false := by simp; omega
              clear hb hc
              go_wp2_with fail
              refine (fail_any 280 y _).mono ?_
              rintro e w4 ⟨⟨N, rfl, hN, hF⟩, hx⟩
              have HX := Lib.hid (hx.toBut (fun x => x = bA))
              have HF := Lib.hid hF
              clear hx hF cF cA fA cS
              go_wp2
              exact read_panic HI.out HO.out HX.out hN HF.out HRes.out rfl rfl ⟨i0, i1, i2, i3⟩
            -- </fold>
        · obtain rfl : x = 16 := by omega
          have HE : Hid (hexP s.data.toList 16 f = .ok y) := by rw [← HX.out]; rfl
          have hyf : f + 16 ≤ s.size := by have := hexP_le HE.out (by simpa using hf); simp at this; omega
          have H1 := Lib.hid (word_any s ⟨#[10]⟩ y bA bS bF wr hs40 (by decide) hy HI.out.A HI.out.fA HI.out.S HI.out.F (by omega) (by omega))
          rw [show (⟨#[10]⟩ : ByteArray).data.toList = [10] from rfl] at H1
          clear cA fA cS cF
          go_wp2_with fail
          refine H1.out.mono ?_
          rintro e w2 ⟨hr, hx⟩
          rcases hr with ⟨z, hw2, rfl, cA2, fA2⟩ | ⟨b, hw2, N, rfl, hN, hF⟩
          case inr =>
            have HRes := Lib.hid (HR.out.trans (after_e (tailP_3 HW1.out HE.out hw2) (by decide)))
            have HX := Lib.hid hx
            have HF := Lib.hid hF
            clear hx hF hw2 H1
            go_wp2
            exact read_panic HI.out HO.out HX.out hN HF.out HRes.out rfl rfl ⟨i0, i1, i2, i3⟩
          have hz := (wordP_le hw2 (by simpa using hy)).2
          rw [show s.data.toList.length = s.size by simp] at hz
          have HW2 := Lib.hid hw2
          have HI2 : Hid (RdInv w w2 s bS bO bE bA bF z) := HI.out.but hx cA2 fA2 (by omega) (by omega)
          have HO2 : Hid (w2.cell? ⟨bO, 0, none⟩ = some ov) := hx.cell HO.out (by omega)
          have HF2 : Hid (Forms w2 B ov acc) := HFm.out.keep (hx.fr (by omega))
          clear hx fA2 hw2 H1 HI HO HFm HX
          have cS := HI2.out.S
          have cF := HI2.out.F
          by_cases hzl : z < s.size
          · have HRes := Lib.hid (HR.out.trans (after_e (tailP_4 HW1.out HE.out HW2.out (by simpa using hzl)) (by decide)))
            have hzd : decide ((z : Int) < s.size) = true := by simp; omega
            go_wp2_with fail
            refine (fail_any 280 z _).mono ?_
            rintro e w4 ⟨⟨N, rfl, hN, hF⟩, hx⟩
            have HX := Lib.hid (hx.toBut (fun x => x = bA))
            have HF := Lib.hid hF
            clear hx hF cF cA2 cS
            go_wp2
            exact read_panic HI2.out HO2.out HX.out hN HF.out HRes.out rfl rfl ⟨i0, i1, i2, i3⟩
          · have hzd : decide ((z : Int) < s.size) = false := by simp; omega
            have e1 := extract_cut s f (f + 16)
            have e2 : (s.extract 0 p).data.toList = s.data.toList.take p := by rw [extract_cut]; unfold cutL; simp
            obtain ⟨t1, ht1⟩ : ∃ t1, s.extract f (f + 16) = t1 := ⟨_, rfl⟩
            obtain ⟨t2, ht2⟩ : ∃ t2, s.extract 0 p = t2 := ⟨_, rfl⟩
            rw [ht1] at e1
            rw [ht2] at e2
            obtain ⟨fn, hfn⟩ : ∃ fn, fnv (s.data.toList.take p) = fn := ⟨_, rfl⟩
            have HSm : Hid (∀ W, Calls Tryz.prog 8 #[.string t2] W fun e w' => e = .returned (.int .u64 (fn : Nat)) ∧ W = w') := fun W => by
              have h := Sum_any t2 W (by rw [← ht2]; simp [ByteArray.size_extract]; omega)
              rw [e2, hfn] at h; exact h
            have HDg := Lib.hid (fun W (h : Ext w W) => digits_any fn W (by rw [← hfn]; exact fnv_lt _) (HV.out.ext h).deb)
            obtain ⟨q, hq⟩ : ∃ q, (⟨(hex16 fn).toArray⟩ : ByteArray) = q := ⟨_, rfl⟩
            rw [hq] at HDg
            have hqt : t1 = q ↔ cutL s.data.toList f (f + 16) = hex16 (fnv (s.data.toList.take p)) := by
              rw [← hq, ← e1, hfn]
              constructor
              · intro h; rw [h]
              · intro h; apply ByteArray.ext; simp [← h]
            have HQ := Lib.hid hqt
            have E1 := Lib.hid e1
            have hf16 : (f : Int) + 16 ≤ s.size := by omega
            have hpI : (p : Int) ≤ s.size := by omega
            have hsl : ∀ W, (Instr.slice 9 (.string s) (some (.int .i64 f)) (some (.int .i64 ((f : Int) + 16))) none).run Tryz.prog W = .ok (.string t1) W := fun W => by
              rw [run_slice_string (P := Tryz.prog) W 9 s .i64 .i64 f ((f : Int) + 16) Tryz.underlying9 (by omega) (by omega) hf16, ← ht1]
              rw [Int.toNat_natCast, show ((f : Int) + 16).toNat = f + 16 by omega]
            have hwr : IntKind.i64.wrap ((f : Int) + 16) = (f : Int) + 16 := IntWalk.i64_in _ (by omega)
            clear e1 e2 hfn hq hqt
            by_cases htq : t1 = q
            · subst htq
              have hqb : (t1.toList == t1.toList) = true := by simp
              have HOk : Hid (readP s.data.toList = .ok acc) := HR.out.trans (after_ok (tailP_6 HW1.out HE.out HW2.out (by simp; omega) (HQ.out.1 rfl)))
              go_upto_region 44 with fail
              go_region_held3 (fun w' => w'.cell? ⟨bS, 0, none⟩ = some (.string s)) (first | exact cS | exact cS5)
                (first
                  | (go_at_call 8; refine (HSm.out _).mono ?_; rintro e w' ⟨rfl, rfl⟩)
                  | (go_at_call 17; refine (HDg.out _ HI2.out.X.drew).mono ?_; rintro e w5 ⟨rfl, hx5⟩; have cS5 := hx5.cell cS; have HX5 := Lib.hid hx5; clear hx5))
              have hxe : Ext w2 w5 := (Ext.refl w2).drew.trans HX5.out
              have HI5 := Lib.hid (HI2.out.ext hxe)
              have HF5 := Lib.hid (HF2.out.keep (hxe.fr B))
              have cO5 := hxe.cell HO2.out
              have cE5 := HI5.out.E
              have fE5 := HI5.out.fE
              have fO5 := HI5.out.fO
              obtain ⟨A5, k5, rfl, hforms⟩ := HF5.out.value
              have HFo := Lib.hid hforms
              obtain ⟨n5, hn5⟩ : ∃ n5, acc.length = n5 := ⟨_, rfl⟩
              have HN5 := Lib.hid hn5
              have hO5 := lt_of_cell cO5
              clear hxe HI2 HO2 HF2 hforms cS cA2 cF hn5
              go_wp2
              obtain ⟨A', c', he, hf⟩ := (HF5.out.keep (((Fr.refl B w5).set_ (p := ⟨bO, 0, none⟩) (.inr (by show bO < B; omega)) (.slice A5 i k5)).set_ (p := ⟨bE, 0, none⟩) (.inr (by show bE < B; omega)) .nilIface)).value
              injection he with he1 _ _
              subst he1
              refine read_told HOk.out rfl rfl (A := A5) (c := k5) ?_ ?_ hf ((HI5.out.X.setCell (p := ⟨bO, 0, none⟩) (by show w.heap.size ≤ bO; omega) _).setCell (p := ⟨bE, 0, none⟩) (by show w.heap.size ≤ bE; omega) _)
              · rw [World.cell?_setCell_other _ _ _ _ (by intro e; injection e with e1 _; omega), hal]; exact setc cO5
              · exact setc (u := .nilIface) (by rw [World.cell?_setCell_other _ _ _ _ (by intro e; injection e with e1 _; omega)]; exact cE5)
            · have hqb : (t1.toList == q.toList) = false := str_ne htq
              have HRes := Lib.hid (HR.out.trans (after_e (tailP_5 HW1.out HE.out HW2.out (by simp; omega) (fun h => htq (HQ.out.2 h))) (by decide)))
              clear htq
              go_upto_region 44 with fail
              go_region_held3 (fun w' => w'.cell? ⟨bS, 0, none⟩ = some (.string s)) (first | exact cS | exact cS5)
                (first
                  | (go_at_call 8; refine (HSm.out _).mono ?_; rintro e w' ⟨rfl, rfl⟩)
                  | (go_at_call 17; refine (HDg.out _ HI2.out.X.drew).mono ?_; rintro e w5 ⟨rfl, hx5⟩; have cS5 := hx5.cell cS; have HX5 := Lib.hid hx5; clear hx5))
              have hxe : Ext w2 w5 := (Ext.refl w2).drew.trans HX5.out
              have HI5 := Lib.hid (HI2.out.ext hxe)
              have HO5 := Lib.hid (hxe.cell HO2.out)
              have cF5 := HI5.out.F
              clear hxe HI2 HO2 HF2 cS cA2 cF
              go_wp2_with fail
              refine (fail_any 281 f _).mono ?_
              rintro e w4 ⟨⟨N, rfl, hN, hF⟩, hx⟩
              have HX := Lib.hid (hx.toBut (fun x => x = bA))
              have HF := Lib.hid hF
              clear hx hF
              go_wp2
              exact read_panic HI5.out HO5.out HX.out hN HF.out HRes.out rfl rfl ⟨i0, i1, i2, i3⟩

theorem Read_any (s : ByteArray) (w : World) (hs : s.size ≤ 9223372036854775807) (hv : Vars w) :
    Calls Tryz.prog 11 #[.string s] w (ReadPost (readP s.data.toList) w) := by
  by_cases h : 1048576 < s.size
  · have e : readP s.data.toList = .error (3, 0) := by
      unfold readP
      rw [if_pos (by simpa using h)]
    rw [e]; exact read_long s w h hs
  · exact read_rest s w (by omega) hv
end Go.Proofs.YtiihnoelclnahaaGreatDoor
