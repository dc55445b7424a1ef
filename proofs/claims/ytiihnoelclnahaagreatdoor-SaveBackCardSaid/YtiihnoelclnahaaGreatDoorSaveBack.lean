/- parquetlaw28.SaveBack. -/
import Derived.Test.YtiihnoelclnahaaGreatDoorSaveWakes
import Derived.Test.YtiihnoelclnahaaGreatDoorSaveSame
import Derived.Lib.ConvBytes
namespace Go.Proofs.YtiihnoelclnahaaGreatDoor
open Go.RowKit
set_option linter.unusedVariables false

theorem xor_self_zero {a b : UInt8} (h : a ^^^ b = a) : b = 0 := by
  have : a ^^^ (a ^^^ b) = a ^^^ a := by rw [h]
  rwa [← UInt8.xor_assoc, UInt8.xor_self, UInt8.zero_xor] at this

theorem wraps_u8 (n : Int) (h0 : 0 ≤ n) (h1 : n < 2 ^ 8) : IntKind.u8.wrap n = n := by
  show n % 256 = n
  exact Int.emod_eq_of_lt h0 (by simpa using h1)
theorem xor_u8 (a : UInt8) (b0 : Nat) (hb : b0 < 256) : bits .xor .u8 (a.toNat : Int) (b0 : Int) = ((a ^^^ UInt8.ofNat b0).toNat : Int) := by
  rw [bits_xor_nat .u8 8 (by decide) wraps_u8 _ _ a.toNat_lt hb, UInt8.toNat_xor]
  simp [Nat.mod_eq_of_lt hb]

theorem bytes_ext (w : World) (e : TypeId) (s : ByteArray) : Ext w (Lib.bytesWorld w e s) := Lib.bytesWorld_below _ _ _

/-- The world where one byte of the row was set. -/
theorem bytes_frozen (w : World) (e : TypeId) (s : ByteArray) (j : Nat) (hj : j < s.size) : (Lib.bytesWorld w e s).frozen? ⟨w.heap.size, j, none⟩ = false := by
  have h : j < (Lib.bytesCells w e s).size := by unfold Lib.bytesCells; simp only [Array.size_append, Array.size_map]; exact Nat.lt_of_lt_of_le hj (Nat.le_add_right _ _)
  unfold World.frozen?
  simp only [Lib.bytesWorld_at_new]
  simp; omega

theorem bytes_back (w : World) (s : ByteArray) (l : List UInt8) (p cap : Nat) (c : UInt8) (hl : s.data.toList = l) (hp : p < l.length) :
    (convert 36 9 (.slice (some ⟨w.heap.size, 0, none⟩) s.size cap)).run Tryz.prog ((Lib.bytesWorld w 5 s).setCell ⟨w.heap.size, p, none⟩ (.int .u8 (c.toNat : Nat))) = .ok (.string ⟨(l.set p c).toArray⟩) ((Lib.bytesWorld w 5 s).setCell ⟨w.heap.size, p, none⟩ (.int .u8 (c.toNat : Nat))) := by
  have hsz : s.size = (l.set p c).length := by rw [List.length_set, ← hl, Array.length_toList]; rfl
  rw [hsz]
  refine run_convert_bytes_back (P := Tryz.prog) _ 36 9 5 ⟨w.heap.size, 0, none⟩ _ (l.set p c) Tryz.underlying36 Tryz.underlying5 Tryz.underlying9 fun j hj => ?_
  have ea : (⟨w.heap.size, 0, none⟩ : Addr).add j = ⟨w.heap.size, j, none⟩ := by
    unfold Addr.add
    split
    · rename_i h; rw [h]
    · simp
  have hjs : j < s.size := by omega
  rw [ea]
  by_cases h : j = p
  · subst h
    rw [setc (Lib.bytesWorld_cell w 5 s j hjs)]
    simp
  · rw [World.cell?_setCell_other _ _ _ _ (by intro e; injection e with e1 e2; exact h e2.symm), Lib.bytesWorld_cell w 5 s j hjs, hl]
    rw [List.getElem_set_ne (by omega)]
    have hjl : j < l.length := by rwa [List.length_set] at hj
    simp [List.getD, hjl]

set_option maxHeartbeats 2000000 in
set_option maxRecDepth 100000 in
theorem back_any (A : Option Addr) (n c : Nat) (ls : List (List (List Int))) (s : ByteArray) (p0 b0 : Nat) (w : World) (hn : n = ls.length) (hA : IsForms w A ls) (hf : FitForms ls) (hs : s.size ≤ 140737488351232) (hp0 : p0 < 65536) (hb0 : b0 < 256) (hv : Vars w) :
    Calls Tryz.prog 4 #[.slice A n c, .string s, .int .u16 p0, .int .u8 b0] w fun e w' => e = .returned (.bool true) ∧ Ext w w' := by
  have HV := Lib.hid hv
  have HF := Lib.hid hf
  have HA := Lib.hid hA
  have HN := Lib.hid hn
  have HW := Lib.hid (Write_any A n c ls w hn hA hf hv)
  have HRs := Lib.hid (fun W (hv : Vars W) => Read_any s W (by omega) hv)
  clear hv hf hA hn hs
  by_cases hc : codeW ls = 0
  · obtain ⟨sx, hsx⟩ : ∃ sx : ByteArray, (⟨(textW ls).toArray⟩ : ByteArray) = sx := ⟨_, rfl⟩
    have hsl : sx.data.toList = textOf ls := by rw [← hsx]; unfold textW; rw [hc]; simp
    have hsz : sx.size = (textOf ls).length := by rw [← hsl, Array.length_toList]; rfl
    have hszl : sx.size ≤ 1048576 := by
      rcases Nat.lt_or_ge 1048576 sx.size with h | h
      · have := readP_yes HF.out hc
        unfold readP at this
        rw [if_pos (by omega)] at this; cases this
      · exact h
    have hsz0 : 0 < sx.size := by rw [hsz, textOf_tail, List.length_append, tailT_len]; omega
    have HR1 := Lib.hid (fun W (hv : Vars W) => Read_any sx W (by omega) hv)
    rw [hsl, readP_yes HF.out hc] at HR1
    rw [hsx, hc] at HW
    clear hsx
    have HSL := Lib.hid hsl
    have HSZ := Lib.hid hsz
    clear hsl hsz
    go_enter Tryz.func4, Tryz.ntmps4
    go_wp2_with fail
    refine HW.out.mono ?_
    rintro e w1 ⟨rfl, hx⟩
    have HX1 := Lib.hid hx
    clear hx HW
    go_wp2_with fail
    refine (HR1.out _ (HV.out.ext HX1.out)).mono ?_
    rintro e w2 ⟨hx, hr⟩
    rcases hr with ⟨ms, A2, c2, he, rfl, hf2⟩ | ⟨code, a, N, he, _⟩
    case inr => cases he
    injection he with he
    subst he
    have HX2 := Lib.hid (HX1.out.trans hx)
    have hl1 : ls.length = n := HN.out.symm
    rw [hl1]
    have HS := Lib.hid (lists_same A2 A n c2 c ls w2 HN.out hf2 (HA.out.ext HX2.out) HF.out)
    clear hx HX1 HR1 hf2 hl1
    go_wp2_with fail
    refine HS.out.mono ?_
    rintro e w3 ⟨rfl, m3, hm3⟩
    have HX3 : Hid (Ext w w3) := by rw [hm3]; exact HX2.out.drewN _
    clear HS HX2 hm3
    have kc := Lib.run_convert_string_bytes (P := Tryz.prog) w3 9 36 5 sx Tryz.underlying9 Tryz.underlying36 Tryz.underlying5
    obtain ⟨p, hp⟩ : ∃ p, p0 % sx.size = p := ⟨_, rfl⟩
    have hpl : p < sx.size := by rw [← hp]; exact Nat.mod_lt _ hsz0
    have hpt : p < (textOf ls).length := by have := HSZ.out; omega
    obtain ⟨old, hold⟩ : ∃ old, (textOf ls)[p] = old := ⟨_, rfl⟩
    have kcell := Lib.bytesWorld_cell w3 5 sx p hpl
    rw [HSL.out, show (textOf ls).getD p 0 = old by rw [← hold]; simp [List.getD, hpt]] at kcell
    have kfro := bytes_frozen w3 5 sx p hpl
    have kxor := xor_u8 old b0 hb0
    obtain ⟨nw, hnw⟩ : ∃ nw, old ^^^ UInt8.ofNat b0 = nw := ⟨_, rfl⟩
    rw [hnw] at kxor
    have kback := bytes_back w3 sx (textOf ls) p (grownCap w3 sx.size 0 5) nw HSL.out hpt
    obtain ⟨sy, hsy⟩ : ∃ sy : ByteArray, (⟨((textOf ls).set p nw).toArray⟩ : ByteArray) = sy := ⟨_, rfl⟩
    rw [hsy] at kback
    have hyl : sy.data.toList = (textOf ls).set p nw := by rw [← hsy]
    have hyz : sy.size ≤ 1048576 := by
      have : sy.size = (textOf ls).length := by rw [← List.length_set (i := p) (a := nw), ← hyl, Array.length_toList]; rfl
      have := HSZ.out
      omega
    have HR2 := Lib.hid (fun W (hv : Vars W) => Read_any sy W (by omega) hv)
    rw [hyl] at HR2
    have HT : Hid (∀ m, readP ((textOf ls).set p nw) = .ok m → b0 = 0) := by
      intro m hm
      have h1 := turned hpt hm
      rw [hold, ← hnw] at h1
      have h2 := congrArg UInt8.toNat (xor_self_zero h1.symm)
      simpa [Nat.mod_eq_of_lt hb0] using h2
    obtain ⟨W4, hW4⟩ : ∃ W4, (Lib.bytesWorld w3 5 sx).setCell ⟨w3.heap.size, p, none⟩ (.int .u8 (nw.toNat : Nat)) = W4 := ⟨_, rfl⟩
    have hx4 : Ext w W4 := by rw [← hW4]; exact (HX3.out.trans (bytes_ext w3 _ sx)).setCell HX3.out.size _
    rw [hW4] at kback
    have HX4 := Lib.hid hx4
    subst hp
    have pb0 : (0 : Int) ≤ (p0 : Int) % (sx.size : Int) := Int.emod_nonneg _ (by omega)
    have pb1 : (p0 : Int) % (sx.size : Int) < (sx.size : Int) := Int.emod_lt_of_pos _ (by omega)
    clear hpt hold hnw hsy hyl hpl hx4 HX3 hyz
    go_wp2_with fail
    refine (HR2.out _ (HV.out.ext HX4.out)).mono ?_
    rintro e w5 ⟨hx, hr⟩
    have HX5 := Lib.hid (HX4.out.trans hx)
    rcases hr with ⟨ms, A3, c3, he, rfl, _⟩ | ⟨code, a, N, he, rfl, _⟩
    · obtain rfl := HT.out _ he
      clear he hx HX4
      go_wp2_with fail
      refine (HRs.out _ (HV.out.ext HX5.out)).mono ?_
      rintro e v1 ⟨hx, hr⟩
      have HY1 := Lib.hid (HX5.out.trans hx)
      rcases hr with ⟨ms, A5, c5, he, rfl, hf5⟩ | ⟨code5, a5, N5, he, rfl, hN5, hF5⟩
      · obtain ⟨q1, q2, q3⟩ := readP_ok he
        have HW5 := Lib.hid (fun W (h : IsForms W A5 ms) (hv : Vars W) => Write_any A5 ms.length c5 ms W rfl h q3 hv)
        have hs5 : (⟨(textW ms).toArray⟩ : ByteArray) = s := by unfold textW; rw [q2, if_pos rfl, q1]
        rw [hs5, q2] at HW5
        have HF5 := Lib.hid hf5
        clear he hf5 hs5 q1 q2 q3 hx HRs
        go_wp2_with fail
        refine (HW5.out _ HF5.out (HV.out.ext HY1.out)).mono ?_
        rintro e v2 ⟨rfl, hx⟩
        have HY2 := Lib.hid (HY1.out.trans hx)
        clear hx HY1 HF5 HW5
        go_wp2_with fail
        refine (wakes_any _ (HV.out.ext HY2.out)).mono ?_
        rintro e v3 ⟨rfl, hx⟩
        have HY3 := Lib.hid (HY2.out.trans hx)
        clear hx
        go_wp2
        go_ret
        exact ⟨rfl, HY3.out⟩
      · clear he hN5 hF5 hx HRs
        go_wp2_with fail
        refine (wakes_any _ (HV.out.ext HY1.out)).mono ?_
        rintro e v3 ⟨rfl, hx⟩
        have HY3 := Lib.hid (HY1.out.trans hx)
        clear hx
        go_wp2
        go_ret
        exact ⟨rfl, HY3.out⟩
    · have hb : decide ((b0 : Int) = 0) = decide ((b0 : Int) = 0) := rfl
      clear he hx HX4 hb
      by_cases hb : b0 = 0
      · subst hb
        go_wp2_with fail
        refine (HRs.out _ (HV.out.ext HX5.out)).mono ?_
        rintro e v1 ⟨hx, hr⟩
        have HY1 := Lib.hid (HX5.out.trans hx)
        rcases hr with ⟨ms, A5, c5, he, rfl, hf5⟩ | ⟨code5, a5, N5, he, rfl, hN5, hF5⟩
        · obtain ⟨q1, q2, q3⟩ := readP_ok he
          have HW5 := Lib.hid (fun W (h : IsForms W A5 ms) (hv : Vars W) => Write_any A5 ms.length c5 ms W rfl h q3 hv)
          have hs5 : (⟨(textW ms).toArray⟩ : ByteArray) = s := by unfold textW; rw [q2, if_pos rfl, q1]
          rw [hs5, q2] at HW5
          have HF5 := Lib.hid hf5
          clear he hf5 hs5 q1 q2 q3 hx HRs
          go_wp2_with fail
          refine (HW5.out _ HF5.out (HV.out.ext HY1.out)).mono ?_
          rintro e v2 ⟨rfl, hx⟩
          have HY2 := Lib.hid (HY1.out.trans hx)
          clear hx HY1 HF5 HW5
          go_wp2_with fail
          refine (wakes_any _ (HV.out.ext HY2.out)).mono ?_
          rintro e v3 ⟨rfl, hx⟩
          have HY3 := Lib.hid (HY2.out.trans hx)
          clear hx
          go_wp2
          go_ret
          exact ⟨rfl, HY3.out⟩
        · clear he hN5 hF5 hx HRs
          go_wp2_with fail
          refine (wakes_any _ (HV.out.ext HY1.out)).mono ?_
          rintro e v3 ⟨rfl, hx⟩
          have HY3 := Lib.hid (HY1.out.trans hx)
          clear hx
          go_wp2
          go_ret
          exact ⟨rfl, HY3.out⟩
      · have hb1 : ¬ ((b0 : Int) = 0) := by omega
        go_wp2_with fail
        refine (HRs.out _ (HV.out.ext HX5.out)).mono ?_
        rintro e v1 ⟨hx, hr⟩
        have HY1 := Lib.hid (HX5.out.trans hx)
        rcases hr with ⟨ms, A5, c5, he, rfl, hf5⟩ | ⟨code5, a5, N5, he, rfl, hN5, hF5⟩
        · obtain ⟨q1, q2, q3⟩ := readP_ok he
          have HW5 := Lib.hid (fun W (h : IsForms W A5 ms) (hv : Vars W) => Write_any A5 ms.length c5 ms W rfl h q3 hv)
          have hs5 : (⟨(textW ms).toArray⟩ : ByteArray) = s := by unfold textW; rw [q2, if_pos rfl, q1]
          rw [hs5, q2] at HW5
          have HF5 := Lib.hid hf5
          clear he hf5 hs5 q1 q2 q3 hx HRs
          go_wp2_with fail
          refine (HW5.out _ HF5.out (HV.out.ext HY1.out)).mono ?_
          rintro e v2 ⟨rfl, hx⟩
          have HY2 := Lib.hid (HY1.out.trans hx)
          clear hx HY1 HF5 HW5
          go_wp2_with fail
          refine (wakes_any _ (HV.out.ext HY2.out)).mono ?_
          rintro e v3 ⟨rfl, hx⟩
          have HY3 := Lib.hid (HY2.out.trans hx)
          clear hx
          go_wp2
          go_ret
          exact ⟨rfl, HY3.out⟩
        · clear he hN5 hF5 hx HRs
          go_wp2_with fail
          refine (wakes_any _ (HV.out.ext HY1.out)).mono ?_
          rintro e v3 ⟨rfl, hx⟩
          have HY3 := Lib.hid (HY1.out.trans hx)
          clear hx
          go_wp2
          go_ret
          exact ⟨rfl, HY3.out⟩
  · have hcd : ¬ ((codeW ls : Int) = 0) := hc
    clear HF HA HN hc
    go_enter Tryz.func4, Tryz.ntmps4
    go_wp2_with fail
    refine HW.out.mono ?_
    rintro e w1 ⟨rfl, hx⟩
    have HX1 := Lib.hid hx
    clear hx HW
    go_wp2_with fail
    refine (HRs.out _ (HV.out.ext HX1.out)).mono ?_
    rintro e v1 ⟨hx, hr⟩
    have HY1 := Lib.hid (HX1.out.trans hx)
    rcases hr with ⟨ms, A5, c5, he, rfl, hf5⟩ | ⟨code5, a5, N5, he, rfl, hN5, hF5⟩
    · obtain ⟨q1, q2, q3⟩ := readP_ok he
      have HW5 := Lib.hid (fun W (h : IsForms W A5 ms) (hv : Vars W) => Write_any A5 ms.length c5 ms W rfl h q3 hv)
      have hs5 : (⟨(textW ms).toArray⟩ : ByteArray) = s := by unfold textW; rw [q2, if_pos rfl, q1]
      rw [hs5, q2] at HW5
      have HF5 := Lib.hid hf5
      clear he hf5 hs5 q1 q2 q3 hx HRs
      go_wp2_with fail
      refine (HW5.out _ HF5.out (HV.out.ext HY1.out)).mono ?_
      rintro e v2 ⟨rfl, hx⟩
      have HY2 := Lib.hid (HY1.out.trans hx)
      clear hx HY1 HF5 HW5
      go_wp2_with fail
      refine (wakes_any _ (HV.out.ext HY2.out)).mono ?_
      rintro e v3 ⟨rfl, hx⟩
      have HY3 := Lib.hid (HY2.out.trans hx)
      clear hx
      go_wp2
      go_ret
      exact ⟨rfl, HY3.out⟩
    · clear he hN5 hF5 hx HRs
      go_wp2_with fail
      refine (wakes_any _ (HV.out.ext HY1.out)).mono ?_
      rintro e v3 ⟨rfl, hx⟩
      have HY3 := Lib.hid (HY1.out.trans hx)
      clear hx
      go_wp2
      go_ret
      exact ⟨rfl, HY3.out⟩
end Go.Proofs.YtiihnoelclnahaaGreatDoor
