/- nat.long: Knuth's division. -/
import Derived.Test.YtiihnoelclnahaaGreatDoorNatLongMath
import Derived.Deep.LoopGhost
import Derived.Deep.DeepCutAuto
import Derived.Deep.CutBlock
import Derived.Outline
namespace Go.Proofs.YtiihnoelclnahaaGreatDoor
open Go.RowKit
set_option linter.unusedVariables false

theorem Lead_any (d : Nat) (h : d < 4294967296) (w : World) : Calls Tryz.prog 124 #[.int .u32 d] w fun e w' => e = .returned (.int .i64 ((32 - bitsN d : Nat) : Int)) ∧ w' = w :=
  (Tryz.bits_LeadingZeros32 d w (by omega) (by omega)).mono fun e w' ⟨he, hw⟩ => ⟨by
    have := (bitsN_le d 32).2 h
    rw [he, Int.toNat_natCast, bitLen_bitsN d h]; congr 2; omega, hw⟩

structure BackInv (gu : Nat) (pre x post v : List Nat) (wr : World) (i c : Nat) (p : List Nat) : Prop where
  len : p.length = i
  lt : ∀ d ∈ p, d < 4294967296
  row : Row wr 145 gu (pre ++ ((p ++ x.drop i) ++ post))
  val : ofD p + 4294967296 ^ i * c = ofD (x.take i) + ofD (v.take i)

set_option maxHeartbeats 4000000 in
set_option maxRecDepth 100000 in
theorem long_any (A B : Option Addr) (k n a b : Nat) (w : World) (ha : IsNat w A k a) (hb : IsNat w B n b) (hk : k ≤ 10000) (hn : 2 ≤ n) (hab : b ≤ a) :
    Calls Tryz.prog 117 #[.agg #[.slice A k k], .agg #[.slice B n n]] w fun e w' => ∃ A1 k1 A2 k2, e = .returned (.tuple #[.agg #[.slice A1 k1 k1], .agg #[.slice A2 k2 k2]]) ∧ IsNat w' A1 k1 (a / b) ∧ IsNat w' A2 k2 (a % b) ∧ Ext w w' := by
  have hnk : n ≤ k := by rw [hb.1, digs_length_le, ha.1]; exact Nat.lt_of_le_of_lt hab (digs_le a)
  obtain ⟨bb, bo, vt, rfl, hbb, hvt, hvl, cvt⟩ := hb.cell (n - 1) (by omega)
  have HA := Lib.hid ha; clear ha
  have HB := Lib.hid hb; clear hb
  have hlead := Lead_any vt hvl
  have HL := Lib.hid hlead; clear hlead
  go_enter Tryz.func117, Tryz.ntmps117
  go_wp2
  go_step3
  go_wp2
  obtain ⟨W0, hW0⟩ : ∃ W0 : World, (((w.alloc (.cells #[.slice A k k] 102)).alloc (.cells #[.slice (some ⟨bb, bo, none⟩) n n] 102)).alloc (.cells #[.slice none 0 0] 102)).alloc (.cells #[.slice none 0 0] 102) = W0 := ⟨_, rfl⟩
  have hX0 : Ext w W0 := by rw [← hW0]; exact ((((Ext.refl w).alloc _).alloc _).alloc _).alloc _
  have c0 : W0.cell? ⟨w.heap.size, 0, none⟩ = some (.slice A k k) := by rw [← hW0]; simp [go_sem]
  have c1 : W0.cell? ⟨w.heap.size + 1, 0, none⟩ = some (.slice (some ⟨bb, bo, none⟩) n n) := by rw [← hW0]; simp [go_sem]
  have c2 : W0.cell? ⟨w.heap.size + 1 + 1, 0, none⟩ = some (.slice none 0 0) := by rw [← hW0]; simp [go_sem]
  have c3 : W0.cell? ⟨w.heap.size + 1 + 1 + 1, 0, none⟩ = some (.slice none 0 0) := by rw [← hW0]; simp [go_sem]
  have f2 : W0.frozen? ⟨w.heap.size + 1 + 1, 0, none⟩ = false := by rw [← hW0]; simp [go_sem]
  have f3 : W0.frozen? ⟨w.heap.size + 1 + 1 + 1, 0, none⟩ = false := by rw [← hW0]; simp [go_sem]
  have hs0 : w.heap.size + 3 < W0.heap.size := by rw [← hW0]; simp
  have cvt0 := hX0.cell cvt
  rw [hW0]
  have HX0 := Lib.hid hX0
  clear hW0 hX0 cvt
  have e1 : IntKind.i64.wrap ((n : Int) - 1) = (n : Int) - 1 := IntWalk.i64_in _ (by omega)
  have e4 : ((n : Int) - 1).toNat = n - 1 := by omega
  have p1 : (0 : Int) ≤ (n : Int) - 1 := by omega
  have p2 : (n : Int) - 1 < n := by omega
  have p3 : (1 : Int) ≤ n := by omega
  have p4 : 0 < n := by omega
  go_quiet ((go_at_call 124; exact Calls.quiet_of_same (HL.out _)))
  clear e1 e4 p1 p2 p3 cvt0 HL
  have HN := Lib.hid (norm_fit b n vt HB.out.1 (by omega) hvt)
  have hsh : 32 - bitsN vt < 32 := by have := HN.out; omega
  have HFit : Hid (b * 2 ^ (32 - bitsN vt) < 4294967296 ^ n ∧ 4294967296 ^ n ≤ 2 * (b * 2 ^ (32 - bitsN vt))) := HN.out.2.2
  clear HN hvt
  generalize 32 - bitsN vt = sh at *
  have hDB := (HB.out.ext HX0.out).2
  have hDA := (HA.out.ext HX0.out).2
  have HU1 := Lib.hid (up_any (some ⟨bb, bo, none⟩) n n (digs b) sh n (W0.drewN nq) HB.out.1 (by omega) (digs_lt b) hDB hsh (by omega) (Nat.le_refl _) (by rw [ofD_digs]; exact HFit.out.1))
  clear hDB
  go_wp2_with fail
  refine HU1.out.mono ?_
  rintro e w1 ⟨gv, pv, rfl, hgv, hRv, hlv, hdv, hev, hx1⟩
  clear HU1
  have HX1 : Ext W0 w1 := ((Ext.refl W0).drewN nq).trans hx1
  have hgv' : w.heap.size + 3 < gv := Nat.lt_of_lt_of_le hs0 hgv
  have d0 := HX1.cell c0
  have d2 := HX1.cell c2
  have d3 := HX1.cell c3
  have g2 := HX1.free f2 (lt_of_cell c2)
  have g3 := HX1.free f3 (lt_of_cell c3)
  have hDA1 := Lib.hid (hDA.below HX1)
  have hgvl := hRv.lt
  have HRv := Lib.hid hRv
  have HX01 := Lib.hid (HX0.out.trans HX1)
  have HPV := Lib.hid (show pv.length = n ∧ (∀ d ∈ pv, d < 4294967296) ∧ ofD pv = b * 2 ^ sh from ⟨hlv, hdv, by rw [hev, ofD_digs]⟩)
  clear c0 c1 c2 c3 f2 f3 hDA hRv hlv hdv hev hx1 HX0 HX1 hgv
  have HU2 := Lib.hid (up_any A k k (digs a) sh (k + 1) w1 HA.out.1 (by omega) (digs_lt a) hDA1.out hsh (by omega) (by omega) (by
    rw [ofD_digs, Nat.pow_succ]
    refine Nat.mul_lt_mul'' ?_ ?_
    · rw [HA.out.1]; exact digs_le a
    · exact Nat.lt_of_lt_of_le (Nat.pow_lt_pow_right (by omega) hsh) (by omega)))
  go_wp2_with fail
  refine HU2.out.mono ?_
  rintro e w2 ⟨gu, pu, rfl, hgu, hRu, hlu, hdu, heu, hx2⟩
  clear HU2 hDA1
  have i2 := hx2.cell d2
  have i3 := hx2.cell d3
  have k2 := hx2.free g2 (lt_of_cell d2)
  have k3 := hx2.free g3 (lt_of_cell d3)
  have HRv2 := Lib.hid (HRv.out.ext hx2)
  have HRu2 := Lib.hid hRu
  have hgul := hRu.lt
  have HPU := Lib.hid (show pu.length = k + 1 ∧ (∀ d ∈ pu, d < 4294967296) ∧ ofD pu = a * 2 ^ sh from ⟨hlu, hdu, by rw [heu, ofD_digs]⟩)
  have HX2 := Lib.hid (HX01.out.trans hx2)
  have hvu : gv < gu := Nat.lt_of_lt_of_le hgvl hgu
  clear d0 d2 d3 g2 g3 HRv HX01 hRu hlu hdu heu hgu hgvl hx2
  have e1 : IntKind.i64.wrap ((k : Int) + 1 - n) = ((k + 1 - n : Nat) : Int) := by rw [IntWalk.i64_in _ (by omega)]; omega
  have hmak := fun W => make_u32 ((k + 1 - n : Nat) : Int) (k + 1 - n) rfl (by omega) W
  go_wp2_with fail
  obtain ⟨m, hm⟩ : ∃ m, k + 1 - n = m := ⟨_, rfl⟩
  rw [hm]
  have HM : Hid (k + 1 = m + n) := by unfold Hid; omega
  have hm1 : m ≤ 10000 := by omega
  have hRo := Row.zeros w2 145 m
  obtain ⟨W3, hW3⟩ : ∃ W3 : World, w2.alloc (.cells (zerosA m) 145) = W3 := ⟨_, rfl⟩
  have hX3 : Ext w2 W3 := by rw [← hW3]; exact (Ext.refl w2).alloc _
  rw [hW3] at hRo
  rw [hW3]
  have j2 := hX3.cell i2
  have j3 := hX3.cell i3
  have l2 := hX3.free k2 (lt_of_cell i2)
  have l3 := hX3.free k3 (lt_of_cell i3)
  have HRv3 := Lib.hid (HRv2.out.ext hX3)
  have HX3 := Lib.hid (HX2.out.trans hX3)
  have HI0 := Lib.hid (long_start gu w2.heap.size n m sh k a pu pv W3 HM.out (by omega) hsh (by rw [HA.out.1]; exact digs_le a) HPU.out.1 HPU.out.2.1 HPU.out.2.2 (by rw [HPV.out.2.2]; exact HFit.out.2) (HRu2.out.ext hX3) hRo)
  have hs3 : w2.heap.size < W3.heap.size := by rw [← hW3]; simp
  clear hW3 hX3 i2 i3 k2 k3 HRv2 HRu2 HX2 hRo hm hmak
  generalize w2.heap.size = go at *
  go_step3
  go_wp2
  have HX3' := HX3
  go_loopg [12] m (fun jj jv wr => ∃ (r qs : List Nat), jj ≤ m ∧ jv = .int .i64 ((jj : Int) - 1) ∧ Hid (LongInv gu go n m sh pu pv wr jj r qs) ∧ Hid (ExtBut (fun g => g = gu ∨ g = go) W3 wr))
  case atStart => exact ⟨_, [], Nat.le_refl _, rfl, HI0, ExtBut.refl _ _⟩
  case round =>
    clear HI0
    obtain ⟨r, qs, hj, rfl, HI, HE⟩ := hrel
    by_cases h0 : gk = 0
    · subst h0
      have HEnd := Lib.hid (long_end gu go n m sh a b pu pv r qs wr HI.out HPU.out.2.2 HPV.out.2.2 (by
        rcases Nat.eq_zero_or_pos b with h | h
        · have := HB.out.k_zero.2 h; omega
        · exact h))
      have hro : Row wr 145 go qs := by have := HI.out.ro; simpa using this
      have hru : Row wr 145 gu (r ++ List.replicate m 0) := by have := HI.out.ru; simpa using this
      have HRu := Lib.hid hru
      have HCut := Lib.hid (cut_nat (some ⟨go, 0, none⟩) m m qs wr (by have := HI.out.lq; omega) (Nat.le_refl _) (by omega) HI.out.dq hro.digs)
      have HXa := Lib.hid (HX3.out.but HE.out (by rintro g (rfl | rfl) <;> omega))
      have q2 := HE.out.cell j2 (show ¬ (w.heap.size + 1 + 1 = gu ∨ w.heap.size + 1 + 1 = go) by omega)
      have q3 := HE.out.cell j3 (show ¬ (w.heap.size + 1 + 1 + 1 = gu ∨ w.heap.size + 1 + 1 + 1 = go) by omega)
      have o2 := HE.out.free l2 (lt_of_cell j2) (show ¬ (w.heap.size + 1 + 1 = gu ∨ w.heap.size + 1 + 1 = go) by omega)
      have o3 := HE.out.free l3 (lt_of_cell j3) (show ¬ (w.heap.size + 1 + 1 + 1 = gu ∨ w.heap.size + 1 + 1 + 1 = go) by omega)
      clear hro hru
      go_wp2_with fail
      refine HCut.out.mono ?_
      rintro e w5 ⟨k1, rfl, hn1, hk1, hx5⟩
      have hlen : (k + 1 : Nat) = (r ++ List.replicate m 0).length := by have := HI.out.lr; have := HM.out; simp; omega
      have hdr : ∀ d ∈ r ++ List.replicate m 0, d < 4294967296 := by
        intro d hd
        rcases List.mem_append.1 hd with hd | hd
        · exact HI.out.dr d hd
        · have := List.eq_of_mem_replicate hd; omega
      have HDown := Lib.hid (down_any (some ⟨gu, 0, none⟩) (k + 1) (k + 1) (r ++ List.replicate m 0) sh w5 hlen (by omega) hdr (HRu.out.ext hx5).digs hsh)
      have r2 := hx5.cell q2
      have r3 := hx5.cell q3
      have s2 := hx5.free o2 (lt_of_cell q2)
      have s3 := hx5.free o3 (lt_of_cell q3)
      have HX5 := Lib.hid (HXa.out.trans hx5)
      have HN1 := Lib.hid hn1
      clear hx5 hn1 hlen hdr q2 q3 o2 o3 HCut
      go_wp2_with fail
      refine HDown.out.mono ?_
      rintro e w6 ⟨A2, k2, rfl, hn2, hk2, hx6⟩
      have t2 := hx6.cell r2
      have t3 := hx6.cell r3
      have v2 := hx6.free s2 (lt_of_cell r2)
      have v3 := hx6.free s3 (lt_of_cell r3)
      have HN1' := Lib.hid (HN1.out.ext hx6)
      have HX6 := Lib.hid (HX5.out.trans hx6)
      rw [HEnd.out.2] at hn2
      rw [HEnd.out.1] at HN1'
      have HN2 := Lib.hid hn2
      clear hx6 hn2 r2 r3 s2 s3 HDown
      go_wp2
      rw [Exit.noGoto_ret]
      have y3 : (w6.setCell ⟨w.heap.size + 1 + 1, 0, none⟩ (.slice (some ⟨go, 0, none⟩) k1 k1)).cell? ⟨w.heap.size + 1 + 1 + 1, 0, none⟩ = some (.slice none 0 0) := by
        rw [World.cell?_setCell_other _ _ _ _ (by intro h; injection h with h1 _; omega)]; exact t3
      have y2 := setc (v := .slice (some ⟨go, 0, none⟩) k1 k1) t2
      have z3 := setc (v := .slice A2 k2 k2) y3
      have z2 : ((w6.setCell ⟨w.heap.size + 1 + 1, 0, none⟩ (.slice (some ⟨go, 0, none⟩) k1 k1)).setCell ⟨w.heap.size + 1 + 1 + 1, 0, none⟩ (.slice A2 k2 k2)).cell? ⟨w.heap.size + 1 + 1, 0, none⟩ = some (.slice (some ⟨go, 0, none⟩) k1 k1) := by
        rw [World.cell?_setCell_other _ _ _ _ (by intro h; injection h with h1 _; omega)]; exact y2
      refine bodyPost_ret (v := .tuple #[.agg #[.slice (some ⟨go, 0, none⟩) k1 k1], .agg #[.slice A2 k2 k2]]) (by simp [results, Tryz.results117, go_sem, z2, z3]) rfl ⟨_, k1, A2, k2, rfl, (HN1'.out.setBox t2 _).setBox y3 _, (HN2.out.setBox t2 _).setBox y3 _, ?_⟩
      exact (HX6.out.setCell (p := ⟨w.heap.size + 1 + 1, 0, none⟩) (by simp only []; omega) _).setCell (p := ⟨w.heap.size + 1 + 1 + 1, 0, none⟩) (by simp only []; omega) _
    · obtain ⟨j, rfl⟩ : ∃ j, gk = j + 1 := ⟨gk - 1, by omega⟩
      -- <fold>
      have hjj : ((j + 1 : Nat) : Int) - 1 = j := by omega
      rw [hjj]
      clear hjj h0
      have hkm : m + n ≤ k + 1 := by have := HM.out; omega
      have hkm2 : k + 1 ≤ m + n := by have := HM.out; omega
      obtain ⟨u0, hu0⟩ : ∃ u0, pu[j]? = some u0 := ⟨_, List.getElem?_eq_getElem (by have := HPU.out.1; omega)⟩
      have hul := mem_lt HPU.out.2.1 hu0
      have hlr := HI.out.lr
      obtain ⟨t1, ht1⟩ : ∃ t1, (u0 :: r)[n]? = some t1 := ⟨_, List.getElem?_eq_getElem (by simp; omega)⟩
      obtain ⟨t0, ht0⟩ : ∃ t0, (u0 :: r)[n - 1]? = some t0 := ⟨_, List.getElem?_eq_getElem (by simp; omega)⟩
      obtain ⟨u2, hu2⟩ : ∃ u2, (u0 :: r)[n - 2]? = some u2 := ⟨_, List.getElem?_eq_getElem (by simp; omega)⟩
      obtain ⟨vT, hvT⟩ : ∃ vT, pv[n - 1]? = some vT := ⟨_, List.getElem?_eq_getElem (by have := HPV.out.1; omega)⟩
      obtain ⟨v2, hv2⟩ : ∃ v2, pv[n - 2]? = some v2 := ⟨_, List.getElem?_eq_getElem (by have := HPV.out.1; omega)⟩
      have hdx : ∀ d ∈ u0 :: r, d < 4294967296 := by
        intro d hd
        rcases List.mem_cons.1 hd with rfl | hd
        · exact hul
        · exact HI.out.dr d hd
      have HS := Lib.hid (show Step (u0 :: r) pv n t1 t0 u2 vT v2 from ⟨hn, by simp [hlr], HPV.out.1, hdx, HPV.out.2.1, ht1, ht0, hu2, hvT, hv2, high_of pv n vT HPV.out.1 (by omega) hvT HPV.out.2.1 (by rw [HPV.out.2.2]; exact HFit.out.2), HI.out.xlt hul⟩)
      have hlt1 := mem_lt hdx ht1
      have hlt0 := mem_lt hdx ht0
      have hlu2 := mem_lt hdx hu2
      have hlvT := mem_lt HPV.out.2.1 hvT
      have hlv2 := mem_lt HPV.out.2.1 hv2
      have hvH : 2147483648 ≤ vT := HS.out.high
      have hpl : (pu.take j).length = j := by rw [List.length_take]; have := HPU.out.1; omega
      have HRow := Lib.hid (HI.out.row hu0)
      have HRv4 := Lib.hid (HRv3.out.extBut HE.out (by omega))
      have ca := HRow.out.cell (win_at hpl ht1)
      have cb := HRow.out.cell (win_at hpl ht0)
      have cc := HRow.out.cell (win_at hpl hu2)
      have cv1 := HRv4.out.cell hvT
      have cv2 := HRv4.out.cell hv2
      rw [show j + (n - 1) = j + n - 1 by omega] at cb
      rw [show j + (n - 2) = j + n - 2 by omega] at cc
      have HPL := Lib.hid hpl
      have HU0 := Lib.hid hu0
      clear hpl hu0 hlr ht1 ht0 hu2 hvT hv2 hdx
      go_wp2
      have e1 : IntKind.i64.wrap ((j : Int) + n) = (j : Int) + n := IntWalk.i64_in _ (by omega)
      have e2 : IntKind.i64.wrap ((j : Int) + n - 1) = (j : Int) + n - 1 := IntWalk.i64_in _ (by omega)
      have e3 : ((j : Int) + n).toNat = j + n := by omega
      have e4 : ((j : Int) + n - 1).toNat = j + n - 1 := by omega
      have p1 : (0 : Int) ≤ (j : Int) + n := by omega
      have p2 : (j : Int) + n < (k : Int) + 1 := by omega
      have p3 : (0 : Int) ≤ (j : Int) + n - 1 := by omega
      have p4 : (j : Int) + n - 1 < (k : Int) + 1 := by omega
      have p5 : (1 : Int) ≤ (j : Int) + n := by omega
      obtain ⟨T, hT⟩ : ∃ T, t1 * 4294967296 + t0 = T := ⟨_, rfl⟩
      have e5 : bits .or .u64 ((t1 : Int) * 4294967296) t0 = (T : Int) := by rw [← hT]; exact or_digit t1 t0 hlt1 hlt0
      have HT := Lib.hid hT
      clear hT
      go_quiet (fail)
      clear e1 e2 e3 e4 e5 p1 p2 p3 p4 p5 ca cb
      have HG0 := Lib.hid HS.out.first
      have hTm : T < 18446744073709551616 := by have := HT.out; omega
      rw [HT.out] at HG0
      obtain ⟨dd, hd⟩ : ∃ dd, T / vT = dd := ⟨_, rfl⟩
      obtain ⟨rest, hr⟩ : ∃ rest, T % vT = rest := ⟨_, rfl⟩
      rw [hd, hr] at HG0
      have hdd : dd ≤ 4294967297 := HG0.out.le
      have hw : IntKind.u64.wrap (dd : Int) = dd := wraps_u64 _ (by omega) (by omega)
      have q1 : (T : Int).tdiv vT = dd := by rw [Int.tdiv_eq_ediv_of_nonneg (by omega), ← hd]; simp
      have q3 : (T : Int).tmod vT = rest := by rw [Int.tmod_eq_emod_of_nonneg (by omega), ← hr]; simp
      have q2 : (T : Int) / vT = dd := by rw [← hd]; simp
      have q4 : (T : Int) % vT = rest := by rw [← hr]; simp
      have hne : ((vT : Int) == 0) = false := by rw [beq_eq_false_iff_ne]; omega
      clear hd hr
      go_wp2
      have e1 : IntKind.i64.wrap ((n : Int) - 1) = (n : Int) - 1 := IntWalk.i64_in _ (by omega)
      have e3 : ((n : Int) - 1).toNat = n - 1 := by omega
      have p1 : (0 : Int) ≤ (n : Int) - 1 := by omega
      have p2 : (n : Int) - 1 < (n : Int) := by omega
      have p3 : (1 : Int) ≤ (n : Int) := by omega
      have p5 : 0 < n := by omega
      go_quiet (fail)
      clear e1 e3 p1 p2 p3 p5 q1 q2 q3 q4 hne hw
      go_upto_block 2 with (fail)
      go_cut [14] (fun s14 wx => ∃ (d nn : Nat), s14 = .int .u64 d ∧ wx = wr.drewN nn ∧ d < 4294967296 ∧ Hid (d = ofD (u0 :: r) / ofD pv ∨ d = ofD (u0 :: r) / ofD pv + 1))
      case first =>
        go_wp2
        go_loopg [14, 15] dd (fun kk dv rv wi => ∃ (rst nn : Nat), dv = .int .u64 kk ∧ rv = .int .u64 rst ∧ wi = wr.drewN nn ∧ rst < 4294967296 ∧ kk ≤ 4294967297 ∧ Hid (Guess (u0 :: r) pv T vT kk rst))
        case atStart => exact ⟨rest, _, rfl, rfl, World.drewN_drewN _ _ _, HG0.out.rest, hdd, HG0⟩
        case round =>
          obtain ⟨rst, nn, rfl, rfl, rfl, hrs, hkk, HG⟩ := hrel
          have e1 : IntKind.i64.wrap ((n : Int) - 2) = (n : Int) - 2 := IntWalk.i64_in _ (by omega)
          have e2 : ((n : Int) - 2).toNat = n - 2 := by omega
          have e3 : IntKind.i64.wrap ((j : Int) + n) = (j : Int) + n := IntWalk.i64_in _ (by omega)
          have e4 : IntKind.i64.wrap ((j : Int) + n - 2) = (j : Int) + n - 2 := IntWalk.i64_in _ (by omega)
          have e5 : ((j : Int) + n - 2).toNat = j + n - 2 := by omega
          have p1 : (0 : Int) ≤ (n : Int) - 2 := by omega
          have p2 : (n : Int) - 2 < (n : Int) := by omega
          have p3 : (2 : Int) ≤ (n : Int) := by omega
          have p5 : 0 < n := by omega
          have p6 : (0 : Int) ≤ (j : Int) + n - 2 := by omega
          have p7 : (j : Int) + n - 2 < (k : Int) + 1 := by omega
          have p8 : (2 : Int) ≤ (j : Int) + n := by omega
          obtain ⟨M, hM⟩ : ∃ M, gk * v2 = M := ⟨_, rfl⟩
          obtain ⟨R, hR⟩ : ∃ R, rst * 4294967296 + u2 = R := ⟨_, rfl⟩
          have HMR := Lib.hid (show gk * v2 = M ∧ rst * 4294967296 + u2 = R from ⟨hM, hR⟩)
          have hbR : bits .or .u64 ((rst : Int) * 4294967296) u2 = (R : Int) := by rw [← hR]; exact or_digit rst u2 hrs hlu2
          clear hM hR
          by_cases hb : gk < 4294967296
          · have g1 : ((gk : Int) / 4294967296 != 0) = false := by rw [bne_eq_false_iff_eq]; omega
            have hbM : IntKind.u64.wrap ((gk : Int) * v2) = (M : Int) := by
              have e := HMR.out.1
              have h1 : gk * v2 ≤ 4294967295 * 4294967295 := Nat.mul_le_mul (by omega) (by omega)
              have e2 : (gk : Int) * v2 = (M : Int) := by rw [← e]; simp
              rw [e2]; exact wraps_u64 _ (by omega) (by omega)
            by_cases hc : R < M
            · have g3 : decide ((R : Int) < (M : Int)) = true := by simp; omega
              have HD := Lib.hid (Guess.down HS.out (by rw [HT.out]; exact HG.out) (.inr (by rw [HMR.out.1, HMR.out.2]; exact hc)))
              have hg1 : 1 ≤ gk := HD.out.1
              by_cases h2 : rst + vT < 4294967296
              · have g2 : (((rst : Int) + vT) / 4294967296 != 0) = false := by rw [bne_eq_false_iff_eq]; omega
                go_wp2
                go_quiet (fail)
                go_wp2
                go_roundg (gk - 1)
                case measure => omega
                case rel => exact ⟨rst + vT, _, by go_num, by go_num, (by first | rfl | exact World.drewN_drewN _ _ _), h2, by omega, ⟨by rw [← HT.out]; exact HD.out.2.2, h2, HD.out.2.1, by omega⟩⟩
              · have g2 : (((rst : Int) + vT) / 4294967296 != 0) = true := by rw [bne_iff_ne]; omega
                go_wp2
                go_quiet (fail)
                go_wp2
                go_meet
                have HL := Guess.left HS.out HD.out.2.2 HD.out.2.1 (by omega)
                exact ⟨gk - 1, _, by go_num, (by first | rfl | exact World.drewN_drewN _ _ _), HL.1, HL.2⟩
            · have g3 : decide ((R : Int) < (M : Int)) = false := by simp; omega
              go_wp2
              go_quiet (fail)
              go_wp2
              go_meet
              have HL := Guess.done HS.out (by rw [HT.out]; exact HG.out.eq) HG.out.ge ⟨hb, by rw [HMR.out.1, HMR.out.2]; omega⟩
              exact ⟨gk, _, rfl, (by first | rfl | exact World.drewN_drewN _ _ _), HL.1, HL.2⟩
          · have g1 : ((gk : Int) / 4294967296 != 0) = true := by rw [bne_iff_ne]; omega
            have HD := Lib.hid (Guess.down HS.out (by rw [HT.out]; exact HG.out) (.inl (by omega)))
            have hg1 : 1 ≤ gk := HD.out.1
            by_cases h2 : rst + vT < 4294967296
            · have g2 : (((rst : Int) + vT) / 4294967296 != 0) = false := by rw [bne_eq_false_iff_eq]; omega
              go_wp2
              go_quiet (fail)
              go_wp2
              go_roundg (gk - 1)
              case measure => omega
              case rel => exact ⟨rst + vT, _, by go_num, by go_num, (by first | rfl | exact World.drewN_drewN _ _ _), h2, by omega, ⟨by rw [← HT.out]; exact HD.out.2.2, h2, HD.out.2.1, by omega⟩⟩
            · have g2 : (((rst : Int) + vT) / 4294967296 != 0) = true := by rw [bne_iff_ne]; omega
              go_wp2
              go_quiet (fail)
              go_wp2
              go_meet
              have HL := Guess.left HS.out HD.out.2.2 HD.out.2.1 (by omega)
              exact ⟨gk - 1, _, by go_num, (by first | rfl | exact World.drewN_drewN _ _ _), HL.1, HL.2⟩
      case rest =>
        obtain ⟨d, nn, rfl, rfl, hdl, HQ⟩ := hcut
        have hdm : (d : Int) % 4294967296 = d := by omega
        have HAw := Lib.hid (away_any gu j (n + 1) (n + 1) (pu.take j) (u0 :: r) (List.replicate (m - (j + 1)) 0) pv (some ⟨gv, 0, none⟩) n n d (wr.drewN nn) HPL.out (by have := HS.out.lx; omega) (by have := HS.out.lv; omega) rfl (by omega) (by omega) HS.out.dx HS.out.dv hdl HRow.out HRv4.out.digs (fun o => .inl (by intro h; injection h with h; injection h with h1 _; omega)))
        go_wp2_with fail
        rw [show j + n + 1 - j = n + 1 by omega]
        refine HAw.out.mono ?_
        rintro e w5 ⟨br, x', rfl, hP⟩
        have HP := Lib.hid hP
        have HE5 := Lib.hid (HE.out.ext ((Ext.refl wr).drewN nn) |>.trans (hP.ext.mono (T := fun g => g = gu ∨ g = go) (fun g hg _ => .inl hg)))
        have hRo5 := (HI.out.ro.drewN nn).extBut (S := fun g => g = gu) hP.ext (show ¬ go = gu by omega)
        have HRv5 := Lib.hid ((HRv4.out.drewN nn).extBut (S := fun g => g = gu) hP.ext (show ¬ gv = gu by omega))
        have co : w5.cell? ⟨go, j, none⟩ = some (.int .u32 ((0 : Nat) : Int)) := hRo5.cell (by rw [List.getElem?_append_left (by simp)]; simp)
        have fo := hRo5.free j
        have HRo5 := Lib.hid hRo5
        obtain ⟨X, hX⟩ : ∃ X, ofD (u0 :: r) = X := ⟨_, rfl⟩
        have hqB : ofD (u0 :: r) / ofD pv < 4294967296 := Guess.q_lt HS.out
        have hVn : ofD pv < 4294967296 ^ n := by have := HFit.out.1; rwa [← HPV.out.2.2] at this
        have HVn := Lib.hid hVn
        have HqB := Lib.hid hqB
        have hx'M := ofD_lt x' hP.lt
        rw [hP.len] at hx'M
        clear hP hRo5 HAw hVn hqB hX
        rcases HQ.out with hq | hq
        · have hR := away_right (ofD (u0 :: r)) (ofD pv) d br (ofD x') _ HP.out.val HP.out.le hx'M hq
          obtain ⟨rfl, hxv⟩ := hR
          have HRu6 : Hid (Row (w5.setCell ⟨go, j, none⟩ (.int .u32 (d : Int))) 145 gu (pu.take j ++ (x' ++ List.replicate (m - (j + 1)) 0))) :=
            HP.out.row.extBut ((ExtBut.refl (fun g => g = go) w5).setCell (p := ⟨go, j, none⟩) (.inl rfl) _) (show ¬ gu = go by omega)
          have HRo6 : Hid (Row (w5.setCell ⟨go, j, none⟩ (.int .u32 (d : Int))) 145 go ((List.replicate (j + 1) 0 ++ qs).set j (ofD (u0 :: r) / ofD pv))) := by
            rw [← hq]; exact HRo5.out.set_ j d
          have HN := Lib.hid (HI.out.next HU0.out (by rw [HP.out.len, HS.out.lx]) HP.out.lt hxv HVn.out HqB.out HRu6.out HRo6.out)
          have HE6 : Hid (ExtBut (fun g => g = gu ∨ g = go) W3 (w5.setCell ⟨go, j, none⟩ (.int .u32 (d : Int)))) := HE5.out.setCell (p := ⟨go, j, none⟩) (.inl (.inr rfl)) _
          clear hxv hx'M hq
          go_wp2
          go_roundg j
          case measure => omega
          case rel => exact ⟨_, _, by omega, rfl, HN, HE6⟩
        · have hR := away_wrong (ofD (u0 :: r)) (ofD pv) d br (ofD x') _ HS.out.vpos HP.out.val HP.out.le hx'M hq
          obtain ⟨rfl, hxv⟩ := hR
          obtain ⟨q, hqq⟩ : ∃ q, ofD (u0 :: r) / ofD pv = q := ⟨_, rfl⟩
          have hd1 : (d : Int) - 1 = q := by omega
          have hd0 : 1 ≤ d := by omega
          have hRo6 : Row (w5.setCell ⟨go, j, none⟩ (.int .u32 (q : Int))) 145 go ((List.replicate (j + 1) 0 ++ qs).set j q) := HRo5.out.set_ j q
          have hX6 : ExtBut (fun g => g = go) w5 (w5.setCell ⟨go, j, none⟩ (.int .u32 (q : Int))) := (ExtBut.refl (fun g => g = go) w5).setCell (p := ⟨go, j, none⟩) (.inl rfl) _
          have hRu6 := HP.out.row.extBut hX6 (show ¬ gu = go by omega)
          have hRv6 := HRv5.out.extBut hX6 (show ¬ gv = go by omega)
          have HE6 : Hid (ExtBut (fun g => g = gu ∨ g = go) W3 (w5.setCell ⟨go, j, none⟩ (.int .u32 (q : Int)))) := HE5.out.setCell (p := ⟨go, j, none⟩) (.inl (.inr rfl)) _
          have HRo6 := Lib.hid hRo6
          have HRu6 := Lib.hid hRu6
          have HRv6 := Lib.hid hRv6
          have HXV := Lib.hid hxv
          have HQQ := Lib.hid hqq
          have hlx : x'.length = n + 1 := by rw [HP.out.len, HS.out.lx]
          have HLX := Lib.hid hlx
          clear hRo6 hRu6 hRv6 hX6 hxv hqq hq hx'M hlx HE5 HRo5 HRv5
          go_wp2
          obtain ⟨W6, hW6⟩ : ∃ W6 : World, w5.setCell ⟨go, j, none⟩ (.int .u32 (q : Int)) = W6 := ⟨_, rfl⟩
          rw [hW6] at HRo6 HRu6 HRv6 HE6
          rw [hW6]
          clear hW6 co fo
          go_loopg [17, 157] (n + 1) (fun kk cv iv wi => ∃ (i c : Nat) (p : List Nat), kk + i = n + 1 ∧ i ≤ n + 1 ∧ iv = .int .i64 i ∧ cv = .int .u64 c ∧ c ≤ 1 ∧ Hid (BackInv gu (pu.take j) x' (List.replicate (m - (j + 1)) 0) pv wi i c p) ∧ Hid (ExtBut (fun g => g = gu) W6 wi))
          case atStart => exact ⟨0, 0, [], rfl, Nat.zero_le _, rfl, rfl, by omega, ⟨rfl, by simp, by simpa using HRu6.out, by simp [ofD]⟩, ExtBut.refl _ _⟩
          case round =>
            obtain ⟨i, c, p, hki, hi, rfl, rfl, hc, HBI, HEB⟩ := hrel
            by_cases hin : i < n + 1
            · obtain ⟨xi, hxi⟩ : ∃ xi, x'[i]? = some xi := ⟨_, List.getElem?_eq_getElem (by have := HLX.out; omega)⟩
              have hxl := mem_lt HP.out.lt hxi
              have cx := HBI.out.row.cell (win_at HPL.out (row_at HBI.out.len hxi))
              have fx := HBI.out.row.free (j + i)
              have HXI := Lib.hid hxi
              by_cases hiv : i < n
              · obtain ⟨yi, hyi⟩ : ∃ yi, pv[i]? = some yi := ⟨_, List.getElem?_eq_getElem (by have := HPV.out.1; omega)⟩
                have hyl := mem_lt HPV.out.2.1 hyi
                have cy := (HRv6.out.extBut (S := fun g => g = gu) HEB.out (show ¬ gv = gu by omega)).cell hyi
                obtain ⟨z, hz⟩ : ∃ z, (c + xi + yi) % 4294967296 = z := ⟨_, rfl⟩
                obtain ⟨c2, hc2⟩ : ∃ c2, (c + xi + yi) / 4294967296 = c2 := ⟨_, rfl⟩
                have hzi : ((c : Int) + xi + yi) % 4294967296 = z := by omega
                have hci : ((c : Int) + xi + yi) / 4294967296 = c2 := by omega
                have HQ2 : Hid (c + xi + yi = z + 4294967296 * c2 ∧ z < 4294967296 ∧ c2 ≤ 1) := ⟨by omega, by omega, by omega⟩
                have HSt := Lib.hid (add_step x' pv p i c xi yi z c2 (by rw [hxi]; rfl) (by rw [hyi]; rfl) HBI.out.len HQ2.out.1 HBI.out.val)
                have HRN : Hid (Row (wr.setCell ⟨gu, j + i, none⟩ (.int .u32 (z : Nat))) 145 gu (pu.take j ++ (((p ++ [z]) ++ x'.drop (i + 1)) ++ List.replicate (m - (j + 1)) 0))) := by
                  have := HBI.out.row.set_ (j + i) z
                  rwa [win_set HPL.out (by simp; have := HBI.out.len; have := HLX.out; omega), row_set HBI.out.len hxi] at this
                have HXN := Lib.hid (HEB.out.setCell (p := ⟨gu, j + i, none⟩) (.inl rfl) (.int .u32 (z : Nat)))
                have HBL := Lib.hid HBI.out.len
                have HBD := Lib.hid HBI.out.lt
                clear hxi hyi hz hc2 HBI HEB
                go_wp2
                go_roundg (gk - 1)
                case measure => omega
                case rel => exact ⟨i + 1, c2, p ++ [z], by omega, by omega, by go_num, rfl, HQ2.out.2.2, ⟨by simp [HBL.out], by
                  intro d hd
                  rcases List.mem_append.1 hd with hd | hd
                  · exact HBD.out d hd
                  · simp at hd; subst hd; exact HQ2.out.2.1, HRN.out, HSt.out⟩, HXN⟩
              · obtain ⟨z, hz⟩ : ∃ z, (c + xi) % 4294967296 = z := ⟨_, rfl⟩
                obtain ⟨c2, hc2⟩ : ∃ c2, (c + xi) / 4294967296 = c2 := ⟨_, rfl⟩
                have hzi : ((c : Int) + xi) % 4294967296 = z := by omega
                have hci : ((c : Int) + xi) / 4294967296 = c2 := by omega
                have HQ2 : Hid (c + xi + 0 = z + 4294967296 * c2 ∧ z < 4294967296 ∧ c2 ≤ 1) := ⟨by omega, by omega, by omega⟩
                have HSt := Lib.hid (add_step x' pv p i c xi 0 z c2 (by rw [hxi]; rfl) (by rw [List.getElem?_eq_none (by have := HPV.out.1; omega)]; rfl) HBI.out.len HQ2.out.1 HBI.out.val)
                have HRN : Hid (Row (wr.setCell ⟨gu, j + i, none⟩ (.int .u32 (z : Nat))) 145 gu (pu.take j ++ (((p ++ [z]) ++ x'.drop (i + 1)) ++ List.replicate (m - (j + 1)) 0))) := by
                  have := HBI.out.row.set_ (j + i) z
                  rwa [win_set HPL.out (by simp; have := HBI.out.len; have := HLX.out; omega), row_set HBI.out.len hxi] at this
                have HXN := Lib.hid (HEB.out.setCell (p := ⟨gu, j + i, none⟩) (.inl rfl) (.int .u32 (z : Nat)))
                have HBL := Lib.hid HBI.out.len
                have HBD := Lib.hid HBI.out.lt
                clear hxi hz hc2 HBI HEB
                go_wp2
                go_roundg (gk - 1)
                case measure => omega
                case rel => exact ⟨i + 1, c2, p ++ [z], by omega, by omega, by go_num, rfl, HQ2.out.2.2, ⟨by simp [HBL.out], by
                  intro d hd
                  rcases List.mem_append.1 hd with hd | hd
                  · exact HBD.out d hd
                  · simp at hd; subst hd; exact HQ2.out.2.1, HRN.out, HSt.out⟩, HXN⟩
            · obtain rfl : i = n + 1 := by omega
              have hpl := HBI.out.len
              have hpM := ofD_lt p HBI.out.lt
              rw [hpl] at hpM
              have hval := HBI.out.val
              rw [List.take_of_length_le (by have := HLX.out; omega), List.take_of_length_le (l := pv) (by have := HPV.out.1; omega)] at hval
              have hxv := HXV.out
              rw [HS.out.lx] at hxv
              have hmod := Nat.mod_lt (ofD (u0 :: r)) HS.out.vpos
              have hVM : ofD pv < 4294967296 ^ (n + 1) := Nat.lt_trans HVn.out (Nat.pow_lt_pow_right (by omega) (by omega))
              have hres : ofD p = ofD (u0 :: r) % ofD pv := by
                generalize ofD (u0 :: r) % ofD pv = rr at *
                generalize 4294967296 ^ (n + 1) = MM at *
                rcases Nat.eq_zero_or_pos c with h0 | h0
                · subst h0; omega
                · obtain rfl : c = 1 := by omega
                  omega
              have hru := HBI.out.row
              rw [List.drop_eq_nil_of_le (by have := HLX.out; omega), List.append_nil] at hru
              have hro := HRo6.out.extBut (S := fun g => g = gu) HEB.out (show ¬ go = gu by omega)
              rw [← HQQ.out] at hro
              have HN := Lib.hid (HI.out.next HU0.out hpl HBI.out.lt hres HVn.out HqB.out hru hro)
              have HE7 : Hid (ExtBut (fun g => g = gu ∨ g = go) W3 wr) := HE6.out.trans (HEB.out.mono (T := fun g => g = gu ∨ g = go) (fun g hg _ => .inl hg))
              clear hpl hpM hval hxv hmod hVM hres hru hro HBI HEB
              go_wp2
              go_roundg j
              case measure => omega
              case rel => exact ⟨_, _, by omega, rfl, HN, HE7⟩
      -- </fold>
end Go.Proofs.YtiihnoelclnahaaGreatDoor
