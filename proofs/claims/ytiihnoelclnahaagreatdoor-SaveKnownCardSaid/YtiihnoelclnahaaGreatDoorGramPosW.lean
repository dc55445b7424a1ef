/- gram.positive: the walk. (Printed by gen_pos.py.) -/
import Derived.Test.YtiihnoelclnahaaGreatDoorGramPos
import Derived.Deep.DeepCutAuto
namespace Go.Proofs.YtiihnoelclnahaaGreatDoor
open Go.RowKit
set_option linter.unusedVariables false

set_option maxHeartbeats 4000000 in
set_option maxRecDepth 100000 in
theorem positive_any (A : Option Addr) (n c : Nat) (rows : List (List Int)) (w : World) (hn : n = rows.length) (hn1 : 1 ≤ n) (hn8 : n ≤ 100) (hr : IsRows w A rows) (hf : Fit64 rows) (hsq : ∀ l ∈ rows, l.length = n) :
    Calls Tryz.prog 37 #[.slice A n c] w fun e w' => e = .returned (.bool (posB n (entry rows))) ∧ Ext w w' := by
  obtain ⟨W0, hWW0⟩ : ∃ W0 : World, w.alloc (.cells #[.slice A n c] 39) = W0 := ⟨_, rfl⟩
  have hXW0 : Ext w W0 := by rw [← hWW0]; exact ((Ext.refl w).alloc _)
  have hsW0 : w.heap.size + 1 ≤ W0.heap.size := by rw [← hWW0]; simp only [World.size_alloc]; omega
  have c0 : W0.cell? ⟨w.heap.size, 0, none⟩ = some (.slice A n c) := by rw [← hWW0]; simp [go_sem]
  have f0 : W0.frozen? ⟨w.heap.size, 0, none⟩ = false := by rw [← hWW0]; simp [go_sem]
  have HWW0 := Lib.hid hWW0
  clear hWW0
  have HSq := Lib.hid (square_any A n c rows w.heap.size W0 hn hn1 hn8 c0 (hr.ext hXW0) hf hsq)
  have HX := Lib.hid hXW0
  have HOne := Lib.hid (fun W => zOf_pos 1 W (by omega) (by omega))
  have hmf : ∀ (fn : Fn) (first cap : Array Value) (w : World), (Instr.makeFunc fn first cap).run Tryz.prog w = .ok (.func fn first cap) w := fun _ _ _ _ => rfl
  clear hr hf hsq hn hXW0
  go_enter Tryz.func37, Tryz.ntmps37
  go_wp2_with fail
  rw [HWW0.out]
  refine HSq.out.mono ?_
  rintro e w1 ⟨g, cap, h, rfl, hnc, hM, hx⟩
  have HX1 := Lib.hid (HX.out.trans hx)
  have HM := Lib.hid hM
  clear hx hM HWW0 HSq HX c0 f0
  go_wp2_with fail
  refine (HOne.out _).mono ?_
  rintro e w2 ⟨A1, k1, rfl, hi, hx⟩
  have HX2 := Lib.hid (HX1.out.trans hx)
  have HM2 := Lib.hid (HM.out.ext hx)
  have HL2 := Lib.hid hi
  clear hx hi HX1 HM HOne
  go_wp2
  have hlow1 : w.heap.size + 1 ≤ W0.heap.size := hsW0
  obtain ⟨bl, hbl⟩ : ∃ bl, w2.heap.size = bl := ⟨_, rfl⟩
  obtain ⟨W3, hW3⟩ : ∃ W3, w2.alloc (.cells #[.bool false, .slice A1 k1 k1] 104) = W3 := ⟨_, rfl⟩
  have HP : Hid (PosInv w W3 W0.heap.size n 0 g bl h 1 (entry rows) (posB n (entry rows))) := by
    have hX3 : Ext w2 W3 := by rw [← hW3]; exact (Ext.refl w2).alloc _
    have hh := heap_new w2 (.cells #[.bool false, .slice A1 k1 k1] 104)
    rw [hW3, hbl] at hh
    refine ⟨HM2.out.ext hX3, ⟨fun j hj => ?_, fun o => ?_, ⟨_, _, hh⟩⟩, fun i hi => ?_, ?_, HX2.out.trans hX3, rfl⟩
    · obtain rfl : j = 0 := by omega
      exact ⟨false, A1, k1, by rw [cell_of_row _ _ _ _ _ _ hh]; rfl, by rw [cell_of_row _ _ _ _ _ _ hh]; rfl, HL2.out.ext hX3⟩
    · simp only [World.frozen?, hh]; rfl
    · have := (HM2.out.row i hi).lt; omega
    · have := HX2.out.size; omega
  rw [hW3, hbl]
  clear hW3 HL2 HM2 HX2 hbl
  go_loopg [22] n (fun kk rv wr => ∃ (r : Nat) (last : Int) (m : Nat → Nat → Int), kk + r = n ∧ rv = .int .i64 r ∧ Hid (PosInv w wr W0.heap.size n r g bl h last m (posB n (entry rows))))
  case atStart => exact ⟨0, 1, _, by omega, rfl, HP⟩
  case round =>
    clear HP
    obtain ⟨r, last, m, hkr, rfl, HI⟩ := hrel
    by_cases hrn : r < n
    · obtain ⟨nrr, Arr, krr, crr1, crr2, irr⟩ := (HI.out.mat.row r hrn).cells r hrn
      have cR := HI.out.mat.rows r hrn
      have HSg := Lib.hid (Sign_any nrr Arr krr (m r r) wr irr)
      obtain ⟨sg, hsg⟩ : ∃ sg, signZ (m r r) = sg := ⟨_, rfl⟩
      rw [hsg] at HSg
      have hsg2 : (sg ≤ 0 ↔ m r r ≤ 0) := by rw [← hsg]; unfold signZ; split <;> (try split) <;> omega
      have hpos := HI.out.pos
      rw [show n - r = (n - (r + 1)) + 1 by omega, barPos] at hpos
      by_cases hle : m r r ≤ 0
      · have hs0 : sg ≤ 0 := hsg2.2 hle
        rw [if_pos hle] at hpos
        have HPs := Lib.hid hpos
        have HXr := Lib.hid HI.out.ext
        clear hsg hsg2 hle hpos irr
        go_wp2_with fail
        refine HSg.out.mono ?_
        rintro e w3 ⟨rfl, hx⟩
        go_wp2
        go_ret
        rw [← HPs.out]
        exact ⟨rfl, HXr.out.trans hx⟩
      · have hs0 : 1 ≤ sg := by omega
        rw [if_neg hle] at hpos
        have HPs := Lib.hid hpos
        have HLe := Lib.hid hle
        clear hsg hsg2 hle hpos irr
        go_wp2_with fail
        refine HSg.out.mono ?_
        rintro e w3 ⟨rfl, hx⟩
        have HM3 := Lib.hid (HI.out.mat.ext hx)
        have HB3 := Lib.hid (HI.out.box.ext hx)
        have HX3 := Lib.hid (HI.out.ext.trans hx)
        have HNe := Lib.hid HI.out.ne
        have HLw := Lib.hid HI.out.low
        clear hx HSg HI crr1 crr2 cR
        go_wp2
        go_loopg [7] (n - (r + 1)) (fun kk iv wi => ∃ i : Nat, kk + i = n ∧ r < i ∧ iv = .int .i64 i ∧ Hid (MatZ wi W0.heap.size g n h (rowsTo n r i last m)) ∧ Hid (MRow wi bl 1 (fun _ => last)) ∧ Hid (Ext w wi))
        case atStart => exact ⟨r + 1, by omega, by omega, by go_num, by rw [rowsTo_start]; exact HM3, HB3, HX3⟩
        case round =>
          obtain ⟨i, hki, hri, rfl, HMi, HBi, HXi⟩ := hrel
          by_cases hin : i < n
          · go_wp2
            go_loopg [8] (n - (r + 1)) (fun kk kv wk => ∃ k : Nat, kk + k = n ∧ r < k ∧ kv = .int .i64 k ∧ Hid (MatZ wk W0.heap.size g n h (colsTo n r i k last m)) ∧ Hid (MRow wk bl 1 (fun _ => last)) ∧ Hid (Ext w wk))
            case atStart => exact ⟨r + 1, by omega, by omega, by go_num, by rw [colsTo_start]; exact HMi, HBi, HXi⟩
            case round =>
              obtain ⟨k, hkk, hrk, rfl, HMk, HBk, HXk⟩ := hrel
              by_cases hkn : k < n
              · have hreads := colsTo_reads n r i k last m hri hrk
                obtain ⟨nrr, Arr, krr, crr1, crr2, irr⟩ := (HMk.out.row r hrn).cells r hrn
                obtain ⟨nik, Aik, kik, cik1, cik2, iik⟩ := (HMk.out.row i hin).cells k hkn
                obtain ⟨nir, Air, kir, cir1, cir2, iir⟩ := (HMk.out.row i hin).cells r hrn
                obtain ⟨nrk, Ark, krk, crk1, crk2, irk⟩ := (HMk.out.row r hrn).cells k hkn
                rw [hreads.1] at irr
                rw [hreads.2.1] at iik
                rw [hreads.2.2.1] at iir
                rw [hreads.2.2.2] at irk
                have cR := HMk.out.rows r hrn
                have cI := HMk.out.rows i hin
                have HRR := Lib.hid irr
                have HIK := Lib.hid iik
                have HIR := Lib.hid iir
                have HRK := Lib.hid irk
                clear hreads irr iik iir irk
                have HMul1 := Lib.hid (fun W (hx : Ext wr W) => zMul_any nrr nik Arr Aik krr kik (m r r) (m i k) W (HRR.out.ext hx) (HIK.out.ext hx))
                go_upto_region 15 with (fail)
                go_cut [9] (fun s wx => ∃ bx, s = .pointer (some ⟨bx, 0, none⟩) ∧ wr.heap.size ≤ bx ∧ Hid (MRow wx bx 1 (fun _ => fitZ (m r r * m i k))) ∧ Hid (Ext wr wx))
                case first =>
                  have HKeep := Lib.hid (fun (w' : World) (hx : Ext wr w') => (show w'.cell? ⟨g, r, none⟩ = some (.slice (some ⟨h r, 0, none⟩) n n) ∧ w'.cell? ⟨g, i, none⟩ = some (.slice (some ⟨h i, 0, none⟩) n n) ∧ w'.cell? ⟨h r, r * 2, none⟩ = some (.bool nrr) ∧ w'.cell? ⟨h r, r * 2 + 1, none⟩ = some (.slice Arr krr krr) ∧ w'.cell? ⟨h i, k * 2, none⟩ = some (.bool nik) ∧ w'.cell? ⟨h i, k * 2 + 1, none⟩ = some (.slice Aik kik kik) from ⟨hx.cell cR, hx.cell cI, hx.cell crr1, hx.cell crr2, hx.cell cik1, hx.cell cik2⟩))
                  go_region_held3 (fun w' => w'.cell? ⟨g, r, none⟩ = some (.slice (some ⟨h r, 0, none⟩) n n) ∧ w'.cell? ⟨g, i, none⟩ = some (.slice (some ⟨h i, 0, none⟩) n n) ∧ w'.cell? ⟨h r, r * 2, none⟩ = some (.bool nrr) ∧ w'.cell? ⟨h r, r * 2 + 1, none⟩ = some (.slice Arr krr krr) ∧ w'.cell? ⟨h i, k * 2, none⟩ = some (.bool nik) ∧ w'.cell? ⟨h i, k * 2 + 1, none⟩ = some (.slice Aik kik kik)) (exact HKeep.out _ (by repeat (first | exact Ext.refl _ | exact hxA | refine Ext.drew ?_ | refine Ext.drewN ?_ _ | refine Ext.setCell ?_ (by first | exact Nat.le_refl _ | (simp only []; omega)) _ | refine Ext.alloc ?_ _)))
                    (first
                      | (go_at_call 52; refine (HMul1.out _ (by repeat (first | exact Ext.refl _ | exact hxA | refine Ext.drew ?_ | refine Ext.drewN ?_ _ | refine Ext.setCell ?_ (by first | exact Nat.le_refl _ | (simp only []; omega)) _ | refine Ext.alloc ?_ _))).mono ?_; rintro e w4 ⟨nx, Ax, kx, rfl, hix, hx⟩; have hxA : Ext wr w4 := Ext.trans (by repeat (first | exact Ext.refl _ | exact hxA | refine Ext.drew ?_ | refine Ext.drewN ?_ _ | refine Ext.setCell ?_ (by first | exact Nat.le_refl _ | (simp only []; omega)) _ | refine Ext.alloc ?_ _)) hx; have hsz := hxA.size; have HIx := Lib.hid hix; clear hix; try (have dd := newbox hx; obtain ⟨d1, d2, d3, d4, d5⟩ := dd)))
                  all_goals
                    go_wp2
                    go_meet
                    first
                    | exact ⟨w4.heap.size, rfl, hsz, MRow.new1 HIx.out, hxA.alloc _⟩
                    | exact ⟨wr.heap.size, rfl, Nat.le_refl _, MRow.put1 HIx.out d1 d2 d5, (hxA.setCell (p := ⟨_, 0, none⟩) (Nat.le_refl _) _).setCell (p := ⟨_, 1, none⟩) (Nat.le_refl _) _⟩
                case rest =>
                  obtain ⟨b9, rfl, hb9, HM9, HX9⟩ := hcut
                  obtain ⟨wa, hwa⟩ : ∃ wa, wc = wa := ⟨_, rfl⟩
                  rw [hwa] at HM9 HX9 ⊢
                  clear hwa wc HMul1 crr1 crr2 HRR
                  replace cR := HX9.out.cell cR
                  replace cI := HX9.out.cell cI
                  replace cir1 := HX9.out.cell cir1
                  replace cir2 := HX9.out.cell cir2
                  replace crk1 := HX9.out.cell crk1
                  replace crk2 := HX9.out.cell crk2
                  have HMul2 := Lib.hid (fun W (hx : Ext wa W) => zMul_any nir nrk Air Ark kir krk (m i r) (m r k) W ((HIR.out.ext HX9.out).ext hx) ((HRK.out.ext HX9.out).ext hx))
                  go_upto_region 16 with (fail)
                  go_cut [11] (fun s wx => ∃ bx, s = .pointer (some ⟨bx, 0, none⟩) ∧ wa.heap.size ≤ bx ∧ Hid (MRow wx bx 1 (fun _ => fitZ (m i r * m r k))) ∧ Hid (Ext wa wx))
                  case first =>
                    have HKeep := Lib.hid (fun (w' : World) (hx : Ext wa w') => (show w'.cell? ⟨g, r, none⟩ = some (.slice (some ⟨h r, 0, none⟩) n n) ∧ w'.cell? ⟨g, i, none⟩ = some (.slice (some ⟨h i, 0, none⟩) n n) ∧ w'.cell? ⟨h i, r * 2, none⟩ = some (.bool nir) ∧ w'.cell? ⟨h i, r * 2 + 1, none⟩ = some (.slice Air kir kir) ∧ w'.cell? ⟨h r, k * 2, none⟩ = some (.bool nrk) ∧ w'.cell? ⟨h r, k * 2 + 1, none⟩ = some (.slice Ark krk krk) from ⟨hx.cell cR, hx.cell cI, hx.cell cir1, hx.cell cir2, hx.cell crk1, hx.cell crk2⟩))
                    go_region_held3 (fun w' => w'.cell? ⟨g, r, none⟩ = some (.slice (some ⟨h r, 0, none⟩) n n) ∧ w'.cell? ⟨g, i, none⟩ = some (.slice (some ⟨h i, 0, none⟩) n n) ∧ w'.cell? ⟨h i, r * 2, none⟩ = some (.bool nir) ∧ w'.cell? ⟨h i, r * 2 + 1, none⟩ = some (.slice Air kir kir) ∧ w'.cell? ⟨h r, k * 2, none⟩ = some (.bool nrk) ∧ w'.cell? ⟨h r, k * 2 + 1, none⟩ = some (.slice Ark krk krk)) (exact HKeep.out _ (by repeat (first | exact Ext.refl _ | exact hxA | refine Ext.drew ?_ | refine Ext.drewN ?_ _ | refine Ext.setCell ?_ (by first | exact Nat.le_refl _ | (simp only []; omega)) _ | refine Ext.alloc ?_ _)))
                      (first
                        | (go_at_call 52; refine (HMul2.out _ (by repeat (first | exact Ext.refl _ | exact hxA | refine Ext.drew ?_ | refine Ext.drewN ?_ _ | refine Ext.setCell ?_ (by first | exact Nat.le_refl _ | (simp only []; omega)) _ | refine Ext.alloc ?_ _))).mono ?_; rintro e w4 ⟨nx, Ax, kx, rfl, hix, hx⟩; have hxA : Ext wa w4 := Ext.trans (by repeat (first | exact Ext.refl _ | exact hxA | refine Ext.drew ?_ | refine Ext.drewN ?_ _ | refine Ext.setCell ?_ (by first | exact Nat.le_refl _ | (simp only []; omega)) _ | refine Ext.alloc ?_ _)) hx; have hsz := hxA.size; have HIx := Lib.hid hix; clear hix; try (have dd := newbox hx; obtain ⟨d1, d2, d3, d4, d5⟩ := dd)))
                    all_goals
                      go_wp2
                      go_meet
                      first
                      | exact ⟨w4.heap.size, rfl, hsz, MRow.new1 HIx.out, hxA.alloc _⟩
                      | exact ⟨wa.heap.size, rfl, Nat.le_refl _, MRow.put1 HIx.out d1 d2 d5, (hxA.setCell (p := ⟨_, 0, none⟩) (Nat.le_refl _) _).setCell (p := ⟨_, 1, none⟩) (Nat.le_refl _) _⟩
                  case rest =>
                    obtain ⟨b11, rfl, hb11, HM11, HX11⟩ := hcut
                    obtain ⟨wb, hwb⟩ : ∃ wb, wc = wb := ⟨_, rfl⟩
                    rw [hwb] at HM11 HX11 ⊢
                    clear hwb wc HMul2 cir1 cir2 crk1 crk2 HIR HRK
                    obtain ⟨n9, A9, k9, c91, c92, i9⟩ := (HM9.out.ext HX11.out).one
                    obtain ⟨n11, A11, k11, c111, c112, i11⟩ := HM11.out.one
                    have HSub := Lib.hid (zSub_any n9 n11 A9 A11 k9 k11 _ _ wb i9 i11)
                    have HXb := Lib.hid (HX9.out.trans HX11.out)
                    clear i9 i11 cR cI cik1 cik2
                    go_wp2_with fail
                    refine HSub.out.mono ?_
                    rintro e w5 ⟨n13, A13, k13, rfl, hi13, hx5⟩
                    have HXc := Lib.hid (HXb.out.trans hx5)
                    have HI13 := Lib.hid hi13
                    clear hi13 hx5 HSub HXb HX11 c91 c92 c111 c112
                    go_upto_region 18 with (fail)
                    obtain ⟨b13, hb13⟩ : ∃ b13, w5.heap.size = b13 := ⟨_, rfl⟩
                    have hne2 : h i ≠ b13 := by have := (HMk.out.row i hin).lt; have := HXc.out.size; omega
                    obtain ⟨wd, hwd⟩ : ∃ wd, w5.alloc (.cells #[.bool n13, .slice A13 k13 k13] 104) = wd := ⟨_, rfl⟩
                    have HM13 := Lib.hid (MRow.new1 HI13.out)
                    have HXd := Lib.hid (HXc.out.alloc (.cells #[.bool n13, .slice A13 k13 k13] 104))
                    rw [hwd, hb13] at HM13
                    rw [hwd] at HXd
                    rw [hwd, hb13]
                    clear hwd HI13 HXc hb13
                    obtain ⟨n13', A13', k13', c131, c132, i13⟩ := HM13.out.one
                    obtain ⟨n5, A5, k5, c51, c52, i5⟩ := (HBk.out.ext HXd.out).one
                    have HMd := Lib.hid (HMk.out.ext HXd.out)
                    have HBd := Lib.hid (HBk.out.ext HXd.out)
                    obtain ⟨nik', Aik', kik', cik1, cik2, _⟩ := (HMd.out.row i hin).cells k hkn
                    have fik := (HMd.out.row i hin).free
                    have fik1 := fik (k * 2)
                    have fik2 := fik (k * 2 + 1)
                    have cI := HMd.out.rows i hin
                    have HEx := Lib.hid (fun W (hx : Ext wd W) => zExact_any n13' n5 A13' A5 k13' k5 _ _ W (i13.ext hx) (i5.ext hx))
                    clear fik i13 i5
                    have hne0 : h i ≠ g := HMd.out.ne hin
                    have hne1 : h i ≠ bl := HNe.out i hin
                    have HKeep2 := Lib.hid (fun (w' : World) (hx : Ext wd w') (u v : Value) => (show ((w'.setCell ⟨h i, k * 2, none⟩ u).setCell ⟨h i, k * 2 + 1, none⟩ v).cell? ⟨g, i, none⟩ = some (.slice (some ⟨h i, 0, none⟩) n n) ∧ ((w'.setCell ⟨h i, k * 2, none⟩ u).setCell ⟨h i, k * 2 + 1, none⟩ v).cell? ⟨b13, 0, none⟩ = some (.bool n13') ∧ ((w'.setCell ⟨h i, k * 2, none⟩ u).setCell ⟨h i, k * 2 + 1, none⟩ v).cell? ⟨b13, 1, none⟩ = some (.slice A13' k13' k13') ∧ ((w'.setCell ⟨h i, k * 2, none⟩ u).setCell ⟨h i, k * 2 + 1, none⟩ v).cell? ⟨bl, 0, none⟩ = some (.bool n5) ∧ ((w'.setCell ⟨h i, k * 2, none⟩ u).setCell ⟨h i, k * 2 + 1, none⟩ v).cell? ⟨bl, 1, none⟩ = some (.slice A5 k5 k5) from ⟨by rw [World.cell?_setCell_other _ _ _ _ (by intro e; injection e with e1 e2; exact hne0 e1), World.cell?_setCell_other _ _ _ _ (by intro e; injection e with e1 e2; exact hne0 e1)]; exact hx.cell cI, by rw [World.cell?_setCell_other _ _ _ _ (by intro e; injection e with e1 e2; exact hne2 e1), World.cell?_setCell_other _ _ _ _ (by intro e; injection e with e1 e2; exact hne2 e1)]; exact hx.cell c131, by rw [World.cell?_setCell_other _ _ _ _ (by intro e; injection e with e1 e2; exact hne2 e1), World.cell?_setCell_other _ _ _ _ (by intro e; injection e with e1 e2; exact hne2 e1)]; exact hx.cell c132, by rw [World.cell?_setCell_other _ _ _ _ (by intro e; injection e with e1 e2; exact hne1 e1), World.cell?_setCell_other _ _ _ _ (by intro e; injection e with e1 e2; exact hne1 e1)]; exact hx.cell c51, by rw [World.cell?_setCell_other _ _ _ _ (by intro e; injection e with e1 e2; exact hne1 e1), World.cell?_setCell_other _ _ _ _ (by intro e; injection e with e1 e2; exact hne1 e1)]; exact hx.cell c52⟩))
                    have HKeepd := Lib.hid (fun (w' : World) (hx : Ext wd w') => (show w'.cell? ⟨g, i, none⟩ = some (.slice (some ⟨h i, 0, none⟩) n n) ∧ w'.cell? ⟨b13, 0, none⟩ = some (.bool n13') ∧ w'.cell? ⟨b13, 1, none⟩ = some (.slice A13' k13' k13') ∧ w'.cell? ⟨bl, 0, none⟩ = some (.bool n5) ∧ w'.cell? ⟨bl, 1, none⟩ = some (.slice A5 k5 k5) from ⟨hx.cell cI, hx.cell c131, hx.cell c132, hx.cell c51, hx.cell c52⟩))
                    go_region_held3 (fun w' => w'.cell? ⟨g, i, none⟩ = some (.slice (some ⟨h i, 0, none⟩) n n) ∧ w'.cell? ⟨b13, 0, none⟩ = some (.bool n13') ∧ w'.cell? ⟨b13, 1, none⟩ = some (.slice A13' k13' k13') ∧ w'.cell? ⟨bl, 0, none⟩ = some (.bool n5) ∧ w'.cell? ⟨bl, 1, none⟩ = some (.slice A5 k5 k5)) (first | exact HKeep2.out _ hxA _ _ | exact HKeepd.out _ hxA | exact HKeepd.out _ ((Ext.refl wd).drew))
                      (first
                        | (go_at_call 54; refine (HEx.out _ (by repeat (first | exact Ext.refl _ | exact hxA | refine Ext.drew ?_ | refine Ext.drewN ?_ _ | refine Ext.setCell ?_ (by first | exact Nat.le_refl _ | (simp only []; omega)) _ | refine Ext.alloc ?_ _))).mono ?_; rintro e w4 ⟨nx, Ax, kx, rfl, hix, hx⟩; have hxA : Ext wd w4 := Ext.trans (by repeat (first | exact Ext.refl _ | exact hxA | refine Ext.drew ?_ | refine Ext.drewN ?_ _ | refine Ext.setCell ?_ (by first | exact Nat.le_refl _ | (simp only []; omega)) _ | refine Ext.alloc ?_ _)) hx; have hsz := hxA.size; have HIx := Lib.hid hix; clear hix; have q1 := hxA.cell cik1; have q2 := hxA.cell cik2; have q3 := hxA.free fik1 (lt_of_cell cik1); have q4 := hxA.free fik2 (lt_of_cell cik2)))
                    all_goals
                      have HMe : Hid (MatZ ((w4.setCell ⟨h i, k * 2, none⟩ (.bool nx)).setCell ⟨h i, k * 2 + 1, none⟩ (.slice Ax kx kx)) W0.heap.size g n h (colsTo n r i (k + 1) last m)) :=
                        ((HMd.out.ext hxA).set_ hin hkn HIx.out).congr fun a b _ _ => colsTo_step n r i k last m hrk a b
                      have HBe : Hid (MRow ((w4.setCell ⟨h i, k * 2, none⟩ (.bool nx)).setCell ⟨h i, k * 2 + 1, none⟩ (.slice Ax kx kx)) bl 1 (fun _ => last)) := (HBd.out.ext hxA).far hne1 q1 q2
                      have HXe : Hid (Ext w ((w4.setCell ⟨h i, k * 2, none⟩ (.bool nx)).setCell ⟨h i, k * 2 + 1, none⟩ (.slice Ax kx kx))) := setInt_ext ((HXk.out.trans HXd.out).trans hxA) (by have := HMd.out.low i hin; omega)
                      clear HIx hx hxA hsz q1 q2 q3 q4 HMd HBd HXd
                      go_wp2
                      go_roundg (gk - 1)
                      case measure => omega
                      case rel => exact ⟨k + 1, by omega, by omega, by go_num, HMe, HBe, HXe⟩
              · obtain rfl : n = k := by omega
                have HMe : Hid (MatZ wr W0.heap.size g n h (rowsTo n r (i + 1) last m)) := HMk.out.congr fun a b _ hb => colsTo_end n r i last m hri a b hb
                clear HMk
                go_wp2
                go_roundg (n - (i + 1))
                case measure => omega
                case rel => exact ⟨i + 1, by omega, by omega, by go_num, HMe, HBk, HXk⟩
          · obtain rfl : n = i := by omega
            have HMe : Hid (MatZ wr W0.heap.size g n h (barStep n r last m)) := by have := HMi.out; rwa [rowsTo_end] at this
            have hst : barStep n r last m r r = m r r := by unfold barStep; rw [if_neg (by omega)]
            obtain ⟨nrr, Arr, krr, crr1, crr2, irr⟩ := (HMe.out.row r hrn).cells r hrn
            rw [hst] at irr
            have cR := HMe.out.rows r hrn
            obtain ⟨n5, A5, k5, c51, c52, i5⟩ := HBi.out.one
            have f51 := HBi.out.free 0
            have f52 := HBi.out.free 1
            have HIrr := Lib.hid irr
            clear HMi hst irr i5
            go_wp2
            have HP : Hid (PosInv w ((wr.setCell ⟨bl, 0, none⟩ (.bool nrr)).setCell ⟨bl, 1, none⟩ (.slice Arr krr krr)) W0.heap.size n (r + 1) g bl h (m r r) (barStep n r last m) (posB n (entry rows))) := by
              refine ⟨⟨fun a ha => ?_, fun a ha => ?_, HMe.out.inj, HMe.out.low, HMe.out.glow, (HMe.out.typ.set_ _ _).set_ _ _⟩, MRow.put1 HIrr.out c51 c52 ⟨HBi.out.typ, HBi.out.free⟩, HNe.out, HLw.out, setInt_ext HXi.out HLw.out, HPs.out⟩
              · have hgb : g ≠ bl := HMe.out.typ.ne HBi.out.typ (by decide)
                rw [World.cell?_setCell_other _ _ _ _ (by intro e; injection e with e1 e2; exact hgb e1.symm), World.cell?_setCell_other _ _ _ _ (by intro e; injection e with e1 e2; exact hgb e1.symm)]
                exact HMe.out.rows a ha
              · exact (HMe.out.row a ha).far (fun e => HNe.out a ha e.symm) c51 c52
            clear crr1 crr2 cR c51 c52 f51 f52 HIrr
            go_wp2
            go_roundg (n - (r + 1))
            case measure => omega
            case rel => exact ⟨r + 1, _, _, by omega, by go_num, HP⟩
    · obtain rfl : n = r := by omega
      have hpos := HI.out.pos
      rw [Nat.sub_self] at hpos
      have HPs : Hid (true = posB n (entry rows)) := hpos
      have HX := Lib.hid HI.out.ext
      clear hpos HI
      go_wp2
      go_ret
      rw [← HPs.out]; exact ⟨rfl, HX.out⟩
end Go.Proofs.YtiihnoelclnahaaGreatDoor
