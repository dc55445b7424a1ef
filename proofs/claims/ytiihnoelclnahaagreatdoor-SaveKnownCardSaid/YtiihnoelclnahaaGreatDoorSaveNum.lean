/- save.Read's closure number. -/
import Derived.Test.YtiihnoelclnahaaGreatDoorSaveWord
import Derived.Deep.DeepCutAuto
import Derived.Deep.CutBlock
import Derived.Deep.RegionWith
import Derived.Deep.RegionHeld3
namespace Go.Proofs.YtiihnoelclnahaaGreatDoor
open Go.RowKit
set_option linter.unusedVariables false

def NumPost (r : Except Nat (Int × Nat)) (bA : Nat) (w : World) (e : Ending) (w' : World) : Prop :=
  ((∃ v b, r = .ok (v, b) ∧ e = .returned (.int .i64 v) ∧ w'.cell? ⟨bA, 0, none⟩ = some (.int .i64 (b : Nat)) ∧ w'.frozen? ⟨bA, 0, none⟩ = false) ∨ (∃ b, r = .error b ∧ Failed 280 b w e w')) ∧ ExtBut (fun x => x = bA) w w'

theorem extract_cut (s : ByteArray) (a b : Nat) : (s.extract a b).data.toList = cutL s.data.toList a b := Lib.extract_data s a b

theorem str_ne {q t : ByteArray} (h : q ≠ t) : (q.toList == t.toList) = false := by
  rw [beq_eq_false_iff_ne, ByteArray.toList_eq, ByteArray.toList_eq]
  intro e
  exact h (ByteArray.ext (Array.toList_inj.1 e))

theorem parseIntB_range {l : List UInt8} {v : Int} (h : Lib.parseIntB 64 l = .ok v) : -9223372036854775808 ≤ v ∧ v ≤ 9223372036854775807 := by
  unfold Lib.parseIntB at h
  have e63 : 2 ^ (64 - 1) = 9223372036854775808 := by decide
  split at h
  · cases h
  · simp only [e63] at h
    split at h
    · cases h
    · cases h
    · split at h
      · cases h
      · split at h
        · cases h
        · injection h with h
          split at h <;> omega

theorem numP_yes {s : List UInt8} {lo hi v : Int} {a E : Nat} (hE : endN s a = E) (hp : Lib.parseIntB 64 (cutL s a E) = .ok v) (h : Lib.itoa v = cutL s a E ∧ lo ≤ v ∧ v ≤ hi) : numP s lo hi a = .ok (v, E) := by
  subst hE
  unfold numP numT
  simp only [hp, if_pos h]
theorem numP_no {s : List UInt8} {lo hi v : Int} {a E : Nat} (hE : endN s a = E) (hp : Lib.parseIntB 64 (cutL s a E) = .ok v) (h : ¬ (Lib.itoa v = cutL s a E ∧ lo ≤ v ∧ v ≤ hi)) : numP s lo hi a = .error a := by
  subst hE
  unfold numP numT
  simp only [hp, if_neg h]
theorem numP_bad {s : List UInt8} {lo hi : Int} {a E : Nat} (hE : endN s a = E) (hp : ∀ v, Lib.parseIntB 64 (cutL s a E) ≠ .ok v) : numP s lo hi a = .error a := by
  subst hE
  unfold numP numT
  rcases h : Lib.parseIntB 64 (cutL s a (endN s a)) with v | _ | _
  · exact absurd h (hp v)
  · rfl
  · rfl

theorem ext_of_bytes {w w' : World} {T : TypeId} (h : w' = w ∨ ∃ t, w' = Lib.bytesWorld w T t) : Ext w w' := by
  rcases h with rfl | ⟨t, rfl⟩
  · exact Ext.refl _
  · exact Lib.bytesWorld_below _ _ _

/-- strconv.ParseInt, whatever the text. -/
theorem parse_any (t : ByteArray) (w : World) (ht : t.size ≤ 1099511627776) (hv : Vars w) :
    Calls Tryz.prog 25 #[.string t, .int .i64 10, .int .i64 64] w fun e w' =>
      ((∃ v, Lib.parseIntB 64 t.data.toList = .ok v ∧ e = .returned (.tuple #[.int .i64 v, .nilIface])) ∨ ((∀ v, Lib.parseIntB 64 t.data.toList ≠ .ok v) ∧ ∃ v N, e = .returned (.tuple #[.int .i64 v, .iface 130 (.pointer (some ⟨N, 0, none⟩))]))) ∧ Ext w w' := by
  rcases h : Lib.parseIntB 64 t.data.toList with v | _ | _
  · exact (Tryz.strconv_ParseInt_10_at64_ok t (by omega) v h w).mono fun e w' ⟨he, hw⟩ => ⟨.inl ⟨v, rfl, he⟩, ext_of_bytes hw⟩
  · obtain ⟨tp, p, hv⟩ := hv.syn
    exact (Tryz.strconv_ParseInt_10_at64_syntax_var t (by omega) h tp p w hv).mono fun e w' ⟨N, he, _, _, hb⟩ => ⟨.inr ⟨(fun v hh => by cases hh), _, N, he⟩, hb⟩
  · obtain ⟨tp, p, hv⟩ := hv.rng
    exact (Tryz.strconv_ParseInt_10_at64_range_var t (by omega) h tp p w hv).mono fun e w' ⟨N, he, _, _, hb⟩ => ⟨.inr ⟨(fun v hh => by cases hh), _, N, he⟩, hb⟩

set_option maxHeartbeats 20000000 in
set_option maxRecDepth 100000 in
theorem number_any (s : ByteArray) (lo hi : Int) (a bA bS bF : Nat) (w : World) (hs : s.size ≤ 1099511627776) (ha : a ≤ s.size) (hv : Vars w) (cA : w.cell? ⟨bA, 0, none⟩ = some (.int .i64 a)) (fA : w.frozen? ⟨bA, 0, none⟩ = false)
    (cS : w.cell? ⟨bS, 0, none⟩ = some (.string s)) (cF : w.cell? ⟨bF, 0, none⟩ = some (.func (.func 21) #[] #[])) (nS : bS ≠ bA) (nF : bF ≠ bA) :
    Calls Tryz.prog 24 #[.int .i64 lo, .int .i64 hi, .pointer (some ⟨bA, 0, none⟩), .pointer (some ⟨bS, 0, none⟩), .pointer (some ⟨bF, 0, none⟩)] w (NumPost (numP s.data.toList lo hi a) bA w) := by
  have HV := Lib.hid hv
  clear hv
  obtain ⟨mB, hmB⟩ : ∃ mB : Bool, decide (s.data.toList[a]? = some 45) = mB := ⟨_, rfl⟩
  obtain ⟨e0, he0⟩ : ∃ e0, (if s.data.toList[a]? = some 45 then a + 1 else a) = e0 := ⟨_, rfl⟩
  have HE0 : Hid (e0 = if mB = true then a + 1 else a) := by rw [← hmB, ← he0]; simp [Hid]
  have he0s : e0 ≤ s.size := by
    rw [← he0]; split
    · rename_i h; have := (List.getElem?_eq_some_iff.1 h).1; simp at this; omega
    · exact ha
  obtain ⟨E, hE⟩ : ∃ E, endN s.data.toList a = E := ⟨_, rfl⟩
  have hEl := endN_le s.data.toList a (by simpa using ha)
  rw [hE, show s.data.toList.length = s.size by simp] at hEl
  obtain ⟨hE1, hE2⟩ := hEl
  have HSk : Hid (skipD s.data.toList e0 = E) := by rw [← hE, ← he0]; rfl
  have HMB := Lib.hid hmB
  have HE := Lib.hid hE
  clear hmB he0 hE
  go_enter Tryz.func24, Tryz.ntmps24
  go_upto_region 2 with fail
  go_cut [21] (fun v21 wx => v21 = .bool mB ∧ w = wx)
  case first =>
    by_cases has : a = s.size
    · have e : mB = false := by rw [← HMB.out, List.getElem?_eq_none (by simp; omega)]; rfl
      subst e; subst has
      go_wp2
      go_meet
      exact ⟨rfl, rfl⟩
    · have hal : a < s.size := by omega
      have e : mB = ((s[a].toNat : Int) == 45) := by
        rw [← HMB.out, byte_at s a hal, Bool.eq_iff_iff, decide_eq_true_eq, beq_iff_eq]
        constructor
        · intro h; rw [Option.some.inj h]; rfl
        · intro h; congr 1; exact UInt8.toNat_inj.1 (by have : (45 : UInt8).toNat = 45 := rfl; omega)
      have HE2 := Lib.hid e
      clear e has
      go_wp2
      all_goals
        go_meet
        refine ⟨?_, rfl⟩
        rw [HE2.out]
  case rest =>
    obtain ⟨rfl, rfl⟩ := hcut
    go_upto_if 21 with fail
    go_cut [8] (fun v8 wx => v8 = .int .i64 e0 ∧ w = wx)
    case first =>
      cases mB
      · have e : e0 = a := by rw [HE0.out]; rfl
        subst e
        go_wp2
        go_meet
        exact ⟨rfl, rfl⟩
      · have e : e0 = a + 1 := by rw [HE0.out]; rfl
        subst e
        go_wp2
        go_meet
        exact ⟨by go_num, rfl⟩
    case rest =>
      obtain ⟨rfl, rfl⟩ := hcut
      go_upto_block 0 with fail
      go_cut [8] (fun v8 wx => v8 = .int .i64 E ∧ w = wx)
      case first =>
        go_wp2_with fail
        go_loopg [8] (s.size - e0) (fun kk ev wr => ∃ e : Nat, kk + e = s.size ∧ ev = .int .i64 e ∧ Hid (skipD s.data.toList e = E) ∧ w = wr)
        case atStart => exact ⟨e0, by omega, rfl, HSk, rfl⟩
        case round =>
          obtain ⟨e, hke, rfl, HS, rfl⟩ := hrel
          by_cases hes : e = s.size
          · have e1 : E = e := by rw [← HS.out, skipD_end _ _ (by simp; omega)]
            subst e1
            have hd : decide ((E : Int) < s.size) = false := by simp; omega
            subst hes
            go_wp2
            go_meet
            exact ⟨rfl, rfl⟩
          · have hel : e < s.size := by omega
            by_cases hd : digB s[e] = true
            · have HS2 : Hid (skipD s.data.toList (e + 1) = E) := by rw [← HS.out, skipD_step (byte_at s e hel) hd]; rfl
              unfold digB at hd
              rw [Bool.and_eq_true, decide_eq_true_eq, decide_eq_true_eq] at hd
              obtain ⟨h1, h2⟩ := hd
              have h1' : (48 : Int) ≤ (s[e].toNat : Int) := by omega
              have h2' : (s[e].toNat : Int) ≤ 57 := by omega
              clear hes
              go_wp2
              go_roundg (gk - 1)
              case measure => omega
              case rel => exact ⟨e + 1, by omega, by go_num, HS2, rfl⟩
            · have hd' : digB s[e] = false := by simpa using hd
              have e1 : E = e := by rw [← HS.out, skipD_stop (byte_at s e hel) hd']
              by_cases h1 : 48 ≤ s[e].toNat
              · have h2 : ¬ s[e].toNat ≤ 57 := by intro h2; unfold digB at hd'; simp [h1, h2] at hd'
                have h1' : (48 : Int) ≤ (s[e].toNat : Int) := by omega
                have h2' : decide ((s[e].toNat : Int) ≤ 57) = false := by simp; omega
                have HE1 := Lib.hid e1
                clear hes hd hd' h1 h2 e1
                go_wp2
                go_meet
                rw [HE1.out]
                exact ⟨rfl, rfl⟩
              · have h1' : decide ((48 : Int) ≤ (s[e].toNat : Int)) = false := by simp; omega
                have HE1 := Lib.hid e1
                clear hes hd hd' h1 e1
                go_wp2
                go_meet
                rw [HE1.out]
                exact ⟨rfl, rfl⟩
      case rest =>
        obtain ⟨rfl, rfl⟩ := hcut
        have et : (s.extract a E).data.toList = cutL s.data.toList a E := extract_cut s a E
        obtain ⟨t, ht⟩ : ∃ t, s.extract a E = t := ⟨_, rfl⟩
        rw [ht] at et
        have htl : t.size ≤ s.size := by rw [← ht]; simp [ByteArray.size_extract]; omega
        have HT := Lib.hid ht
        have ET := Lib.hid et
        have hEs : (E : Int) ≤ s.size := by omega
        clear et ht
        go_wp2_with fail
        rw [HT.out]
        refine (parse_any t w (by omega) HV.out).mono ?_
        rintro e w1 ⟨hr, hx1⟩
        have cA1 := hx1.cell cA
        have fA1 := hx1.free fA (lt_of_cell cA)
        have cS1 := hx1.cell cS
        have cF1 := hx1.cell cF
        have HX1 := Lib.hid hx1
        have HV1 := Lib.hid (HV.out.ext hx1)
        have hz1 : w.heap.size ≤ w1.heap.size := HX1.out.size
        clear hx1 HV cA fA cS cF
        rcases hr with ⟨v, hp, rfl⟩ | ⟨hp, v, N, rfl⟩
        · have hvr := parseIntB_range hp
          obtain ⟨hv1, hv2⟩ := hvr
          rw [ET.out] at hp
          have HP := Lib.hid hp
          clear hp
          obtain ⟨q, hq⟩ : ∃ q, (⟨(Lib.itoa v).toArray⟩ : ByteArray) = q := ⟨_, rfl⟩
          have HFm := Lib.hid (fun W (h : Ext w1 W) => FormatInt_any v W hv1 hv2 (HV1.out.ext h))
          rw [hq] at HFm
          have hqt : q = t ↔ Lib.itoa v = cutL s.data.toList a E := by
            rw [← hq, ← ET.out]
            constructor
            · intro h; rw [← h]
            · intro h; apply ByteArray.ext; simp [h]
          obtain ⟨bad, hbad⟩ : ∃ bad : Bool, (!(decide (q = t) && decide (lo ≤ v) && decide (v ≤ hi))) = bad := ⟨_, rfl⟩
          have HB := Lib.hid hbad
          have HQ := Lib.hid hqt
          clear hq hqt hbad
          go_upto_region 7 with fail
          go_cut [70] (fun v70 wx => v70 = .bool bad ∧ Ext w1 wx)
          case first =>
            have ht := HT.out
            by_cases hqt : q = t
            · subst hqt
              have hqb : (q.toList == q.toList) = true := by simp
              by_cases hlo : v < lo
              · have e : bad = true := by rw [← HB.out]; simp; omega
                have hdl : decide (v < lo) = true := by simpa using hlo
                subst e
                -- <fold>
                first
                  | go_region_held (fun w' => w'.cell? ⟨bA, 0, none⟩ = some (.int .i64 a) ∧ w'.cell? ⟨bS, 0, none⟩ = some (.string s)) (first | exact ⟨cA1, cS1⟩ | exact ⟨cA2, cS2⟩) (first | (go_at_call 26; refine (HFm.out _ (Ext.refl w1).drew).mono ?_; rintro e w2 ⟨rfl, hx2⟩; have cA2 := hx2.cell cA1; have cS2 := hx2.cell cS1; have HX2 := Lib.hid ((Ext.refl w1).drew.trans hx2); clear hx2))
                  | fail
                all_goals (go_wp2_with fail; go_meet; exact ⟨rfl, HX2.out⟩)
                -- </fold>
              · have hlo' : lo ≤ v := by omega
                by_cases hhi : hi < v
                · have e : bad = true := by rw [← HB.out]; simp; omega
                  have hdl : decide (v < lo) = false := by simpa using hlo
                  have hdh : decide (hi < v) = true := by simpa using hhi
                  subst e
                  -- <fold>
                  first
                    | go_region_held3 (fun w' => w'.cell? ⟨bA, 0, none⟩ = some (.int .i64 a) ∧ w'.cell? ⟨bS, 0, none⟩ = some (.string s)) (first | exact ⟨cA1, cS1⟩ | exact ⟨cA2, cS2⟩) (first | (go_at_call 26; refine (HFm.out _ (Ext.refl w1).drew).mono ?_; rintro e w2 ⟨rfl, hx2⟩; have cA2 := hx2.cell cA1; have cS2 := hx2.cell cS1; have HX2 := Lib.hid ((Ext.refl w1).drew.trans hx2); clear hx2))
                    | fail
                  all_goals (go_wp2_with fail; go_meet; exact ⟨rfl, HX2.out⟩)
                  -- </fold>
                · have hhi' : v ≤ hi := by omega
                  have e : bad = false := by rw [← HB.out]; simp; omega
                  have hdl : decide (v < lo) = false := by simpa using hlo
                  have hdh : decide (hi < v) = false := by simpa using hhi
                  subst e
                  -- <fold>
                  first
                    | go_region_held3 (fun w' => w'.cell? ⟨bA, 0, none⟩ = some (.int .i64 a) ∧ w'.cell? ⟨bS, 0, none⟩ = some (.string s)) (first | exact ⟨cA1, cS1⟩ | exact ⟨cA2, cS2⟩) (first | (go_at_call 26; refine (HFm.out _ (Ext.refl w1).drew).mono ?_; rintro e w2 ⟨rfl, hx2⟩; have cA2 := hx2.cell cA1; have cS2 := hx2.cell cS1; have HX2 := Lib.hid ((Ext.refl w1).drew.trans hx2); clear hx2))
                    | fail
                  all_goals (go_wp2_with fail; go_meet; exact ⟨rfl, HX2.out⟩)
                  -- </fold>
            · have e : bad = true := by rw [← HB.out]; simp [hqt]
              have hqb : (q.toList == t.toList) = false := str_ne hqt
              subst e
              clear hqt
              -- <fold>
              first
                | go_region_held (fun w' => w'.cell? ⟨bA, 0, none⟩ = some (.int .i64 a) ∧ w'.cell? ⟨bS, 0, none⟩ = some (.string s)) (first | exact ⟨cA1, cS1⟩ | exact ⟨cA2, cS2⟩) (first | (go_at_call 26; refine (HFm.out _ (Ext.refl w1).drew).mono ?_; rintro e w2 ⟨rfl, hx2⟩; have cA2 := hx2.cell cA1; have cS2 := hx2.cell cS1; have HX2 := Lib.hid ((Ext.refl w1).drew.trans hx2); clear hx2))
                | fail
              all_goals (go_wp2_with fail; go_meet; exact ⟨rfl, HX2.out⟩)
              -- </fold>
          case rest =>
            obtain ⟨rfl, hx2⟩ := hcut
            have cA2 := hx2.cell cA1
            have fA2 := hx2.free fA1 (lt_of_cell cA1)
            have cF2 := hx2.cell cF1
            have HX2 := Lib.hid (HX1.out.trans hx2)
            have hz2 : w.heap.size ≤ wc.heap.size := HX2.out.size
            clear hx2 HX1 HFm HV1 cA1 fA1 cS1 cF1
            cases hb : bad
            · rw [hb] at HB
              have hall : q = t ∧ lo ≤ v ∧ v ≤ hi := by
                have := HB.out
                simpa [Bool.and_eq_true, and_assoc] using this
              have HN : Hid (numP s.data.toList lo hi a = .ok (v, E)) := numP_yes HE.out HP.out ⟨HQ.out.1 hall.1, hall.2⟩
              clear hall hb
              go_wp2
              go_ret
              exact ⟨.inl ⟨v, E, HN.out, rfl, setc cA2, by rw [World.frozen?_setCell]; exact fA2⟩, (HX2.out.toBut (fun x => x = bA)).setCell (p := ⟨bA, 0, none⟩) (.inl rfl) _⟩
            · rw [hb] at HB
              have HN : Hid (numP s.data.toList lo hi a = .error a) := numP_no HE.out HP.out (by
                rintro ⟨h1, h2, h3⟩
                have := HB.out
                rw [decide_eq_true (HQ.out.2 h1), decide_eq_true h2, decide_eq_true h3] at this
                cases this)
              clear hb
              go_wp2_with fail
              refine (fail_any 280 a _).mono ?_
              rintro e w3 ⟨⟨N, rfl, h1, h2⟩, hx3⟩
              have HX3 := Lib.hid (HX2.out.trans hx3)
              have H2 := Lib.hid h2
              have h1' : w.heap.size ≤ N := Nat.le_trans hz2 h1
              clear hx3 h1 h2
              go_wp2
              exact ⟨rfl, .inr ⟨_, HN.out, _, rfl, h1', H2.out⟩, HX3.out.toBut _⟩
        · have HN : Hid (numP s.data.toList lo hi a = .error a) := numP_bad HE.out (by rw [← ET.out]; exact hp)
          clear hp
          go_wp2_with fail
          go_quiet (fail)
          have cA2 : (w1.drewN nq).cell? ⟨bA, 0, none⟩ = some (.int .i64 (a : Nat)) := cA1
          have cF2 : (w1.drewN nq).cell? ⟨bF, 0, none⟩ = some (.func (.func 21) #[] #[]) := cF1
          go_wp2_with fail
          refine (fail_any 280 a _).mono ?_
          rintro e w3 ⟨⟨N, rfl, h1, h2⟩, hx3⟩
          have HX3 := Lib.hid ((HX1.out.drewN nq).trans hx3)
          have H2 := Lib.hid h2
          have h1' : w.heap.size ≤ N := Nat.le_trans hz1 h1
          clear hx3 h1 h2
          go_wp2
          exact ⟨rfl, .inr ⟨_, HN.out, _, rfl, h1', H2.out⟩, HX3.out.toBut _⟩
end Go.Proofs.YtiihnoelclnahaaGreatDoor
