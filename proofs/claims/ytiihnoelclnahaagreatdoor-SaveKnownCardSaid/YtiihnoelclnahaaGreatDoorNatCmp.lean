/- nat.Cmp. -/
import Derived.Test.YtiihnoelclnahaaGreatDoorNatBits
namespace Go.Proofs.YtiihnoelclnahaaGreatDoor
open Go.RowKit

/-- How two numbers stand to one another: -1, 0, 1. -/
def cmpN (a b : Nat) : Int := if a < b then -1 else if a = b then 0 else 1

theorem cmpN_of_length {a b : Nat} (h : (digs a).length < (digs b).length) : a < b := by
  have h1 := digs_le a
  rcases Nat.lt_or_ge a b with h2 | h2
  · exact h2
  · have := (digs_length_le b (digs a).length).2 (by omega); omega

theorem digs_inj {a b : Nat} (h : digs a = digs b) : a = b := by rw [← ofD_digs a, ← ofD_digs b, h]

/-- Digits of one length that are alike from j + 1 on, and at j not: the numbers stand as these digits. -/
theorem ofD_lt_of (l m : List Nat) (j : Nat) (hj : j < l.length) (hlm : l.length = m.length) (hl : ∀ d ∈ l, d < 4294967296) (h : l.drop (j + 1) = m.drop (j + 1)) (hd : l[j] < m[j]) :
    ofD l < ofD m := by
  have e1 := ofD_take_drop l j (by omega)
  have e2 := ofD_take_drop m j (by omega)
  rw [List.drop_eq_getElem_cons (by omega)] at e1 e2
  rw [h] at e1
  have hlt := ofD_lt (l.take j) (fun d hd => hl d (List.mem_of_mem_take hd))
  have hlen : (l.take j).length = j := by simp; omega
  rw [hlen] at hlt
  simp only [ofD] at e1 e2
  generalize ofD (m.drop (j + 1)) = r at *
  generalize 4294967296 ^ j = B at *
  have h3 : B * (l[j] + 4294967296 * r) + B ≤ B * (m[j] + 4294967296 * r) := by
    rw [← Nat.mul_succ]; exact Nat.mul_le_mul_left _ (by omega)
  omega

theorem drop_lt {l m : List Nat} {j x y : Nat} (hx : l[j]? = some x) (hy : m[j]? = some y) (hlm : l.length = m.length) (hl : ∀ d ∈ l, d < 4294967296) (h : l.drop (j + 1) = m.drop (j + 1)) (hd : x < y) : ofD l < ofD m := by
  obtain ⟨h1, rfl⟩ := List.getElem?_eq_some_iff.1 hx
  obtain ⟨h2, rfl⟩ := List.getElem?_eq_some_iff.1 hy
  exact ofD_lt_of l m j h1 hlm hl h hd

theorem drop_eq {l m : List Nat} {j x : Nat} (hx : l[j]? = some x) (hy : m[j]? = some x) (h : l.drop (j + 1) = m.drop (j + 1)) : l.drop j = m.drop j := by
  obtain ⟨h1, e1⟩ := List.getElem?_eq_some_iff.1 hx
  obtain ⟨h2, e2⟩ := List.getElem?_eq_some_iff.1 hy
  rw [List.drop_eq_getElem_cons h1, List.drop_eq_getElem_cons h2, h, e1, e2]

theorem Cmp_any (A B : Option Addr) (k m a b : Nat) (w : World) (ha : IsNat w A k a) (hb : IsNat w B m b) (hk : k ≤ 100000) (hm : m ≤ 100000) :
    Calls Tryz.prog 102 #[.agg #[.slice A k k], .agg #[.slice B m m]] w fun e w' => e = .returned (.int .i64 (cmpN a b)) ∧ Ext w w' := by
  rcases Nat.lt_trichotomy k m with hkm | hkm | hkm
  · have hab : a < b := cmpN_of_length (by have := ha.1; have := hb.1; omega)
    have HV : Hid (cmpN a b = -1) := if_pos hab
    clear ha hb hab
    go_enter Tryz.func102, Tryz.ntmps102
    go_wp2
    go_ret
    exact ⟨ret_int HV.out.symm, ((Ext.refl _).alloc _).alloc _⟩
  · subst hkm
    have H0 : Hid (k = (digs a).length) := ha.1
    have H1 : Hid (k = (digs b).length) := hb.1
    have HA := Lib.hid (((ha.alloc (.cells #[.slice A k k] 102)).alloc (.cells #[.slice B k k] 102)))
    have HB := Lib.hid (((hb.alloc (.cells #[.slice A k k] 102)).alloc (.cells #[.slice B k k] 102)))
    clear ha hb
    go_enter Tryz.func102, Tryz.ntmps102
    go_wp2
    go_loopw [5] (fun i wr => ∃ j : Nat, j ≤ k ∧ i = .int .i64 ((j : Int) - 1) ∧ (digs a).drop j = (digs b).drop j ∧ Ext ((w.alloc (.cells #[.slice A k k] 102)).alloc (.cells #[.slice B k k] 102)) wr) (fun i _ => (intOf i + 1).toNat)
    case atStart => exact ⟨k, Nat.le_refl _, rfl, by rw [List.drop_eq_nil_of_le (by have := H0.out; omega), List.drop_eq_nil_of_le (by have := H1.out; omega)], Ext.refl _⟩
    case round =>
      obtain ⟨j, hj, rfl, hdr, hx⟩ := hrel
      have HDR := Lib.hid hdr; clear hdr
      by_cases h0 : j = 0
      · subst h0
        have HV : Hid (cmpN a b = 0) := by
          have := digs_inj (by simpa using HDR.out); subst this
          simp [Hid, cmpN]
        have HX := Lib.hid hx; clear hx
        go_wp2
        go_ret
        exact ⟨ret_int HV.out.symm, (((Ext.refl _).alloc _).alloc _).trans HX.out⟩
      · obtain ⟨b1, o1, d1, rfl, hb1, hd1, hl1, hc1⟩ := (HA.out.ext hx).cell (j - 1) (by omega)
        obtain ⟨b2, o2, d2, rfl, hb2, hd2, hl2, hc2⟩ := (HB.out.ext hx).cell (j - 1) (by omega)
        have c1 := hx.cell (b := w.heap.size) (o := 0) (v := .slice (some ⟨b1, o1, none⟩) k k) (by simp [go_sem])
        have c2 := hx.cell (b := w.heap.size + 1) (o := 0) (v := .slice (some ⟨b2, o2, none⟩) k k) (by simp [go_sem])
        have HX := Lib.hid hx; clear hx
        have HD1 := Lib.hid hd1; clear hd1
        have HD2 := Lib.hid hd2; clear hd2
        have p0 : (0 : Int) ≤ (j : Int) - 1 := by omega
        have p1 : (j : Int) - 1 < k := by omega
        have p2 : ((j : Int) - 1).toNat = j - 1 := by omega
        rcases Nat.lt_trichotomy d1 d2 with hd | hd | hd
        · have HV : Hid (cmpN a b = -1) := if_pos (by
            have hlt : ofD (digs a) < ofD (digs b) := drop_lt HD1.out HD2.out (by have := H0.out; have := H1.out; omega) (digs_lt a) (by rw [show j - 1 + 1 = j by omega]; exact HDR.out) hd
            rwa [ofD_digs, ofD_digs] at hlt)
          have hdi : ((d1 : Int) < d2) := by omega
          clear hd
          go_wp2
          go_quiet (fail)
          go_wp2
          go_ret
          exact ⟨ret_int HV.out.symm, (((Ext.refl _).alloc _).alloc _).trans (HX.out.drewN _)⟩
        · subst hd
          have hdi : ¬ ((d1 : Int) < d1) := by omega
          go_wp2
          go_quiet (fail)
          go_wp2
          go_quiet (fail)
          go_wp2
          go_roundw
          case rel => exact ⟨j - 1, by omega, by go_num, drop_eq HD1.out HD2.out (by rw [show j - 1 + 1 = j by omega]; exact HDR.out), HX.out.drewN _⟩
          case measure => simp [intOf]; omega
        · have HV : Hid (cmpN a b = 1) := by
            have hlt : ofD (digs b) < ofD (digs a) := drop_lt HD2.out HD1.out (by have := H0.out; have := H1.out; omega) (digs_lt b) (by rw [show j - 1 + 1 = j by omega]; exact HDR.out.symm) hd
            rw [ofD_digs, ofD_digs] at hlt
            unfold Hid cmpN; rw [if_neg (by omega), if_neg (by omega)]
          have hdi : ((d2 : Int) < d1) := by omega
          clear hd
          go_wp2
          go_quiet (fail)
          go_wp2
          go_quiet (fail)
          go_wp2
          go_ret
          exact ⟨ret_int HV.out.symm, (((Ext.refl _).alloc _).alloc _).trans ((HX.out.drewN _).drewN _)⟩
  · have hab : b < a := cmpN_of_length (by have := ha.1; have := hb.1; omega)
    have HV : Hid (cmpN a b = 1) := by unfold Hid cmpN; rw [if_neg (by omega), if_neg (by omega)]
    clear ha hb hab
    go_enter Tryz.func102, Tryz.ntmps102
    go_wp2
    go_ret
    exact ⟨ret_int HV.out.symm, ((Ext.refl _).alloc _).alloc _⟩
end Go.Proofs.YtiihnoelclnahaaGreatDoor
