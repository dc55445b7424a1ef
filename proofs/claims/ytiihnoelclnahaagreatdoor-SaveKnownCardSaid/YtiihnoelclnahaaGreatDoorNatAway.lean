/- nat.away. -/
import Derived.Test.YtiihnoelclnahaaGreatDoorNatDown
namespace Go.Proofs.YtiihnoelclnahaaGreatDoor
open Go.RowKit
set_option linter.unusedVariables false

theorem win_at {pre M post : List Nat} {off i x : Nat} (hp : pre.length = off) (hx : M[i]? = some x) : (pre ++ (M ++ post))[off + i]? = some x := by
  have hi : i < M.length := (List.getElem?_eq_some_iff.1 hx).1
  rw [List.getElem?_append_right (by omega), hp, Nat.add_sub_cancel_left, List.getElem?_append_left hi, hx]
theorem win_set {pre M post : List Nat} {off i q : Nat} (hp : pre.length = off) (hi : i < M.length) : (pre ++ (M ++ post)).set (off + i) q = pre ++ (M.set i q ++ post) := by
  rw [List.set_append_right _ _ (by omega), hp, Nat.add_sub_cancel_left, List.set_append_left _ _ hi]

theorem away_step_nat (R c br dy z q r br' xi op vx xo : Nat) (e1 : c + dy = q + 4294967296 * r) (e2 : z + q + br = xi + 4294967296 * br') (h : op + vx = xo + R * c + R * br) :
    (op + R * z) + (vx + R * dy) = (xo + R * xi) + R * 4294967296 * r + R * 4294967296 * br' := by
  have h1 := congrArg (R * ·) e1
  have h2 := congrArg (R * ·) e2
  simp only [Nat.mul_add] at h1 h2
  rw [Nat.mul_assoc R 4294967296 r, Nat.mul_assoc R 4294967296 br']
  omega

theorem away_step (x v p : List Nat) (i c br y d z q r br' xi : Nat) (hx : x[i]? = some xi) (hy : y = (v[i]?).getD 0) (hp : p.length = i) (e1 : c + y * d = q + 4294967296 * r) (e2 : z + q + br = xi + 4294967296 * br')
    (h : ofD p + ofD (v.take i) * d = ofD (x.take i) + 4294967296 ^ i * c + 4294967296 ^ i * br) :
    ofD (p ++ [z]) + ofD (v.take (i + 1)) * d = ofD (x.take (i + 1)) + 4294967296 ^ (i + 1) * r + 4294967296 ^ (i + 1) * br' := by
  rw [ofD_take_succ' x, ofD_take_succ' v, ofD_snoc, hp, hx, Option.getD_some, ← hy, Nat.pow_succ, Nat.add_mul, Nat.mul_assoc _ y d]
  exact away_step_nat _ _ _ _ _ _ _ _ _ _ _ _ e1 e2 h

theorem away_names (c y d : Nat) (hc : c < 4294967296) (hy : y < 4294967296) (hd : d < 4294967296) : ∃ s q r : Nat,
    IntKind.u64.wrap ((c : Int) + IntKind.u64.wrap ((y : Int) * d)) = (s : Int) ∧ (s : Int) % 4294967296 = q ∧ (s : Int) / 4294967296 = r ∧ (c + y * d = q + 4294967296 * r ∧ q < 4294967296 ∧ r < 4294967296) := by
  obtain ⟨h1, h2, h3⟩ := mul_bound c y d 0 hc hy hd (by omega)
  obtain ⟨v, hv⟩ : ∃ v, y * d = v := ⟨_, rfl⟩
  rw [hv] at h1 h2 h3 ⊢
  simp only [Nat.add_zero] at h1 h2 h3
  refine ⟨c + v, (c + v) % 4294967296, (c + v) / 4294967296, ?_, by omega, by omega, by omega, by omega, h3⟩
  have e : (y : Int) * d = (v : Int) := by rw [← hv]; simp
  rw [e, wraps_u64 v (by omega) (by omega), wraps_u64 _ (by omega) (by omega)]
  omega

structure AwayInv (g off d : Nat) (pre x post v : List Nat) (wr : World) (j c br : Nat) (p : List Nat) : Prop where
  len : p.length = j
  lt : ∀ d ∈ p, d < 4294967296
  row : Row wr 145 g (pre ++ ((p ++ x.drop j) ++ post))
  val : ofD p + ofD (v.take j) * d = ofD (x.take j) + 4294967296 ^ j * c + 4294967296 ^ j * br
  last : j ≤ v.length ∨ c = 0

/-- The window behind nat.away: d times v less, and whether it was too much. -/
structure AwayPost (g : Nat) (pre x post v : List Nat) (d : Nat) (w w' : World) (br : Nat) (x' : List Nat) : Prop where
  row : Row w' 145 g (pre ++ (x' ++ post))
  len : x'.length = x.length
  lt : ∀ d ∈ x', d < 4294967296
  le : br ≤ 1
  val : ofD x' + ofD v * d = ofD x + 4294967296 ^ x.length * br
  ext : ExtBut (· = g) w w'

theorem away_any (g off k c0 : Nat) (pre x post v : List Nat) (B : Option Addr) (m cb d : Nat) (w : World) (hpre : pre.length = off) (hk : k = x.length) (hm : m = v.length) (hmk : k = m + 1) (hkm : k ≤ 100000) (hom : off ≤ 100000)
    (hx : ∀ d ∈ x, d < 4294967296) (hv : ∀ d ∈ v, d < 4294967296) (hd : d < 4294967296) (hR : Row w 145 g (pre ++ (x ++ post))) (hB : Digs w B v) (hne : ∀ o, B ≠ some ⟨g, o, none⟩ ∨ m = 0) :
    Calls Tryz.prog 126 #[.slice (some ⟨g, off, none⟩) k c0, .slice B m cb, .int .u32 d] w fun e w' => ∃ (br : Nat) (x' : List Nat), e = .returned (.bool (br != 0)) ∧ AwayPost g pre x post v d w w' br x' := by
  have hmk1 : k ≤ m + 1 := by omega
  have hmk2 : m + 1 ≤ k := by omega
  clear hmk
  have HPre := Lib.hid hpre; clear hpre
  have HK := Lib.hid hk; clear hk
  have HM := Lib.hid hm; clear hm
  have HX := Lib.hid hx; clear hx
  have HV := Lib.hid hv; clear hv
  have HR := Lib.hid hR; clear hR
  have HB := Lib.hid hB; clear hB
  have HN := Lib.hid hne; clear hne
  go_enter Tryz.func126, Tryz.ntmps126
  go_wp2
  go_loopw [7, 8, 12] (fun cv bv iv wr => ∃ (j c br : Nat) (p : List Nat), j ≤ k ∧ c < 4294967296 ∧ br ≤ 1 ∧ iv = .int .i64 j ∧ cv = .int .u64 c ∧ bv = .int .u32 br ∧ Hid (AwayInv g off d pre x post v wr j c br p) ∧ Hid (ExtBut (· = g) w wr)) (fun _ _ i _ => k - (intOf i).toNat)
  case atStart => exact ⟨0, 0, 0, [], Nat.zero_le _, by omega, by omega, rfl, rfl, rfl, ⟨rfl, by simp, by simpa using HR.out, by simp [ofD], .inl (Nat.zero_le _)⟩, ExtBut.refl _ _⟩
  case round =>
    obtain ⟨j, c, br, p, hj, hc, hbr, rfl, rfl, rfl, HI, HE⟩ := hrel
    by_cases h0 : j < k
    · obtain ⟨xi, hxi⟩ : ∃ xi, x[j]? = some xi := ⟨_, List.getElem?_eq_getElem (by have := HK.out; omega)⟩
      have hxl : xi < 4294967296 := by obtain ⟨h1, rfl⟩ := List.getElem?_eq_some_iff.1 hxi; exact HX.out _ (List.getElem_mem h1)
      have cx := HI.out.row.cell (win_at HPre.out (row_at HI.out.len hxi))
      have fx := HI.out.row.free (off + j)
      by_cases h1 : j < m
      · obtain ⟨b2, o2, eB, hb2, hc2⟩ := HB.out.cell j (by have := HM.out; omega)
        have HYE : Hid (v[j]'(by have := HM.out; omega) = (v[j]?).getD 0) := by rw [List.getElem?_eq_getElem (by have := HM.out; omega)]; rfl
        have hy : v[j]'(by have := HM.out; omega) < 4294967296 := HV.out _ (List.getElem_mem _)
        have hne2 : ¬ b2 = g := fun e => by rcases HN.out o2 with h2 | h2; exact h2 (by rw [eB, e]); omega
        have cy := HE.out.cell hc2 hne2
        generalize v[j]'(by have := HM.out; omega) = y at *
        cases eB
        obtain ⟨s, q, r, hs1, hs2, hs3, hs4⟩ := away_names c y d hc hy hd
        have HS := Lib.hid hs4
        clear hs4
        obtain ⟨z, br', hz, hbr', hzb, hSub⟩ := sub32_names xi q br hxl HS.out.2.1 hbr
        have HSub := Lib.hid hSub
        have HSt := Lib.hid (away_step x v p j c br y d z q r br' xi hxi HYE.out HI.out.len HS.out.1 hzb HI.out.val)
        have HRN : Hid (Row (wr.setCell ⟨g, off + j, none⟩ (.int .u32 (z : Nat))) 145 g (pre ++ (((p ++ [z]) ++ x.drop (j + 1)) ++ post))) := by
          have := HI.out.row.set_ (off + j) z
          rwa [win_set HPre.out (by simp; have := HI.out.len; have := HK.out; omega), row_set HI.out.len hxi] at this
        have HXN := Lib.hid (HE.out.setCell (p := ⟨g, off + j, none⟩) (.inl rfl) (.int .u32 (z : Nat)))
        have HP := Lib.hid HI.out.len
        have HPL := Lib.hid HI.out.lt
        have HZL := Lib.hid hz
        clear hxi hzb hSub HI HE hz hc2
        go_wp2_with (go_at_call 123; refine (HSub.out _).mono ?_; rintro e w' ⟨rfl, rfl⟩)
        go_roundw
        case rel => exact ⟨j + 1, r, br', p ++ [z], by omega, HS.out.2.2, hbr', by go_num, rfl, rfl, ⟨by simp [HP.out], by
          intro d hd
          rcases List.mem_append.1 hd with hd | hd
          · exact HPL.out d hd
          · simp at hd; subst hd; exact HZL.out, HRN.out, HSt.out, .inl (by have := HM.out; omega)⟩, HXN⟩
        case measure => simp [intOf]; omega
      · have hyz : Hid ((0 : Nat) = (v[j]?).getD 0) := by rw [List.getElem?_eq_none (by have := HM.out; omega)]; rfl
        have hs2 : (c : Int) % 4294967296 = c := by omega
        have hs3 : (c : Int) / 4294967296 = (0 : Nat) := by omega
        obtain ⟨z, br', hz, hbr', hzb, hSub⟩ := sub32_names xi c br hxl hc hbr
        have HSub := Lib.hid hSub
        have HSt := Lib.hid (away_step x v p j c br 0 d z c 0 br' xi hxi hyz.out HI.out.len (by simp) hzb HI.out.val)
        have HRN : Hid (Row (wr.setCell ⟨g, off + j, none⟩ (.int .u32 (z : Nat))) 145 g (pre ++ (((p ++ [z]) ++ x.drop (j + 1)) ++ post))) := by
          have := HI.out.row.set_ (off + j) z
          rwa [win_set HPre.out (by simp; have := HI.out.len; have := HK.out; omega), row_set HI.out.len hxi] at this
        have HXN := Lib.hid (HE.out.setCell (p := ⟨g, off + j, none⟩) (.inl rfl) (.int .u32 (z : Nat)))
        have HP := Lib.hid HI.out.len
        have HPL := Lib.hid HI.out.lt
        have HZL := Lib.hid hz
        clear hxi hzb hSub HI HE hz 
        go_wp2_with (go_at_call 123; refine (HSub.out _).mono ?_; rintro e w' ⟨rfl, rfl⟩)
        go_roundw
        case rel => exact ⟨j + 1, 0, br', p ++ [z], by omega, (by omega), hbr', by go_num, rfl, rfl, ⟨by simp [HP.out], by
          intro d hd
          rcases List.mem_append.1 hd with hd | hd
          · exact HPL.out d hd
          · simp at hd; subst hd; exact HZL.out, HRN.out, HSt.out, .inr rfl⟩, HXN⟩
        case measure => simp [intOf]; omega
    · obtain rfl : j = k := by omega
      have hc0 : Hid (c = 0) := by
        rcases HI.out.last with h2 | h2
        · have := HM.out; omega
        · exact h2
      have HF : Hid (AwayPost g pre x post v d w wr br p) := by
        refine ⟨?_, by rw [HI.out.len, HK.out], HI.out.lt, hbr, ?_, HE.out⟩
        · have := HI.out.row
          rwa [List.drop_eq_nil_of_le (by have := HK.out; omega), List.append_nil] at this
        · have := HI.out.val
          rw [hc0.out, Nat.mul_zero, Nat.add_zero, List.take_of_length_le (by have := HM.out; omega), List.take_of_length_le (by have := HK.out; omega)] at this
          rw [← HK.out]; exact this
      clear HI HE
      by_cases hb0 : br = 0
      · subst hb0
        go_wp2
        go_ret
        exact ⟨0, p, rfl, HF.out⟩
      · obtain rfl : br = 1 := by omega
        go_wp2
        go_ret
        exact ⟨1, p, rfl, HF.out⟩
end Go.Proofs.YtiihnoelclnahaaGreatDoor
