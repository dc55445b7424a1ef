/- nat.short, nat.up, nat.down, nat.away. -/
import Derived.Test.YtiihnoelclnahaaGreatDoorNatMul
namespace Go.Proofs.YtiihnoelclnahaaGreatDoor
open Go.RowKit
set_option linter.unusedVariables false

theorem wraps_u64 (n : Int) (h₀ : 0 ≤ n) (h₁ : n < 2 ^ 64) : IntKind.u64.wrap n = n := by show n % 18446744073709551616 = n; omega
theorem or_digit (r d : Nat) (hr : r < 4294967296) (hd : d < 4294967296) : bits .or .u64 ((r : Int) * 4294967296) d = ((r * 4294967296 + d : Nat) : Int) := by
  have := bits_join .u64 64 (by decide) wraps_u64 32 ((r : Int) * 4294967296) d (by omega) (by omega) (by omega) (by omega) (by omega) (by omega)
  rw [this]; omega

theorem short_names (r d by_ : Nat) (hr : r < by_) (hb : by_ < 4294967296) (hd : d < 4294967296) : ∃ x q r' : Nat, bits .or .u64 ((r : Int) * 4294967296) d = (x : Int) ∧ (x : Int).tdiv by_ = q ∧ (x : Int).tmod by_ = r' ∧ (x : Int) / by_ = q ∧ (x : Int) % by_ = r' ∧ (q : Int) % 4294967296 = q ∧
    (r * 4294967296 + d = q * by_ + r' ∧ q < 4294967296 ∧ r' < by_) := by
  refine ⟨r * 4294967296 + d, (r * 4294967296 + d) / by_, (r * 4294967296 + d) % by_, or_digit r d (by omega) hd, ?_, ?_, ?_, ?_, ?_, ?_, ?_, ?_⟩
  · rw [Int.tdiv_eq_ediv_of_nonneg (by omega)]; simp
  · rw [Int.tmod_eq_emod_of_nonneg (by omega)]; simp
  · simp
  · simp
  · have h1 : (r * 4294967296 + d) / by_ < 4294967296 := Nat.div_lt_of_lt_mul (by
      have : (r + 1) * 4294967296 ≤ by_ * 4294967296 := Nat.mul_le_mul_right _ hr
      omega)
    generalize (r * 4294967296 + d) / by_ = q at *
    omega
  · rw [Nat.mul_comm _ by_]; exact (Nat.div_add_mod _ _).symm
  · exact Nat.div_lt_of_lt_mul (by
      have : (r + 1) * 4294967296 ≤ by_ * 4294967296 := Nat.mul_le_mul_right _ hr
      omega)
  · exact Nat.mod_lt _ (by omega)

theorem short_step (l qs : List Nat) (j d by_ r q r' : Nat) (hd : l[j]? = some d) (e : r * 4294967296 + d = q * by_ + r') (h : ofD (l.drop (j + 1)) = ofD qs * by_ + r) : ofD (l.drop j) = ofD (q :: qs) * by_ + r' := by
  obtain ⟨h1, rfl⟩ := List.getElem?_eq_some_iff.1 hd
  rw [List.drop_eq_getElem_cons h1]
  simp only [ofD]
  rw [h, Nat.add_mul, Nat.mul_add, Nat.mul_assoc]
  omega

/-- Block g: these digits, and whatever stands behind them. -/
def RowX (w : World) (t : TypeId) (g : Nat) (l : List Nat) (z : List Value) : Prop := w.heap[g]? = some (.cells ((l.map fun d : Nat => Value.int .u32 (d : Int)) ++ z).toArray t (0, 0))
theorem RowX.lt {w : World} {t : TypeId} {g : Nat} {l : List Nat} {z : List Value} (h : RowX w t g l z) : g < w.heap.size := by
  rcases Nat.lt_or_ge g w.heap.size with h1 | h1
  · exact h1
  · unfold RowX at h; rw [Array.getElem?_eq_none h1] at h; cases h
theorem RowX.cell {w : World} {t : TypeId} {g : Nat} {l : List Nat} {z : List Value} (h : RowX w t g l z) {i d : Nat} (hi : l[i]? = some d) : w.cell? ⟨g, i, none⟩ = some (.int .u32 (d : Int)) := by
  unfold RowX at h
  have hl : i < l.length := (List.getElem?_eq_some_iff.1 hi).1
  simp only [World.cell?, h, List.getElem?_toArray]
  rw [List.getElem?_append_left (by simpa using hl)]
  simp [hi]
theorem RowX.free {w : World} {t : TypeId} {g : Nat} {l : List Nat} {z : List Value} (h : RowX w t g l z) (i : Nat) : w.frozen? ⟨g, i, none⟩ = false := by
  unfold RowX at h
  simp [World.frozen?, h]
theorem RowX.set_ {w : World} {t : TypeId} {g : Nat} {l : List Nat} {z : List Value} (h : RowX w t g l z) (i d : Nat) (hi : i < l.length) : RowX (w.setCell ⟨g, i, none⟩ (.int .u32 (d : Int))) t g (l.set i d) z := by
  unfold RowX at h ⊢
  simp only [World.setCell, Array.getElem?_modify, h, if_true, Option.map_some]
  congr 2
  simp only [List.map_set]
  rw [List.setIfInBounds_toArray, List.set_append_left _ _ (by simpa using hi)]; simp
theorem RowX.digs {w : World} {g : Nat} {l : List Nat} {z : List Value} (h : RowX w 145 g l z) : Digs w (some ⟨g, 0, none⟩) l :=
  fun _ => ⟨g, 0, rfl, ⟨_, _, h⟩, fun j d hj => by rw [Nat.zero_add]; exact h.cell hj⟩
theorem RowX.drew {w : World} {t : TypeId} {g : Nat} {l : List Nat} {z : List Value} (h : RowX w t g l z) : RowX w.drew t g l z := h

theorem short_any (g k c : Nat) (l : List Nat) (by_ : Nat) (zz : List Value) (w : World) (hk : k = l.length) (hkm : k ≤ 100000) (hl : ∀ d ∈ l, d < 4294967296) (hb0 : 0 < by_) (hb : by_ < 4294967296)
    (hR : RowX w 145 g l zz) :
    Calls Tryz.prog 116 #[.slice (some ⟨g, 0, none⟩) k c, .int .u32 by_] w fun e w' => ∃ (l' : List Nat) (r : Nat), e = .returned (.int .u32 r) ∧ RowX w' 145 g l' zz ∧ l'.length = k ∧ (∀ d ∈ l', d < 4294967296) ∧ r < by_ ∧ ofD l = ofD l' * by_ + r ∧ ExtBut (· = g) w w' := by
  have HK := Lib.hid hk; clear hk
  have HL := Lib.hid hl; clear hl
  go_enter Tryz.func116, Tryz.ntmps116
  go_wp2
  go_loopw [5, 6] (fun rv iv wr => ∃ (j r : Nat) (qs : List Nat), j ≤ k ∧ r < by_ ∧ iv = .int .i64 ((j : Int) - 1) ∧ rv = .int .u64 r ∧ Hid (qs.length + j = k) ∧ Hid (∀ d ∈ qs, d < 4294967296) ∧ Hid (RowX wr 145 g (l.take j ++ qs) zz) ∧ Hid (ofD (l.drop j) = ofD qs * by_ + r) ∧ Hid (ExtBut (· = g) w wr)) (fun _ i _ => (intOf i + 1).toNat)
  case atStart => exact ⟨k, 0, [], Nat.le_refl _, hb0, rfl, rfl, by simp [Hid], by simp [Hid], by have := HK.out; subst this; simpa [Hid] using hR, by have := HK.out; subst this; simp [Hid, ofD], ExtBut.refl _ _⟩
  case round =>
    obtain ⟨j, r, qs, hj, hr, rfl, rfl, HQ, HQL, HRj, HE, HX⟩ := hrel
    by_cases h0 : j = 0
    · subst h0
      go_wp2
      go_ret
      exact ⟨qs, r, rfl, by have := HRj.out; simpa using this, by have := HQ.out; omega, HQL.out, hr, by have := HE.out; simpa using this, HX.out⟩
    · obtain ⟨d, hd⟩ : ∃ d, l[j - 1]? = some d := ⟨_, List.getElem?_eq_getElem (by have := HK.out; omega)⟩
      have hdl : d < 4294967296 := by obtain ⟨h1, rfl⟩ := List.getElem?_eq_some_iff.1 hd; exact HL.out _ (List.getElem_mem h1)
      have hat : (l.take j ++ qs)[j - 1]? = some d := by rw [List.getElem?_append_left (by simp; have := HK.out; omega), List.getElem?_take, if_pos (by omega)]; exact hd
      have cd : wr.cell? ⟨g, j - 1, none⟩ = some (.int .u32 (d : Int)) := HRj.out.cell hat
      have fd := HRj.out.free (j - 1)
      have p0 : (0 : Int) ≤ (j : Int) - 1 := by omega
      have p1 : (j : Int) - 1 < k := by omega
      have p2 : ((j : Int) - 1).toNat = j - 1 := by omega
      obtain ⟨x, q, r', e1, e2, e3, e4, e5, e6, e7⟩ := short_names r d by_ hr hb hdl
      have HQ7 := Lib.hid e7; clear e7
      have hne : ((by_ : Int) == 0) = false := by rw [beq_eq_false_iff_ne]; omega
      have HSt := Lib.hid (short_step l qs (j - 1) d by_ r q r' hd HQ7.out.1 (by rw [show j - 1 + 1 = j by omega]; exact HE.out))
      have HRN : Hid (RowX (wr.setCell ⟨g, j - 1, none⟩ (.int .u32 (q : Int))) 145 g (l.take (j - 1) ++ (q :: qs)) zz) := by
        have := HRj.out.set_ (j - 1) q (by simp; have := HK.out; have := HQ.out; omega)
        have e : (l.take j ++ qs).set (j - 1) q = l.take (j - 1) ++ (q :: qs) := by
          have hj' : j - 1 < l.length := by have := HK.out; omega
          obtain ⟨i, rfl⟩ : ∃ i, j = i + 1 := ⟨j - 1, by omega⟩
          simp only [Nat.add_sub_cancel] at hj' ⊢
          have hl : (l.take i).length = i := by rw [List.length_take]; omega
          rw [List.take_succ_eq_append_getElem hj', List.append_assoc, List.set_append_right _ _ (by omega), hl, Nat.sub_self]
          rfl
        rwa [e] at this
      have HXN := Lib.hid (HX.out.setCell (p := ⟨g, j - 1, none⟩) (.inl rfl) (.int .u32 (q : Int)))
      have HD := Lib.hid hd
      clear hd hat HE HX HRj
      go_wp2
      go_region
      go_wp2
      go_roundw
      case rel => exact ⟨j - 1, r', q :: qs, by omega, HQ7.out.2.2, by go_num, rfl, by have := HQ.out; simp [Hid]; omega, by
        intro d hd
        rcases List.mem_cons.1 hd with rfl | hd
        · exact HQ7.out.2.1
        · exact HQL.out d hd, HRN, HSt, HXN.out.drew⟩
      case measure => simp [intOf]; omega
end Go.Proofs.YtiihnoelclnahaaGreatDoor
