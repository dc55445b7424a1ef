/- The plain law of texts: what is written is read, what is read is written so, one byte turned is told. -/
import Derived.Test.YtiihnoelclnahaaGreatDoorSaveParse
namespace Go.Proofs.YtiihnoelclnahaaGreatDoor
open Go.RowKit
set_option linter.unusedVariables false

/-! ### Words -/
theorem drop_head {s : List UInt8} {a : Nat} {c : UInt8} {t : List UInt8} (h : s.drop a = c :: t) : s[a]? = some c ∧ s.drop (a + 1) = t := by
  have hl : a < s.length := by
    rcases Nat.lt_or_ge a s.length with h1 | h1
    · exact h1
    · rw [List.drop_eq_nil_of_le h1] at h; cases h
  rw [List.drop_eq_getElem_cons hl] at h
  injection h with h1 h2
  exact ⟨by rw [List.getElem?_eq_getElem hl, h1], h2⟩
theorem drop_cons {s : List UInt8} {a : Nat} {c : UInt8} (h : s[a]? = some c) : s.drop a = c :: s.drop (a + 1) := by
  obtain ⟨h1, rfl⟩ := List.getElem?_eq_some_iff.1 h
  exact List.drop_eq_getElem_cons h1
theorem drop_app {s p t : List UInt8} {a : Nat} (h : s.drop a = p ++ t) : s.drop (a + p.length) = t := by
  rw [← List.drop_drop, h, List.drop_append_of_le_length (Nat.le_refl _), List.drop_length, List.nil_append]

theorem wordP_ok {s w : List UInt8} {a b : Nat} (h : wordP s w a = .ok b) : s.drop a = w ++ s.drop b := by
  induction w generalizing a with
  | nil => injection h with h; subst h; rfl
  | cons c w ih =>
    rw [wordP] at h
    split at h
    · rename_i hc
      rw [drop_cons hc, ih h]; rfl
    · cases h
theorem wordP_yes {s w t : List UInt8} {a : Nat} (h : s.drop a = w ++ t) : wordP s w a = .ok (a + w.length) := by
  induction w generalizing a with
  | nil => rfl
  | cons c w ih =>
    obtain ⟨h1, h2⟩ := drop_head h
    rw [wordP, if_pos h1, ih h2, List.length_cons]
    congr 1; omega

/-! ### Numbers -/
theorem decDigits_dig (u : Nat) : ∀ c ∈ Lib.decDigits u, digB c = true := by
  have hd : ∀ d : Nat, d < 10 → digB (UInt8.ofNat (48 + d)) = true := by decide
  induction u using Nat.strongRecOn with
  | _ u ih =>
    rw [Lib.decDigits]
    split
    · rename_i h
      intro c hc
      rw [List.mem_singleton] at hc; subst hc
      exact hd u h
    · intro c hc
      rcases List.mem_append.1 hc with h | h
      · exact ih (u / 10) (by omega) c h
      · rw [List.mem_singleton] at h; subst h
        exact hd _ (by omega)
theorem decDigits_ne (u : Nat) : Lib.decDigits u ≠ [] := by
  intro h
  have := congrArg List.length h
  rw [Lib.decDigits_length] at this
  have := Lib.nDigits_pos u
  simp at *; omega

/-- No digit stands ahead. -/
def Stop (t : List UInt8) : Prop := ∀ c r, t = c :: r → digB c = false

theorem takeWhile_dig (ds t : List UInt8) (hd : ∀ c ∈ ds, digB c = true) (ht : Stop t) : (ds ++ t).takeWhile digB = ds := by
  induction ds with
  | nil =>
    cases t with
    | nil => rfl
    | cons c r => rw [List.nil_append, List.takeWhile_cons_of_neg (by rw [ht c r rfl]; simp)]
  | cons c ds ih => rw [List.cons_append, List.takeWhile_cons_of_pos (hd c (by simp)), ih fun x hx => hd x (by simp [hx])]
theorem skipD_yes {s ds t : List UInt8} {e : Nat} (h : s.drop e = ds ++ t) (hd : ∀ c ∈ ds, digB c = true) (ht : Stop t) : skipD s e = e + ds.length := by
  unfold skipD
  rw [h, takeWhile_dig ds t hd ht]

theorem endN_yes {s t : List UInt8} {a : Nat} {v : Int} (h : s.drop a = Lib.itoa v ++ t) (ht : Stop t) : endN s a = a + (Lib.itoa v).length := by
  unfold endN
  unfold Lib.itoa at h ⊢
  by_cases hv : v < 0
  · rw [if_pos hv] at h ⊢
    obtain ⟨h1, h2⟩ := drop_head h
    rw [if_pos h1, skipD_yes h2 (decDigits_dig _) ht, List.length_cons]; omega
  · rw [if_neg hv] at h ⊢
    rw [if_neg, skipD_yes h (decDigits_dig _) ht]
    intro h1
    cases hl : Lib.decDigits v.toNat with
    | nil => exact decDigits_ne _ hl
    | cons c r =>
      rw [hl, List.cons_append] at h
      have h2 := (drop_head h).1
      rw [h1] at h2
      have h3 := decDigits_dig v.toNat c (by rw [hl]; simp)
      have := Option.some.inj h2
      rw [← this] at h3
      exact absurd h3 (by decide)

theorem parseU_append (M : Nat) (l1 l2 : List UInt8) : ∀ acc a : Nat, Lib.parseUintM M acc l1 = .ok a → Lib.parseUintM M acc (l1 ++ l2) = Lib.parseUintM M a l2 := by
  induction l1 with
  | nil => intro acc a h; injection h with h; rw [h]; rfl
  | cons c l1 ih =>
    intro acc a h
    rw [List.cons_append]
    simp only [Lib.parseUintM] at h ⊢
    split at h
    · rename_i h1
      rw [if_pos h1]
      split at h
      · cases h
      · rename_i h2
        rw [if_neg h2]
        split at h
        · cases h
        · rename_i h3
          rw [if_neg h3]
          exact ih _ _ h
    · cases h
theorem digit_nat (d : Nat) (h : d < 10) : (UInt8.ofNat (48 + d)).toNat = 48 + d := by
  rw [UInt8.toNat_ofNat']; omega
theorem parseU_dec (u : Nat) (h : u ≤ 18446744073709551615) : Lib.parseUintM 18446744073709551615 0 (Lib.decDigits u) = .ok u := by
  induction u using Nat.strongRecOn with
  | _ u ih =>
    rw [Lib.decDigits]
    split
    · rename_i h1
      simp only [Lib.parseUintM, digit_nat u h1]
      rw [if_pos (by omega), if_neg (by omega), if_neg (by omega)]
      congr 1; omega
    · rename_i h1
      rw [parseU_append _ _ _ _ _ (ih (u / 10) (by omega) (by omega))]
      simp only [Lib.parseUintM, digit_nat (u % 10) (by omega)]
      rw [if_pos (by omega), if_neg (by omega), if_neg (by omega)]
      congr 1; omega
theorem parseI_itoa (v : Int) (h0 : -9223372036854775808 ≤ v) (h1 : v ≤ 9223372036854775807) : Lib.parseIntB 64 (Lib.itoa v) = .ok v := by
  have e64 : (2 : Nat) ^ 64 - 1 = 18446744073709551615 := by decide
  have e63 : (2 : Nat) ^ (64 - 1) = 9223372036854775808 := by decide
  unfold Lib.itoa
  by_cases hv : v < 0
  · rw [if_pos hv]
    have h45 : (45 : UInt8).toNat = 45 := rfl
    simp only [Lib.parseIntB, h45, Lib.parseUintB, e64, e63, if_neg (decDigits_ne _), or_true, if_true, parseU_dec v.natAbs (by omega), not_true_eq_false, false_and, if_false, true_and]
    rw [if_neg (by omega)]
    congr 1; omega
  · rw [if_neg hv]
    cases hl : Lib.decDigits v.toNat with
    | nil => exact absurd hl (decDigits_ne _)
    | cons c r =>
      have h3 := decDigits_dig v.toNat c (by rw [hl]; simp)
      unfold digB at h3
      rw [Bool.and_eq_true, decide_eq_true_eq, decide_eq_true_eq] at h3
      have hp := parseU_dec v.toNat (by omega)
      rw [hl] at hp
      simp only [Lib.parseIntB]
      rw [if_neg (by omega)]
      simp only [Lib.parseUintB, e64, e63, if_neg (List.cons_ne_nil c r), hp]
      rw [if_neg (by omega), if_neg (by omega), if_neg (by omega)]
      congr 1; omega

theorem numP_ok {s : List UInt8} {lo hi v : Int} {a b : Nat} (h : numP s lo hi a = .ok (v, b)) (ha : a ≤ s.length) : s.drop a = Lib.itoa v ++ s.drop b := by
  have hb := numP_le h ha
  unfold numP at h
  split at h
  · rename_i u hu
    injection h with h
    injection h with h1 h2
    subst h1
    unfold numT at hu
    split at hu
    · split at hu
      · rename_i x hh
        injection hu with hu
        subst hu
        rw [hh.1, h2]
        unfold cutL
        conv => lhs; rw [← List.take_append_drop (b - a) (s.drop a), List.drop_drop]
        rw [show a + (b - a) = b by omega]
      · cases hu
    · cases hu
  · cases h
theorem numP_yes' {s t : List UInt8} {lo hi v : Int} {a : Nat} (h : s.drop a = Lib.itoa v ++ t) (ht : Stop t) (h0 : -9223372036854775808 ≤ v) (h1 : v ≤ 9223372036854775807) (hlo : lo ≤ v) (hhi : v ≤ hi) : numP s lo hi a = .ok (v, a + (Lib.itoa v).length) := by
  have hE := endN_yes h ht
  have hc : cutL s a (a + (Lib.itoa v).length) = Lib.itoa v := by
    unfold cutL
    rw [h, show a + (Lib.itoa v).length - a = (Lib.itoa v).length by omega, List.take_left']
    rfl
  unfold numP numT
  rw [hE, hc, parseI_itoa v h0 h1]
  simp only [true_and]
  rw [if_pos ⟨hlo, hhi⟩]

/-! ### Entries -/
def entT (x : Int) : List UInt8 := 32 :: Lib.itoa x
theorem stop_32 (t : List UInt8) : Stop (32 :: t) := by
  intro c r h; injection h with h _; subst h; decide
theorem stop_10 (t : List UInt8) : Stop (10 :: t) := by
  intro c r h; injection h with h _; subst h; decide
theorem stop_flat (l : List Int) (t : List UInt8) (ht : Stop t) : Stop (l.flatMap entT ++ t) := by
  cases l with
  | nil => exact ht
  | cons x l => exact stop_32 _

theorem flatP_ok {s : List UInt8} {m a b : Nat} {acc l : List Int} (h : flatP s m a acc = .ok (l, b)) (ha : a ≤ s.length) :
    ∃ t, l = acc ++ t ∧ t.length = m ∧ s.drop a = t.flatMap entT ++ s.drop b ∧ b ≤ s.length := by
  induction m generalizing a acc with
  | zero =>
    injection h with h
    injection h with h1 h2
    exact ⟨[], by simp [h1], rfl, by simp [h2], by omega⟩
  | succ m ih =>
    rw [flatP] at h
    split at h
    · cases h
    · rename_i a1 h1
      split at h
      · cases h
      · rename_i v a2 h2
        have ha1 := (wordP_le h1 ha).2
        have ha2 := (numP_le h2 ha1).2.1
        obtain ⟨t, e1, e2, e3, e4⟩ := ih h ha2
        refine ⟨v :: t, by rw [e1]; simp, by simp [e2], ?_, e4⟩
        rw [wordP_ok h1, numP_ok h2 ha1, e3]
        simp [entT]
theorem flatP_yes {s r : List UInt8} (t : List Int) {a : Nat} {acc : List Int} (h : s.drop a = t.flatMap entT ++ r) (hr : Stop r) (hb : ∀ x ∈ t, -16384 ≤ x ∧ x ≤ 16384) :
    flatP s t.length a acc = .ok (acc ++ t, a + (t.flatMap entT).length) := by
  induction t generalizing a acc with
  | nil => simp [flatP]
  | cons x t ih =>
    have hx := hb x (by simp)
    have e : s.drop a = [32] ++ (Lib.itoa x ++ (t.flatMap entT ++ r)) := by rw [h]; simp [entT]
    have h1 := wordP_yes e
    have e2 := drop_app e
    have h2 := numP_yes' (lo := -16384) (hi := 16384) e2 (stop_flat t r hr) (by omega) (by omega) hx.1 hx.2
    have e3 := drop_app e2
    have h3 := ih (acc := acc ++ [x]) e3 (fun y hy => hb y (by simp [hy]))
    rw [List.length_cons, flatP_s h1 h2, h3]
    congr 2
    · simp
    · simp [entT]; omega

/-! ### Forms -/
theorem rowText_flat (l : List Int) (k : Nat) : rowText l k = (l.take k).flatMap entT := rfl
theorem row_take {n i : Nat} {l : List Int} (hi : i < n) (hl : l.length = tri n) : ((List.range n).map fun j => ent l i j).take (i + 1) = (l.drop (tri i)).take (i + 1) := by
  have h1 := tri_mono (show i + 1 ≤ n by omega)
  rw [tri_succ] at h1
  apply List.ext_getElem?
  intro j
  rw [List.getElem?_take, List.getElem?_take]
  by_cases hj : j < i + 1
  · rw [if_pos hj, if_pos hj, List.getElem?_map, List.getElem?_range (by omega), List.getElem?_drop]
    simp only [Option.map_some]
    unfold ent
    rw [Nat.max_eq_left (by omega), Nat.min_eq_right (by omega), List.getD_eq_getElem?_getD, List.getElem?_eq_getElem (by omega)]
    rfl
  · rw [if_neg hj, if_neg hj]
theorem rows_flat {n : Nat} {l : List Int} (hl : l.length = tri n) (i : Nat) (hi : i ≤ n) : rowsText (matOf n l) i = (l.take (tri i)).flatMap entT := by
  induction i with
  | zero => simp [rowsText, tri]
  | succ i ih =>
    have hr : (matOf n l)[i]? = some ((List.range n).map fun j => ent l i j) := by
      unfold matOf; rw [List.getElem?_map, List.getElem?_range (by omega)]; rfl
    rw [rowsText_succ _ i _ hr, ih (by omega), rowText_flat, row_take (by omega) hl, tri_succ, show l.take (tri i + (i + 1)) = l.take (tri i) ++ (l.drop (tri i)).take (i + 1) from List.take_add, List.flatMap_append]
theorem matOf_len' (n : Nat) (l : List Int) : (matOf n l).length = n := by unfold matOf; simp
theorem line_flat {n : Nat} {l : List Int} (hl : l.length = tri n) : lineOf (matOf n l) = Lib.itoa n ++ l.flatMap entT ++ [10] := by
  unfold lineOf
  rw [matOf_len', rows_flat hl n (Nat.le_refl _), List.take_of_length_le (by omega)]

theorem formP_ok {s : List UInt8} {a b : Nat} {f : List (List Int)} (h : formP s a = .ok (f, b)) (ha : a ≤ s.length) : s.drop a = lineOf f ++ s.drop b ∧ chk f = 0 ∧ b ≤ s.length ∧ Fit64 f := by
  unfold formP at h
  split at h
  · cases h
  · rename_i n a1 h1
    split at h
    · cases h
    · rename_i l a2 h2
      split at h
      · cases h
      · rename_i a3 h3
        split at h
        · rename_i hc
          injection h with h
          injection h with e1 e2
          subst e1; subst e2
          have q1 := numP_le h1 ha
          obtain ⟨t, t1, t2, t3, t4⟩ := flatP_ok h2 q1.2.1
          rw [List.nil_append] at t1
          subst t1
          have q3 := wordP_le h3 t4
          obtain ⟨n, rfl⟩ := Int.eq_ofNat_of_zero_le (show 0 ≤ n by omega)
          rw [Int.toNat_natCast] at t2 hc ⊢
          refine ⟨?_, hc, q3.2, ?_⟩
          · rw [line_flat t2, numP_ok h1 ha, t3, wordP_ok h3]; simp
          · have hsq := (chk_ok hc)
            have hsm := eachB_true.1 hsq.2.2.2.1
            refine ⟨by omega, fun r hr => ⟨by have := hsq.2.2.1 r hr; omega, fun z hz => ?_⟩⟩
            obtain ⟨i, hi, rfl⟩ := List.getElem_of_mem hr
            obtain ⟨j, hj, rfl⟩ := List.getElem_of_mem hz
            have := hsm i _ (List.getElem?_eq_getElem hi) j _ (List.getElem?_eq_getElem hj)
            unfold smallP smallB at this
            simp at this; omega
        · cases h
/-- The lower half of k rows. -/
def lowerP (f : List (List Int)) (k : Nat) : List Int := (List.range k).flatMap fun i => ((f[i]?).getD []).take (i + 1)
theorem lowerP_succ {f : List (List Int)} {k : Nat} {r : List Int} (h : f[k]? = some r) : lowerP f (k + 1) = lowerP f k ++ r.take (k + 1) := by
  unfold lowerP
  rw [List.range_succ, List.flatMap_append]; simp [h]
theorem lowerP_len {f : List (List Int)} {n : Nat} (hn : f.length = n) (hsq : ∀ r ∈ f, r.length = n) (k : Nat) (hk : k ≤ n) : (lowerP f k).length = tri k := by
  induction k with
  | zero => rfl
  | succ k ih =>
    obtain ⟨r, hr⟩ : ∃ r, f[k]? = some r := ⟨_, List.getElem?_eq_getElem (by omega)⟩
    have hrl : r.length = n := hsq r (List.mem_of_getElem? hr)
    rw [lowerP_succ hr, List.length_append, ih (by omega), tri_succ, List.length_take]; omega
theorem lowerP_at {f : List (List Int)} {n : Nat} (hn : f.length = n) (hsq : ∀ r ∈ f, r.length = n) (k : Nat) (hk : k ≤ n) (i j : Nat) (r : List Int) (hi : i < k) (hr : f[i]? = some r) (hj : j ≤ i) : (lowerP f k)[tri i + j]? = r[j]? := by
  induction k with
  | zero => omega
  | succ k ih =>
    obtain ⟨r', hr'⟩ : ∃ r', f[k]? = some r' := ⟨_, List.getElem?_eq_getElem (by omega)⟩
    have hl := lowerP_len hn hsq k (by omega)
    rw [lowerP_succ hr']
    rcases Nat.lt_or_ge i k with h | h
    · have h1 := tri_mono (show i + 1 ≤ k by omega)
      rw [tri_succ] at h1
      rw [List.getElem?_append_left (by omega)]
      exact ih (by omega) h
    · obtain rfl : i = k := by omega
      rw [hr] at hr'
      injection hr' with hr'
      subst hr'
      rw [List.getElem?_append_right (by omega), hl, Nat.add_sub_cancel_left, List.getElem?_take, if_pos (by omega)]

theorem matOf_lower {f : List (List Int)} (h : chk f = 0) : matOf f.length (lowerP f f.length) = f := by
  obtain ⟨h1, h2, h3, h4, h5, h6⟩ := chk_ok h
  have hm := eachB_true.1 h5
  apply List.ext_getElem?
  intro i
  unfold matOf
  rw [List.getElem?_map]
  rcases Nat.lt_or_ge i f.length with hi | hi
  · rw [List.getElem?_range hi]
    obtain ⟨r, hr⟩ : ∃ r, f[i]? = some r := ⟨_, List.getElem?_eq_getElem hi⟩
    have hrl : r.length = f.length := h3 r (List.mem_of_getElem? hr)
    rw [hr]
    simp only [Option.map_some]
    congr 1
    apply List.ext_getElem?
    intro j
    rw [List.getElem?_map]
    rcases Nat.lt_or_ge j f.length with hj | hj
    · rw [List.getElem?_range hj]
      obtain ⟨c, hc⟩ : ∃ c, f[j]? = some c := ⟨_, List.getElem?_eq_getElem hj⟩
      have hcl : c.length = f.length := h3 c (List.mem_of_getElem? hc)
      obtain ⟨z, hz⟩ : ∃ z, r[j]? = some z := ⟨_, List.getElem?_eq_getElem (by omega)⟩
      rw [hz]
      simp only [Option.map_some]
      congr 1
      unfold ent
      rw [List.getD_eq_getElem?_getD]
      rcases Nat.le_total j i with hji | hij
      · rw [Nat.max_eq_left hji, Nat.min_eq_right hji, lowerP_at rfl h3 _ (Nat.le_refl _) i j r hi hr hji, hz]; rfl
      · have hq := hm i r hr j z hz
        unfold mirrorB at hq
        rw [hc, Option.getD_some] at hq
        obtain ⟨y, hy⟩ : ∃ y, c[i]? = some y := ⟨_, List.getElem?_eq_getElem (by omega)⟩
        rw [hy, Option.getD_some, beq_iff_eq] at hq
        rw [Nat.max_eq_right hij, Nat.min_eq_left hij, lowerP_at rfl h3 _ (Nat.le_refl _) j i c hj hc hij, hy, hq]; rfl
    · rw [List.getElem?_eq_none (by simpa using hj), List.getElem?_eq_none (by omega)]; rfl
  · rw [List.getElem?_eq_none (by simpa using hi), List.getElem?_eq_none hi]; rfl
theorem lowerP_bd {f : List (List Int)} (h : chk f = 0) : ∀ x ∈ lowerP f f.length, -16384 ≤ x ∧ x ≤ 16384 := by
  obtain ⟨h1, h2, h3, h4, h5, h6⟩ := chk_ok h
  have hm := eachB_true.1 h4
  intro x hx
  unfold lowerP at hx
  obtain ⟨i, hi, hx⟩ := List.mem_flatMap.1 hx
  rw [List.mem_range] at hi
  rw [List.getElem?_eq_getElem hi, Option.getD_some] at hx
  obtain ⟨j, hj, rfl⟩ := List.getElem_of_mem (List.mem_of_mem_take hx)
  have := hm i _ (List.getElem?_eq_getElem hi) j _ (List.getElem?_eq_getElem hj)
  unfold smallP smallB at this
  simp at this; omega

theorem formP_yes {s t : List UInt8} {a : Nat} {f : List (List Int)} (hc : chk f = 0) (h : s.drop a = lineOf f ++ t) : formP s a = .ok (f, a + (lineOf f).length) := by
  obtain ⟨h1, h2, h3, _⟩ := chk_ok hc
  have hl := lowerP_len rfl h3 _ (Nat.le_refl f.length)
  have hlen := hl
  have e : lineOf f = Lib.itoa f.length ++ (lowerP f f.length).flatMap entT ++ [10] := by
    have := line_flat hl
    rwa [matOf_lower hc] at this
  rw [e, List.append_assoc, List.append_assoc] at h
  have q1 := numP_yes' (lo := 1) (hi := 8) h (stop_flat _ _ (stop_10 _)) (by omega) (by omega) (by omega) (by omega)
  have e2 := drop_app h
  have q2 := flatP_yes (acc := []) (lowerP f f.length) e2 (stop_10 _) (lowerP_bd hc)
  rw [hl, List.nil_append] at q2
  have e3 := drop_app e2
  have q3 := wordP_yes e3
  have q4 := formP_s (n := (f.length : Int)) q1 (by rw [Int.toNat_natCast]; exact q2) q3 (by rw [Int.toNat_natCast, matOf_lower hc]; exact hc)
  rw [q4, Int.toNat_natCast, matOf_lower hc, e]
  congr 2
  simp only [List.length_append, List.length_cons, List.length_nil]; omega

theorem formsP_ok {s : List UInt8} {k a b : Nat} {acc ls : List (List (List Int))} (h : formsP s k a acc = .ok (ls, b)) (ha : a ≤ s.length) :
    ∃ fs, ls = acc ++ fs ∧ fs.length = k ∧ s.drop a = fs.flatMap lineOf ++ s.drop b ∧ b ≤ s.length ∧ (∀ f ∈ fs, chk f = 0 ∧ Fit64 f) := by
  induction k generalizing a acc with
  | zero =>
    injection h with h
    injection h with h1 h2
    exact ⟨[], by simp [h1], rfl, by simp [h2], by omega, by simp⟩
  | succ k ih =>
    rw [formsP] at h
    split at h
    · cases h
    · rename_i f a1 h1
      obtain ⟨q1, q2, q3, q4⟩ := formP_ok h1 ha
      obtain ⟨fs, e1, e2, e3, e4, e5⟩ := ih h q3
      refine ⟨f :: fs, by rw [e1]; simp, by simp [e2], by rw [q1, e3]; simp, e4, fun x hx => ?_⟩
      rcases List.mem_cons.1 hx with rfl | hx
      · exact ⟨q2, q4⟩
      · exact e5 x hx
theorem formsP_yes {s t : List UInt8} (fs : List (List (List Int))) {a : Nat} {acc : List (List (List Int))} (hc : ∀ f ∈ fs, chk f = 0) (h : s.drop a = fs.flatMap lineOf ++ t) :
    formsP s fs.length a acc = .ok (acc ++ fs, a + (fs.flatMap lineOf).length) := by
  induction fs generalizing a acc with
  | nil => simp [formsP]
  | cons f fs ih =>
    have e : s.drop a = lineOf f ++ (fs.flatMap lineOf ++ t) := by rw [h]; simp
    have q := formP_yes (hc f (by simp)) e
    rw [List.length_cons, forms_s q, ih (fun x hx => hc x (by simp [hx])) (drop_app e)]
    congr 2
    · simp
    · simp; omega

/-! ### The sum -/
theorem hexc_hex (d : Nat) (h : d < 16) : hexB (hexc d) = true := by
  have : ∀ q : Fin 16, hexB (hexc q.val) = true := by decide
  exact this ⟨d, h⟩
theorem hexN_hex (u : Nat) : ∀ c ∈ hexN u, hexB c = true := by
  induction u using Nat.strongRecOn with
  | _ u ih =>
    by_cases h : u < 16
    · rw [hexN_small h]; intro c hc; rw [List.mem_singleton] at hc; subst hc; exact hexc_hex u h
    · rw [hexN_big h]
      intro c hc
      rcases List.mem_append.1 hc with q | q
      · exact ih (u / 16) (by omega) c q
      · rw [List.mem_singleton] at q; subst q; exact hexc_hex _ (by omega)
theorem hex16_hex (u : Nat) : ∀ c ∈ hex16 u, hexB c = true := by
  intro c hc
  unfold hex16 at hc
  rcases List.mem_append.1 hc with q | q
  · rw [List.eq_of_mem_replicate q]; decide
  · exact hexN_hex u c q
theorem hexP_yes {s t ds : List UInt8} {a : Nat} (h : s.drop a = ds ++ t) (hd : ∀ c ∈ ds, hexB c = true) : hexP s ds.length a = .ok (a + ds.length) := by
  induction ds generalizing a with
  | nil => rfl
  | cons c ds ih =>
    obtain ⟨h1, h2⟩ := drop_head h
    rw [List.length_cons, hexP_s h1 (hd c (by simp)), ih h2 fun x hx => hd x (by simp [hx])]
    congr 1; omega

/-- The text behind a body. -/
def tailT (b : List UInt8) : List UInt8 := sumW ++ hex16 (fnv b) ++ [10]
theorem textOf_tail (ls : List (List (List Int))) : textOf ls = bodyOf ls ++ tailT (bodyOf ls) := by unfold textOf tailT; simp
theorem tailT_len (b : List UInt8) : (tailT b).length = 21 := by
  unfold tailT
  simp only [List.length_append, List.length_cons, List.length_nil, hex16_len (fnv_lt b)]; rfl

theorem tailP_ok {s : List UInt8} {a : Nat} (h : (tailP s a).1 = 0) (ha : a ≤ s.length) : s = s.take a ++ tailT (s.take a) := by
  have key : s.drop a = tailT (s.take a) := by
    cases h1 : wordP s sumW a with
    | error b => rw [tailP_1 h1] at h; exact absurd h (by simp)
    | ok f =>
      cases h2 : hexP s 16 f with
      | error b => rw [tailP_2 h1 h2] at h; exact absurd h (by simp)
      | ok f2 =>
        cases h3 : wordP s [10] f2 with
        | error b => rw [tailP_3 h1 h2 h3] at h; exact absurd h (by simp)
        | ok e =>
          by_cases h4 : e < s.length
          · rw [tailP_4 h1 h2 h3 h4] at h; exact absurd h (by simp)
          · by_cases h5 : cutL s f (f + 16) = hex16 (fnv (s.take a))
            · have q1 := wordP_le h1 ha
              have q2 := hexP_le h2 q1.2
              have q3 := wordP_le h3 q2.2
              have e1 := wordP_ok h1
              have e3 := wordP_ok h3
              rw [@List.drop_eq_nil_of_le _ s e (by omega), q2.1] at e3
              unfold cutL at h5
              rw [show f + 16 - f = 16 by omega] at h5
              have e2 : s.drop f = hex16 (fnv (s.take a)) ++ s.drop (f + 16) := by
                rw [← h5, ← List.drop_drop]; exact (List.take_append_drop 16 _).symm
              rw [e1, e2, e3]
              unfold tailT; simp
            · rw [tailP_5 h1 h2 h3 h4 h5] at h; exact absurd h (by simp)
  rw [← key, List.take_append_drop]
theorem tailP_yes {b : List UInt8} : tailP (b ++ tailT b) b.length = (0, 0) := by
  have e0 : (b ++ tailT b).drop b.length = sumW ++ (hex16 (fnv b) ++ [10]) := by rw [List.drop_left']; unfold tailT; simp; rfl
  have h1 := wordP_yes e0
  have e1 := drop_app e0
  have h2 := hexP_yes e1 (hex16_hex _)
  have hl : (hex16 (fnv b)).length = 16 := hex16_len (fnv_lt b)
  rw [hl] at h2
  have e2 := drop_app e1
  rw [hl] at e2
  have h3 := wordP_yes (w := [10]) (t := []) (by rw [e2]; rfl)
  have hL : (b ++ tailT b).length = b.length + 21 := by rw [List.length_append, tailT_len]
  have hs : sumW.length = 4 := rfl
  refine tailP_6 h1 h2 h3 (by rw [hL, hs, List.length_cons, List.length_nil]; omega) ?_
  unfold cutL
  rw [e1, show b.length + sumW.length + 16 - (b.length + sumW.length) = 16 by omega, List.take_left' hl, List.take_left' rfl]

/-! ### The law -/
theorem readP_ok {s : List UInt8} {ls : List (List (List Int))} (h : readP s = .ok ls) : textOf ls = s ∧ codeW ls = 0 ∧ FitForms ls := by
  by_cases h0 : 1048576 < s.length
  · unfold readP at h; rw [if_pos h0] at h; cases h
  cases h1 : wordP s headW 0 with
  | error b => rw [readP_1 h0 h1] at h; cases h
  | ok a1 =>
    have l1 := wordP_le h1 (by omega)
    cases h2 : numP s 0 64 a1 with
    | error b => rw [readP_2 h0 h1 h2] at h; cases h
    | ok x =>
      obtain ⟨v, a2⟩ := x
      have l2 := numP_le h2 l1.2
      obtain ⟨n, rfl⟩ := Int.eq_ofNat_of_zero_le l2.2.2.1
      cases h3 : wordP s [10] a2 with
      | error b => rw [readP_3 h0 h1 h2 h3] at h; cases h
      | ok a3 =>
        have l3 := wordP_le h3 l2.2.1
        rw [readP_4 h0 h1 h2 h3, Int.toNat_natCast] at h
        cases h4 : formsP s n a3 [] with
        | error b => rw [h4] at h; cases h
        | ok y =>
          obtain ⟨l, a4⟩ := y
          rw [h4] at h
          unfold afterP at h
          simp only at h
          split at h
          · rename_i ht
            injection h with h
            subst h
            obtain ⟨fs, e1, e2, e3, e4, e5⟩ := formsP_ok h4 l3.2
            rw [List.nil_append] at e1
            subst e1
            have q := tailP_ok ht e4
            have hb : s.take a4 = bodyOf l := by
              have e : s = bodyOf l ++ s.drop a4 := by
                have q := wordP_ok h1
                rw [List.drop_zero, numP_ok h2 l1.2, wordP_ok h3, e3] at q
                refine q.trans ?_
                unfold bodyOf bodyTo
                rw [List.take_of_length_le (Nat.le_refl _), e2]; simp
              have hl := congrArg List.length e
              rw [List.length_append, List.length_drop] at hl
              conv => lhs; rw [e]
              rw [List.take_left']; omega
            refine ⟨?_, ?_, ?_, fun f hf => (e5 f hf).2⟩
            · rw [textOf_tail, ← hb]; exact q.symm
            · unfold codeW
              rw [if_neg (by omega)]
              exact firstBad_ok fun i rows hi => (e5 rows (List.mem_of_getElem? hi)).1
            · omega
          · cases h

theorem firstBad_zero {ls : List (List (List Int))} (h : firstBad ls = 0) : ∀ f ∈ ls, chk f = 0 := by
  induction ls with
  | nil => simp
  | cons r ls ih =>
    rw [firstBad] at h
    split at h
    · rename_i hc
      intro f hf
      rcases List.mem_cons.1 hf with rfl | hf
      · exact hc
      · exact ih h f hf
    · rename_i hc; exact absurd h hc
theorem codeW_zero {ls : List (List (List Int))} (h : codeW ls = 0) : ls.length ≤ 64 ∧ ∀ f ∈ ls, chk f = 0 := by
  unfold codeW at h
  split at h
  · cases h
  · exact ⟨by omega, firstBad_zero h⟩

theorem lines_len {ls : List (List (List Int))} (hc : ∀ f ∈ ls, chk f = 0) (hf : ∀ f ∈ ls, Fit64 f) : (ls.flatMap lineOf).length ≤ 1440 * ls.length := by
  induction ls with
  | nil => simp
  | cons f ls ih =>
    have ih := ih (fun x hx => hc x (by simp [hx])) (fun x hx => hf x (by simp [hx]))
    have h1 : (lineOf f).length ≤ 1440 := by
      unfold lineOf
      have h8 := (chk_ok (hc f (by simp))).2.1
      have q1 := rowsText_len f f.length (hf f (by simp)) h8
      have q2 := Lib.itoa_length_le (f.length : Int) (by omega) (by omega)
      simp only [List.length_append, List.length_cons, List.length_nil]; omega
    simp only [List.flatMap_cons, List.length_append, List.length_cons]; omega

theorem readP_yes {ls : List (List (List Int))} (hf : FitForms ls) (h : codeW ls = 0) : readP (textOf ls) = .ok ls := by
  obtain ⟨hn, hc⟩ := codeW_zero h
  have hbl : (bodyOf ls).length ≤ 100000 := by
    unfold bodyOf bodyTo
    rw [List.take_of_length_le (Nat.le_refl _)]
    have q1 := lines_len hc hf.2
    have q2 := Lib.itoa_length_le (ls.length : Int) (by omega) (by omega)
    have q3 : headW.length = 8 := rfl
    simp only [List.length_append, List.length_cons, List.length_nil]; omega
  have hL : (textOf ls).length = (bodyOf ls).length + 21 := by rw [textOf_tail, List.length_append, tailT_len]
  have h0 : ¬ 1048576 < (textOf ls).length := by omega
  have e0 : (textOf ls).drop 0 = headW ++ (Lib.itoa ls.length ++ ([10] ++ (ls.flatMap lineOf ++ tailT (bodyOf ls)))) := by
    rw [textOf_tail, List.drop_zero]
    conv => lhs; unfold bodyOf bodyTo
    rw [List.take_of_length_le (Nat.le_refl _)]
    have e : headW ++ Lib.itoa ↑ls.length ++ [10] ++ List.flatMap lineOf ls = bodyOf ls := by unfold bodyOf bodyTo; rw [List.take_of_length_le (Nat.le_refl _)]
    rw [e, ← e]; simp
  have h1 := wordP_yes e0
  have e1 := drop_app e0
  have h2 := numP_yes' (lo := 0) (hi := 64) e1 (stop_10 _) (by omega) (by omega) (by omega) (by omega)
  have e2 := drop_app e1
  have h3 := wordP_yes e2
  have e3 := drop_app e2
  have h4 := formsP_yes (acc := []) ls hc e3
  rw [readP_4 h0 h1 h2 h3, Int.toNat_natCast, h4, List.nil_append]
  have hp : 0 + headW.length + (Lib.itoa (ls.length : Int)).length + ([10] : List UInt8).length + (ls.flatMap lineOf).length = (bodyOf ls).length := by
    unfold bodyOf bodyTo
    rw [List.take_of_length_le (Nat.le_refl _)]
    simp only [List.length_append]; omega
  rw [hp]
  unfold afterP
  have ht : tailP (textOf ls) (bodyOf ls).length = (0, 0) := by rw [textOf_tail]; exact tailP_yes
  simp only [ht, if_true]
end Go.Proofs.YtiihnoelclnahaaGreatDoor
