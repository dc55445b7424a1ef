/- Knuth's division: the plain law. -/
import Derived.Test.YtiihnoelclnahaaGreatDoorNatAway
namespace Go.Proofs.YtiihnoelclnahaaGreatDoor
open Go.RowKit
set_option linter.unusedVariables false

/-- The guess is too great: it is seen at two digits. (P = B^(n-2); V = (vt B + v2) P + vl; X = (x B + u2) P + ul; x = d vt + rest.) -/
theorem guess_high (B P vt v2 vl u2 ul d rest x V X : Nat) (hV : V = (vt * B + v2) * P + vl) (hX : X = (x * B + u2) * P + ul) (hul : ul < P) (hx : x = d * vt + rest) (h : rest * B + u2 < d * v2) : X < d * V := by
  have h1 : (x * B + u2 + 1) * P ≤ (d * (vt * B + v2)) * P := Nat.mul_le_mul_right _ (by
    rw [hx, Nat.add_mul, Nat.mul_add, Nat.mul_assoc]; omega)
  have h2 : (d * (vt * B + v2)) * P ≤ d * V := by rw [hV, Nat.mul_assoc]; exact Nat.mul_le_mul_left _ (Nat.le_add_right _ _)
  rw [Nat.add_mul, Nat.one_mul] at h1
  omega

/-- The guess is not more than one too great. -/
theorem guess_low (B P vt v2 vl u2 ul d rest x V X : Nat) (hV : V = (vt * B + v2) * P + vl) (hvl : vl < P) (hX : X = (x * B + u2) * P + ul) (hx : x = d * vt + rest) (h : d * v2 ≤ rest * B + u2) (hd : d < B) (hvt : 0 < vt) : d * V ≤ X + V := by
  have h1 : (d * (vt * B + v2)) * P ≤ (x * B + u2) * P := Nat.mul_le_mul_right _ (by
    rw [hx, Nat.add_mul, Nat.mul_add, Nat.mul_assoc]; omega)
  have h2 : d * V ≤ (d * (vt * B + v2)) * P + d * P := by
    rw [hV, Nat.mul_add, ← Nat.mul_assoc]
    exact Nat.add_le_add_left (Nat.mul_le_mul_left _ (Nat.le_of_lt hvl)) _
  have h3 : d * P ≤ B * P := Nat.mul_le_mul_right _ (Nat.le_of_lt hd)
  have h4 : B * P ≤ (vt * B + v2) * P := Nat.mul_le_mul_right _ (by
    have : 1 * B ≤ vt * B := Nat.mul_le_mul_right _ hvt
    omega)
  omega

/-- Where the first digit is at most the divisor's, a guess at or above B has a small rest. -/
theorem guess_rest (B vt d rest x : Nat) (hx : x = d * vt + rest) (hxb : x ≤ vt * B + (B - 1)) (hB : 0 < B) (hr : B ≤ rest) : d < B := by
  rcases Nat.lt_or_ge d B with h | h
  · exact h
  · have : B * vt ≤ d * vt := Nat.mul_le_mul_right _ h
    rw [Nat.mul_comm B] at this
    omega

theorem div_one_of (X V d : Nat) (hV : 0 < V) (h1 : X / V ≤ d) (h2 : d * V ≤ X + V) : d = X / V ∨ d = X / V + 1 := by
  have h3 : d ≤ (X + V) / V := (Nat.le_div_iff_mul_le hV).2 h2
  rw [Nat.add_div_right _ hV] at h3
  generalize X / V = q at *
  have : q.succ = q + 1 := rfl
  omega

theorem above_of (X V d : Nat) (h : X < d * V) : X / V ≤ d - 1 ∧ 1 ≤ d := by
  have hd : X / V < d := Nat.div_lt_of_lt_mul (by rwa [Nat.mul_comm])
  generalize X / V = q at *
  omega

/-- What the window holds behind 'away', where the guess was right. -/
theorem away_right (X V d br x' M : Nat) (h : x' + V * d = X + M * br) (hbr : br ≤ 1) (hx : x' < M) (hd : d = X / V) : br = 0 ∧ x' = X % V := by
  have h1 := Nat.div_add_mod X V
  rw [← hd] at h1
  generalize X % V = r at *
  generalize V * d = vd at *
  clear hd
  rcases Nat.eq_zero_or_pos br with h0 | h0
  · subst h0; omega
  · obtain rfl : br = 1 := by omega
    omega
/-- And where it was one too great. -/
theorem away_wrong (X V d br x' M : Nat) (hV : 0 < V) (h : x' + V * d = X + M * br) (hbr : br ≤ 1) (hx : x' < M) (hd : d = X / V + 1) : br = 1 ∧ x' + V = X % V + M := by
  have h1 := Nat.div_add_mod X V
  have h2 := Nat.mod_lt X hV
  rw [hd, Nat.mul_add, Nat.mul_one] at h
  clear hd
  generalize X % V = r at *
  generalize V * (X / V) = vd at *
  rcases Nat.eq_zero_or_pos br with h0 | h0
  · subst h0; omega
  · obtain rfl : br = 1 := by omega
    omega

/-- A list of n + 1 digits whose number is below B^n ends in a nought. -/
theorem top_zero (l : List Nat) (n : Nat) (hl : l.length = n + 1) (h : ofD l < 4294967296 ^ n) : l = l.take n ++ [0] := by
  have e := ofD_take_drop l n (by omega)
  obtain ⟨d, hd⟩ : ∃ d, l.drop n = [d] := by
    have hlen : (l.drop n).length = 1 := by rw [List.length_drop]; omega
    match h2 : l.drop n, hlen with
    | [d], _ => exact ⟨d, rfl⟩
  rw [hd] at e
  have e2 : ofD [d] = d := by simp [ofD]
  rw [e2] at e
  have hd0 : d = 0 := by
    rcases Nat.eq_zero_or_pos d with h0 | h0
    · exact h0
    · have : 4294967296 ^ n * 1 ≤ 4294967296 ^ n * d := Nat.mul_le_mul_left _ h0
      omega
  rw [← hd0, ← hd, List.take_append_drop]

/-- The quotient's digits so far. (j digits are still to be made; qs those that are.) -/
theorem long_step (U V X Rl pre qs x q r : Nat) (P Q : Nat) (hU : U = (pre + P * X) + V * (Q * qs)) (hX : X = V * q + r) (hQ : Q = P * 4294967296) : U = (pre + P * r) + V * (P * (q + 4294967296 * qs)) := by
  rw [hU, hX, hQ]
  simp only [Nat.mul_add]
  have : P * (V * q) = V * (P * q) := by rw [← Nat.mul_assoc, ← Nat.mul_assoc, Nat.mul_comm P V]
  rw [this, Nat.mul_assoc P 4294967296 qs]
  omega

/-- The two highest digits, and what is below them. -/
theorem ofD_top2 (l : List Nat) (p d1 d0 : Nat) (hl : l.length = p + 2) (h1 : l[p + 1]? = some d1) (h0 : l[p]? = some d0) : ofD l = (d1 * 4294967296 + d0) * 4294967296 ^ p + ofD (l.take p) := by
  have e := ofD_take_drop l p (by omega)
  have e0 := ofD_drop_cons l p
  have e1 := ofD_drop_cons l (p + 1)
  rw [h0, Option.getD_some] at e0
  have z1 : l.drop (p + 1 + 1) = [] := List.drop_eq_nil_of_le (by omega)
  rw [h1, Option.getD_some, z1] at e1
  rw [e1] at e0
  simp only [ofD, Nat.mul_zero, Nat.add_zero] at e0
  rw [e, e0, Nat.mul_comm (4294967296 ^ p), Nat.mul_comm 4294967296 d1, Nat.add_comm, Nat.add_comm d0]
theorem ofD_top3 (l : List Nat) (p d2 d1 d0 : Nat) (hl : l.length = p + 3) (h2 : l[p + 2]? = some d2) (h1 : l[p + 1]? = some d1) (h0 : l[p]? = some d0) :
    ofD l = ((d2 * 4294967296 + d1) * 4294967296 + d0) * 4294967296 ^ p + ofD (l.take p) := by
  have e := ofD_take_drop l p (by omega)
  have e0 := ofD_drop_cons l p
  have e1 := ofD_drop_cons l (p + 1)
  have e2 := ofD_drop_cons l (p + 2)
  rw [h0, Option.getD_some] at e0
  rw [h1, Option.getD_some] at e1
  have z1 : l.drop (p + 2 + 1) = [] := List.drop_eq_nil_of_le (by omega)
  rw [h2, Option.getD_some, z1] at e2
  rw [show p + 1 + 1 = p + 2 from rfl, e2] at e1
  rw [e1] at e0
  simp only [ofD, Nat.mul_zero, Nat.add_zero] at e0
  have e3 : d0 + 4294967296 * (d1 + 4294967296 * d2) = (d2 * 4294967296 + d1) * 4294967296 + d0 := by omega
  rw [e, e0, e3, Nat.mul_comm (4294967296 ^ p), Nat.add_comm]
theorem ofD_take_lt (l : List Nat) (p : Nat) (hl : ∀ d ∈ l, d < 4294967296) (hp : p ≤ l.length) : ofD (l.take p) < 4294967296 ^ p := by
  have := ofD_lt (l.take p) (fun d hd => hl d (List.mem_of_mem_take hd))
  rwa [List.length_take, Nat.min_eq_left hp] at this

/-- The division's two numbers of a step: the window x, of n + 1 digits, below B V. -/
structure Step (x v : List Nat) (n t1 t0 u2 vT v2 : Nat) : Prop where
  hn : 2 ≤ n
  lx : x.length = n + 1
  lv : v.length = n
  dx : ∀ d ∈ x, d < 4294967296
  dv : ∀ d ∈ v, d < 4294967296
  x1 : x[n]? = some t1
  x0 : x[n - 1]? = some t0
  x2 : x[n - 2]? = some u2
  v1 : v[n - 1]? = some vT
  v2 : v[n - 2]? = some v2
  high : 2147483648 ≤ vT
  lt : ofD x < 4294967296 * ofD v

theorem mem_lt {l : List Nat} (hl : ∀ d ∈ l, d < 4294967296) {i d : Nat} (h : l[i]? = some d) : d < 4294967296 := by
  obtain ⟨h1, rfl⟩ := List.getElem?_eq_some_iff.1 h; exact hl _ (List.getElem_mem h1)

theorem Step.X {x v : List Nat} {n t1 t0 u2 vT v2 : Nat} (h : Step x v n t1 t0 u2 vT v2) : ofD x = ((t1 * 4294967296 + t0) * 4294967296 + u2) * 4294967296 ^ (n - 2) + ofD (x.take (n - 2)) := by
  have hn := h.hn
  refine ofD_top3 x (n - 2) t1 t0 u2 (by rw [h.lx]; omega) ?_ ?_ h.x2
  · rw [show n - 2 + 2 = n by omega]; exact h.x1
  · rw [show n - 2 + 1 = n - 1 by omega]; exact h.x0
theorem Step.V {x v : List Nat} {n t1 t0 u2 vT v2 : Nat} (h : Step x v n t1 t0 u2 vT v2) : ofD v = (vT * 4294967296 + v2) * 4294967296 ^ (n - 2) + ofD (v.take (n - 2)) := by
  have hn := h.hn
  refine ofD_top2 v (n - 2) vT v2 (by rw [h.lv]; omega) ?_ h.v2
  rw [show n - 2 + 1 = n - 1 by omega]; exact h.v1
theorem Step.xl {x v : List Nat} {n t1 t0 u2 vT v2 : Nat} (h : Step x v n t1 t0 u2 vT v2) : ofD (x.take (n - 2)) < 4294967296 ^ (n - 2) := ofD_take_lt _ _ h.dx (by rw [h.lx]; omega)
theorem Step.vl {x v : List Nat} {n t1 t0 u2 vT v2 : Nat} (h : Step x v n t1 t0 u2 vT v2) : ofD (v.take (n - 2)) < 4294967296 ^ (n - 2) := ofD_take_lt _ _ h.dv (by rw [h.lv]; omega)
theorem Step.vpos {x v : List Nat} {n t1 t0 u2 vT v2 : Nat} (h : Step x v n t1 t0 u2 vT v2) : 0 < ofD v := by
  have := h.lt
  rcases Nat.eq_zero_or_pos (ofD v) with h0 | h0
  · rw [h0] at this; omega
  · exact h0
theorem top_abs (B P T u2 vT v2 xl vl X V : Nat) (hX : X = (T * B + u2) * P + xl) (hV : V = (vT * B + v2) * P + vl) (hvl : vl < P) (hv2 : v2 < B) (hlt : X < B * V) : T < (vT + 1) * B := by
  rcases Nat.lt_or_ge T ((vT + 1) * B) with hc | hc
  · exact hc
  · exfalso
    have h1 : (vT + 1) * B * B * P ≤ T * B * P := Nat.mul_le_mul_right _ (Nat.mul_le_mul_right _ hc)
    have h2 : T * B * P ≤ X := by
      rw [hX]; exact Nat.le_trans (Nat.mul_le_mul_right _ (Nat.le_add_right _ _)) (Nat.le_add_right _ _)
    have h3 : (vT * B + v2 + 1) * P ≤ (vT + 1) * B * P := Nat.mul_le_mul_right _ (by rw [Nat.add_mul]; omega)
    have h4 : V ≤ (vT + 1) * B * P := by rw [Nat.add_mul _ 1, Nat.one_mul] at h3; omega
    have h5 : B * V ≤ B * ((vT + 1) * B * P) := Nat.mul_le_mul_left _ h4
    have h6 : B * ((vT + 1) * B * P) = (vT + 1) * B * B * P := by rw [Nat.mul_comm B, Nat.mul_assoc _ P B, Nat.mul_comm P B, ← Nat.mul_assoc]
    omega
theorem first_abs (B P T u2 vT v2 xl vl X V q : Nat) (hX : X = (T * B + u2) * P + xl) (hV : V = (vT * B + v2) * P + vl) (hxl : xl < P) (hu2 : u2 < B) (hq : q * V ≤ X) : q * vT ≤ T := by
  rcases Nat.lt_or_ge T (q * vT) with hc | hc
  · exfalso
    have h1 : q * (vT * B * P) ≤ q * V := by
      rw [hV]; exact Nat.mul_le_mul_left _ (Nat.le_trans (Nat.mul_le_mul_right _ (Nat.le_add_right _ _)) (Nat.le_add_right _ _))
    have h2 : (T + 1) * B * P ≤ q * vT * B * P := Nat.mul_le_mul_right _ (Nat.mul_le_mul_right _ hc)
    have h3 : q * vT * B * P = q * (vT * B * P) := by rw [Nat.mul_assoc q, Nat.mul_assoc q]
    have h4 : (T * B + u2 + 1) * P ≤ (T + 1) * B * P := Nat.mul_le_mul_right _ (by rw [Nat.add_mul]; omega)
    rw [Nat.add_mul _ 1, Nat.one_mul] at h4
    omega
  · exact hc

/-- The window's two highest digits are at most the divisor's highest, and one digit. -/
theorem Step.top {x v : List Nat} {n t1 t0 u2 vT v2 : Nat} (h : Step x v n t1 t0 u2 vT v2) : t1 * 4294967296 + t0 < (vT + 1) * 4294967296 :=
  top_abs 4294967296 (4294967296 ^ (n - 2)) _ u2 vT v2 (ofD (x.take (n - 2))) (ofD (v.take (n - 2))) (ofD x) (ofD v) h.X h.V h.vl (mem_lt h.dv h.v2) h.lt

theorem quot_small (T vT B : Nat) (h : T < (vT + 1) * B) (hv : B ≤ 2 * vT) : T / vT ≤ B + 1 := by
  rcases Nat.eq_zero_or_pos vT with h0 | h0
  · subst h0; simp
  · refine Nat.le_of_lt_succ (Nat.div_lt_of_lt_mul ?_)
    have e : vT * (B + 1 + 1) = vT * B + (vT + vT) := by rw [Nat.mul_add, Nat.mul_add]; omega
    rw [Nat.add_mul] at h
    show T < vT * (B + 1 + 1)
    omega

/-- What holds of a guess and its rest. -/
structure Guess (x v : List Nat) (T vT d rest : Nat) : Prop where
  eq : T = d * vT + rest
  rest : rest < 4294967296
  ge : ofD x / ofD v ≤ d
  le : d ≤ 4294967297

theorem Step.first {x v : List Nat} {n t1 t0 u2 vT v2 : Nat} (h : Step x v n t1 t0 u2 vT v2) : Guess x v (t1 * 4294967296 + t0) vT ((t1 * 4294967296 + t0) / vT) ((t1 * 4294967296 + t0) % vT) := by
  have hv := h.high
  have htop := h.top
  have hvT := mem_lt h.dv h.v1
  have hq := first_abs 4294967296 (4294967296 ^ (n - 2)) (t1 * 4294967296 + t0) u2 vT v2 (ofD (x.take (n - 2))) (ofD (v.take (n - 2))) (ofD x) (ofD v) (ofD x / ofD v) h.X h.V h.xl (mem_lt h.dx h.x2) (Nat.div_mul_le_self _ _)
  refine ⟨?_, Nat.lt_trans (Nat.mod_lt _ (by omega)) hvT, (Nat.le_div_iff_mul_le (by omega)).2 hq, quot_small _ _ _ htop (by omega)⟩
  rw [Nat.mul_comm _ vT]; exact (Nat.div_add_mod _ _).symm

theorem Guess.q_lt {x v : List Nat} {n t1 t0 u2 vT v2 : Nat} (h : Step x v n t1 t0 u2 vT v2) : ofD x / ofD v < 4294967296 := Nat.div_lt_of_lt_mul (by have := h.lt; rwa [Nat.mul_comm (ofD v)])

/-- A guess that is seen to be too great goes down by one. -/
theorem Guess.down {x v : List Nat} {n t1 t0 u2 vT v2 d rest : Nat} (h : Step x v n t1 t0 u2 vT v2) (g : Guess x v (t1 * 4294967296 + t0) vT d rest) (hc : 4294967296 ≤ d ∨ rest * 4294967296 + u2 < d * v2) :
    1 ≤ d ∧ ofD x / ofD v ≤ d - 1 ∧ t1 * 4294967296 + t0 = (d - 1) * vT + (rest + vT) := by
  have hd : 1 ≤ d ∧ ofD x / ofD v ≤ d - 1 := by
    rcases hc with hc | hc
    · have := Guess.q_lt h; omega
    · have := above_of (ofD x) (ofD v) d (guess_high 4294967296 (4294967296 ^ (n - 2)) vT v2 (ofD (v.take (n - 2))) u2 (ofD (x.take (n - 2))) d rest (t1 * 4294967296 + t0) (ofD v) (ofD x) h.V h.X h.xl g.eq hc)
      exact ⟨this.2, this.1⟩
  refine ⟨hd.1, hd.2, ?_⟩
  rw [g.eq]
  obtain ⟨e, rfl⟩ : ∃ e, d = e + 1 := ⟨d - 1, by omega⟩
  rw [Nat.add_sub_cancel, Nat.add_mul]; omega

/-- Where the guess is not seen to be too great it is right, or one too great. -/
theorem Guess.done {x v : List Nat} {n t1 t0 u2 vT v2 d rest : Nat} (h : Step x v n t1 t0 u2 vT v2) (e : t1 * 4294967296 + t0 = d * vT + rest) (hge : ofD x / ofD v ≤ d) (hc : d < 4294967296 ∧ d * v2 ≤ rest * 4294967296 + u2) :
    d < 4294967296 ∧ (d = ofD x / ofD v ∨ d = ofD x / ofD v + 1) :=
  ⟨hc.1, div_one_of _ _ _ h.vpos hge (guess_low 4294967296 (4294967296 ^ (n - 2)) vT v2 (ofD (v.take (n - 2))) u2 (ofD (x.take (n - 2))) d rest (t1 * 4294967296 + t0) (ofD v) (ofD x) h.V h.vl h.X e hc.2 hc.1 (by have := h.high; omega))⟩

theorem Guess.left {x v : List Nat} {n t1 t0 u2 vT v2 d rest : Nat} (h : Step x v n t1 t0 u2 vT v2) (e : t1 * 4294967296 + t0 = d * vT + rest) (hge : ofD x / ofD v ≤ d) (hr : 4294967296 ≤ rest) :
    d < 4294967296 ∧ (d = ofD x / ofD v ∨ d = ofD x / ofD v + 1) := by
  have hd := guess_rest 4294967296 vT d rest _ e (by have := h.top; rw [Nat.add_mul] at this; omega) (by omega) hr
  refine Guess.done h e hge ⟨hd, ?_⟩
  have h1 := mem_lt h.dv h.v2
  have h2 : d * v2 ≤ 4294967295 * 4294967295 := Nat.mul_le_mul (by omega) (by omega)
  omega

/-- The loop's state: j digits are still to be made. -/
structure LongInv (gu go n m sh : Nat) (pu pv : List Nat) (wr : World) (j : Nat) (r qs : List Nat) : Prop where
  lr : r.length = n
  dr : ∀ d ∈ r, d < 4294967296
  lq : qs.length + j = m
  dq : ∀ d ∈ qs, d < 4294967296
  ru : Row wr 145 gu (pu.take j ++ (r ++ List.replicate (m - j) 0))
  ro : Row wr 145 go (List.replicate j 0 ++ qs)
  val : ofD (pu.drop j) = ofD pv * ofD qs + ofD r
  lt : ofD r < ofD pv

theorem LongInv.row {gu go n m sh j u0 : Nat} {pu pv r qs : List Nat} {wr : World} (h : LongInv gu go n m sh pu pv wr (j + 1) r qs) (h0 : pu[j]? = some u0) :
    Row wr 145 gu (pu.take j ++ ((u0 :: r) ++ List.replicate (m - (j + 1)) 0)) := by
  have := h.ru
  obtain ⟨h1, rfl⟩ := List.getElem?_eq_some_iff.1 h0
  rwa [List.take_succ_eq_append_getElem h1, List.append_assoc, List.singleton_append, ← List.cons_append] at this

theorem LongInv.next {gu go n m sh j u0 : Nat} {pu pv r qs x' : List Nat} {wr w1 : World} (h : LongInv gu go n m sh pu pv wr (j + 1) r qs) (h0 : pu[j]? = some u0) (lx : x'.length = n + 1) (dx : ∀ d ∈ x', d < 4294967296)
    (hv : ofD x' = ofD (u0 :: r) % ofD pv) (hVn : ofD pv < 4294967296 ^ n) (hq : ofD (u0 :: r) / ofD pv < 4294967296)
    (hru : Row w1 145 gu (pu.take j ++ (x' ++ List.replicate (m - (j + 1)) 0))) (hro : Row w1 145 go ((List.replicate (j + 1) 0 ++ qs).set j (ofD (u0 :: r) / ofD pv))) :
    LongInv gu go n m sh pu pv w1 j (x'.take n) ((ofD (u0 :: r) / ofD pv) :: qs) := by
  have hpos : 0 < ofD pv := by have := h.lt; omega
  have hlt : ofD x' < ofD pv := by rw [hv]; exact Nat.mod_lt _ hpos
  have htop := top_zero x' n lx (Nat.lt_trans hlt hVn)
  have hjm : j + 1 ≤ m := by have := h.lq; omega
  have hval : ofD (x'.take n) = ofD x' := by
    have e := ofD_append (x'.take n) [0]
    rw [← htop] at e
    rw [e]; simp [ofD]
  refine ⟨by rw [List.length_take, lx]; omega, fun d hd => dx d (List.mem_of_mem_take hd), by have := h.lq; simp only [List.length_cons]; omega, ?_, ?_, ?_, ?_, by rw [hval]; exact hlt⟩
  · intro d hd
    rcases List.mem_cons.1 hd with rfl | hd
    · exact hq
    · exact h.dq d hd
  · have e : x'.take n ++ List.replicate (m - j) 0 = x' ++ List.replicate (m - (j + 1)) 0 := by
      conv => rhs; rw [htop]
      rw [List.append_assoc, List.singleton_append, ← List.replicate_succ, show m - (j + 1) + 1 = m - j by omega]
    rw [e]; exact hru
  · have e : (List.replicate (j + 1) 0 ++ qs).set j (ofD (u0 :: r) / ofD pv) = List.replicate j 0 ++ (ofD (u0 :: r) / ofD pv :: qs) := by
      rw [List.replicate_succ', List.append_assoc, List.set_append_right _ _ (by simp), List.length_replicate, Nat.sub_self]; rfl
    rwa [e] at hro
  · rw [hval, hv, ofD_drop_cons, h0, Option.getD_some, h.val]
    have hx : ofD (u0 :: r) = u0 + 4294967296 * ofD r := rfl
    have hd := Nat.div_add_mod (ofD (u0 :: r)) (ofD pv)
    generalize ofD (u0 :: r) / ofD pv = q at *
    generalize ofD (u0 :: r) % ofD pv = rr at *
    show _ = ofD pv * (q + 4294967296 * ofD qs) + rr
    have e1 : ofD pv * (q + 4294967296 * ofD qs) = ofD pv * q + 4294967296 * (ofD pv * ofD qs) := by rw [Nat.mul_add, Nat.mul_left_comm]
    rw [e1, Nat.mul_add]
    omega

theorem LongInv.xlt {gu go n m sh j u0 : Nat} {pu pv r qs : List Nat} {wr : World} (h : LongInv gu go n m sh pu pv wr (j + 1) r qs) (hu : u0 < 4294967296) : ofD (u0 :: r) < 4294967296 * ofD pv := by
  have h1 : 4294967296 * (ofD r + 1) ≤ 4294967296 * ofD pv := Nat.mul_le_mul_left _ h.lt
  show u0 + 4294967296 * ofD r < _
  omega

/-- What the normalised numbers are worth. -/
theorem norm_fit (b n vt : Nat) (hn : n = (digs b).length) (hn1 : 1 ≤ n) (hvt : (digs b)[n - 1]? = some vt) : bitsN vt ≤ 32 ∧ 1 ≤ bitsN vt ∧ b * 2 ^ (32 - bitsN vt) < 4294967296 ^ n ∧ 4294967296 ^ n ≤ 2 * (b * 2 ^ (32 - bitsN vt)) := by
  obtain ⟨n', hn'⟩ : ∃ n', n = n' := ⟨n, rfl⟩
  have hn2 : n' = n := hn'.symm
  subst hn
  have hb : b ≠ 0 := by rintro rfl; rw [digs_zero] at hn1; simp at hn1
  obtain ⟨h1, h2⟩ := List.getElem?_eq_some_iff.1 hvt
  have hd := digs_lt b vt (by rw [← h2]; exact List.getElem_mem h1)
  have hbd := bits_digs b hb (by omega)
  rw [h2] at hbd
  have hle := (bitsN_le vt 32).2 (by omega)
  have hne : digs b ≠ [] := by intro e; rw [e] at hn1; simp at hn1
  have hv0 : vt ≠ 0 := by have := digs_last b hne; rw [List.getLast_eq_getElem, h2] at this; exact this
  have hpos := bitsN_pos hv0
  have u := (bitsN_le b (bitsN b)).1 (Nat.le_refl _)
  have l : 2 ^ (bitsN b - 1) ≤ b := by
    rcases Nat.lt_or_ge b (2 ^ (bitsN b - 1)) with h | h
    · have := (bitsN_le b (bitsN b - 1)).2 h; omega
    · exact h
  clear h2 hvt hne
  rw [← hn2] at *
  clear hn2 h1
  generalize n' = n at *
  have hB : (4294967296 : Nat) ^ n = 2 ^ (32 * n) := by rw [Nat.pow_mul]
  refine ⟨hle, hpos, ?_, ?_⟩
  · rw [hB, show 32 * n = bitsN b + (32 - bitsN vt) by omega, Nat.pow_add]
    exact Nat.mul_lt_mul_of_pos_right u (Nat.two_pow_pos _)
  · rw [hB, show 32 * n = 1 + ((bitsN b - 1) + (32 - bitsN vt)) by omega, Nat.pow_add, Nat.pow_add, Nat.pow_one]
    exact Nat.mul_le_mul_left _ (Nat.mul_le_mul_right _ l)

theorem high_of (v : List Nat) (n vT : Nat) (hl : v.length = n) (hn : 1 ≤ n) (hv : v[n - 1]? = some vT) (hd : ∀ d ∈ v, d < 4294967296) (h : 4294967296 ^ n ≤ 2 * ofD v) : 2147483648 ≤ vT := by
  have e := ofD_take_succ' v (n - 1)
  rw [show n - 1 + 1 = n by omega, List.take_of_length_le (by omega), hv, Option.getD_some] at e
  have hlt := ofD_take_lt v (n - 1) hd (by omega)
  have hB : (4294967296 : Nat) ^ n = 4294967296 * 4294967296 ^ (n - 1) := by
    obtain ⟨k, rfl⟩ : ∃ k, n = k + 1 := ⟨n - 1, by omega⟩
    rw [Nat.add_sub_cancel, Nat.pow_succ, Nat.mul_comm]
  rw [hB, e] at h
  generalize 4294967296 ^ (n - 1) = P at *
  generalize ofD (v.take (n - 1)) = t at *
  rcases Nat.lt_or_ge vT 2147483648 with h2 | h2
  · exfalso
    have h3 : P * (vT + 1) ≤ P * 2147483648 := Nat.mul_le_mul_left _ h2
    rw [Nat.mul_add] at h3
    omega
  · exact h2

/-- The loop's beginning. -/
theorem long_start (gu go n m sh k a : Nat) (pu pv : List Nat) (wr : World) (hk : k + 1 = m + n) (hn : 1 ≤ n) (hs : sh < 32) (ha : a < 4294967296 ^ k) (lu : pu.length = k + 1) (du : ∀ d ∈ pu, d < 4294967296)
    (hu : ofD pu = a * 2 ^ sh) (hV : 4294967296 ^ n ≤ 2 * ofD pv) (hru : Row wr 145 gu pu) (hro : Row wr 145 go (List.replicate m 0)) : LongInv gu go n m sh pu pv wr m (pu.drop m) [] := by
  refine ⟨by rw [List.length_drop]; omega, fun d hd => du d (List.mem_of_mem_drop hd), by simp, by simp, ?_, by simpa using hro, by simp [ofD], ?_⟩
  · rw [Nat.sub_self, List.replicate_zero, List.append_nil, List.take_append_drop]; exact hru
  · rw [← ofD_drop_div pu m du, hu]
    refine Nat.div_lt_of_lt_mul ?_
    have h1 : a * 2 ^ sh < 4294967296 ^ k * 2 ^ sh := Nat.mul_lt_mul_of_pos_right ha (Nat.two_pow_pos _)
    have h2 : 4294967296 ^ k * 2 ^ sh ≤ 4294967296 ^ k * 2147483648 := Nat.mul_le_mul_left _ (by
      have : 2 ^ sh ≤ 2 ^ 31 := Nat.pow_le_pow_right (by omega) (by omega)
      omega)
    have h3 : 4294967296 ^ m * 4294967296 ^ n = 4294967296 ^ k * 4294967296 := by rw [← Nat.pow_add, ← hk, Nat.pow_succ]
    have h4 : 4294967296 ^ m * 4294967296 ^ n ≤ 4294967296 ^ m * (2 * ofD pv) := Nat.mul_le_mul_left _ hV
    have h5 : 4294967296 ^ m * (2 * ofD pv) = 2 * (4294967296 ^ m * ofD pv) := by rw [Nat.mul_left_comm]
    omega

/-- The loop's end. -/
theorem long_end (gu go n m sh a b : Nat) (pu pv r qs : List Nat) (wr : World) (h : LongInv gu go n m sh pu pv wr 0 r qs) (hu : ofD pu = a * 2 ^ sh) (hv : ofD pv = b * 2 ^ sh) (hb : 0 < b) :
    ofD qs = a / b ∧ ofD (r ++ List.replicate m 0) / 2 ^ sh = a % b := by
  have hval := h.val
  rw [List.drop_zero, hu, hv] at hval
  have hlt := h.lt
  rw [hv] at hlt
  have e0 : ofD (r ++ List.replicate m 0) = ofD r := by rw [ofD_append, ofD_replicate_zero, Nat.mul_zero, Nat.add_zero]
  rw [e0]
  have h1 : a * 2 ^ sh / 2 ^ sh = (b * 2 ^ sh * ofD qs + ofD r) / 2 ^ sh := by rw [hval]
  rw [Nat.mul_div_cancel _ (Nat.two_pow_pos sh), show b * 2 ^ sh * ofD qs = 2 ^ sh * (b * ofD qs) by rw [Nat.mul_comm b, Nat.mul_assoc], Nat.mul_add_div (Nat.two_pow_pos sh)] at h1
  have h2 : ofD r / 2 ^ sh < b := Nat.div_lt_of_lt_mul (by rwa [Nat.mul_comm])
  generalize ofD r / 2 ^ sh = rr at *
  generalize ofD qs = q at *
  subst h1
  rw [Nat.mul_add_div hb, Nat.div_eq_of_lt h2, Nat.add_zero, Nat.mul_add_mod, Nat.mod_eq_of_lt h2]
  exact ⟨rfl, rfl⟩
end Go.Proofs.YtiihnoelclnahaaGreatDoor
