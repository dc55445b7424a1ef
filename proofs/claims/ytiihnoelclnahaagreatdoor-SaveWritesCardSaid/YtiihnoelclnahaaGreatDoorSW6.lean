/- YtiihnoelclnahaaGreatDoorSW6: what is proved here stands in the theorems' own rows. -/
import Derived.Test.YtiihnoelclnahaaGreatDoorSW5
import Derived.Lib.ParseIntB
import Derived.WalkLawsBesides
import Derived.Defers
import Derived.Deep.QuietTactic
import Derived.BigQuiet
import Derived.Recover
import Derived.Deep.DeepCutAuto
import Derived.Deep.CutBlock
import Derived.Deep.RegionWith
import Derived.Deep.RegionHeld3
import Derived.Laws.Pointers
import Derived.Laws.OwnMore
import Derived.Laws.EntriesVeiled
import Derived.IntWalk
import Derived.LaidEql
import Derived.Stop.Asserts
import Derived.RowKitTokens
import Derived.WalkKit
import Derived.ProofKit
import Derived.OpenShut
import Derived.Deep.Matrix
import Derived.SizedLaws
import Derived.Test.YtiihnoelclnahaaGreatDoorCards
import Derived.Test.YtiihnoelclnahaaGreatDoorTie
import Derived.Deep.DeepHandedRow
import Derived.Deep.DeepWitnessRowRef
import Derived.Lib.LaidTab
import Derived.Lib.LaidU8
import Derived.LaidHandle
import Derived.LaidLaws
import Derived.Below
import Derived.ChangeSame
import Derived.ChangeMaps5
import Derived.Test.YtiihnoelclnahaaGreatDoorSW1
import Derived.Test.YtiihnoelclnahaaGreatDoorSW2
import Derived.Test.YtiihnoelclnahaaGreatDoorSW3
import Derived.Test.YtiihnoelclnahaaGreatDoorSW4
namespace Go.Proofs.YtiihnoelclnahaaGreatDoor
open Go.RowKit Go.Proofs.YtiihnoelclnahaaGreatDoorW.PrintWords Go.Proofs.YtiihnoelclnahaaGreatDoor.Ref
set_option linter.unusedVariables false
set_option linter.unusedSimpArgs false
theorem str_of {s : ByteArray} {l : List UInt8} (h : s.data.toList = l) : s = ⟨l.toArray⟩ := by subst h; simp
theorem str_app (s t : ByteArray) : (s ++ t).data.toList = s.data.toList ++ t.data.toList := by simp
theorem str_size {s : ByteArray} {l : List UInt8} (h : s.data.toList = l) : s.size = l.length := by subst h; rfl
set_option maxHeartbeats 2000000 in
set_option maxRecDepth 100000 in
theorem rLine_any (A : Option Addr) (n c : Nat) (rows : List (List Int)) (w : World) (hn : n = rows.length) (hn8 : n ≤ 8) (hsq : ∀ l ∈ rows, l.length = n) (hr : IsRows w A rows) (hf : Fit64 rows) (hv : Vars w) :
    Calls Tryz.prog 19 #[.slice A n c] w fun e w' => e = .returned (.string ⟨(lineOf rows).toArray⟩) ∧ Ext w w' := by
  have HN := Lib.hid hn
  have HSq := Lib.hid hsq
  have HR := Lib.hid hr
  have HF := Lib.hid hf
  have HV := Lib.hid hv
  have hi0 := Lib.itoa_length_le (n : Int) (by omega) (by omega)
  have HIt := Lib.hid (Itoa_any (n : Int) w (by omega) (by omega) hv)
  obtain ⟨t, ht⟩ : ∃ t : ByteArray, ⟨(Lib.itoa (n : Int)).toArray⟩ = t := ⟨_, rfl⟩
  rw [ht] at HIt
  have htl : t.data.toList = Lib.itoa (n : Int) := by rw [← ht]
  have hts : t.size ≤ 30 := by rw [str_size htl]; omega
  have HT := Lib.hid htl
  clear hn hsq hr hf hv ht htl hi0
  go_enter Tryz.func19, Tryz.ntmps19
  go_wp2_with fail
  refine HIt.out.mono ?_
  rintro e w1 ⟨rfl, hx⟩
  have HX1 := Lib.hid hx
  clear hx HIt
  go_wp2
  go_loopg [3, 4] n (fun kk sv iv wr => ∃ (i : Nat) (s : ByteArray), kk + i = n ∧ iv = .int .i64 i ∧ sv = .string s ∧ s.size ≤ 30 + 200 * i ∧ Hid (s.data.toList = Lib.itoa (n : Int) ++ rowsText rows i) ∧ Hid (Ext w wr))
  case atStart => exact ⟨0, t, by omega, rfl, rfl, by omega, by unfold Hid; rw [HT.out]; simp [rowsText], HX1⟩
  case round =>
    obtain ⟨i, s, hki, rfl, rfl, hsz, HS, HX⟩ := hrel
    by_cases hin : i < n
    · obtain ⟨l, hl⟩ : ∃ l, rows[i]? = some l := ⟨_, List.getElem?_eq_getElem (by have := HN.out; omega)⟩
      have hll : l.length = n := by obtain ⟨h1, rfl⟩ := List.getElem?_eq_some_iff.1 hl; exact HSq.out _ (List.getElem_mem h1)
      have HL := Lib.hid hl
      have HLL := Lib.hid hll
      clear hl hll
      go_wp2
      go_loopg [3, 5] (i + 1) (fun kk sv kv wi => ∃ (k : Nat) (s : ByteArray), kk + k = i + 1 ∧ kv = .int .i64 k ∧ sv = .string s ∧ s.size ≤ 30 + 200 * i + 23 * k ∧ Hid (s.data.toList = Lib.itoa (n : Int) ++ rowsText rows i ++ rowText l k) ∧ Hid (Ext w wi))
      case atStart => exact ⟨0, s, by omega, rfl, rfl, by omega, by unfold Hid; rw [HS.out]; simp [rowText], HX⟩
      case round =>
        clear hsz HS HX s
        obtain ⟨k, s, hkk, rfl, rfl, hsz, HS, HX⟩ := hrel
        by_cases hki2 : k ≤ i
        · obtain ⟨b, off, R, c', rfl, hb, h1, h2, h3⟩ := (HR.out.ext HX.out).at_ HL.out
          obtain ⟨z, hz⟩ : ∃ z, l[k]? = some z := ⟨_, List.getElem?_eq_getElem (by have := HLL.out; omega)⟩
          obtain ⟨b2, off2, rfl, hb2, h4⟩ := h3.at_ hz
          obtain ⟨z0, z1⟩ := HF.out.at_ HL.out hz
          rw [HLL.out] at h1 h2
          have HFI := Lib.hid (fun W (hx : Ext w W) => FormatInt_any z W z0 z1 (HV.out.ext hx))
          have hi2 := Lib.itoa_length_le z z0 z1
          obtain ⟨q, hq⟩ : ∃ q : ByteArray, ⟨(Lib.itoa z).toArray⟩ = q := ⟨_, rfl⟩
          rw [hq] at HFI
          have hql : q.data.toList = Lib.itoa z := by rw [← hq]
          have hqs : q.size ≤ 21 := by rw [str_size hql]; omega
          have HQ := Lib.hid hql
          have HRt := Lib.hid (rowText_succ l k z hz)
          have hkn : k < n := by omega
          clear hz h3 hi2 hq hql z0 z1
          go_wp2_with fail
          refine (HFI.out _ HX.out).mono ?_
          rintro e w2 ⟨rfl, hx⟩
          have HX2 := Lib.hid (HX.out.trans hx)
          have HS2 : Hid ((s ++ ⟨#[32]⟩ ++ q).data.toList = Lib.itoa (n : Int) ++ rowsText rows i ++ rowText l (k + 1)) := by
            unfold Hid
            rw [str_app, str_app, HS.out, HQ.out, HRt.out]
            simp
          have hsz2 : (s ++ ⟨#[32]⟩ ++ q).size ≤ 30 + 200 * i + 23 * (k + 1) := by
            rw [ByteArray.size_append, ByteArray.size_append]
            show s.size + 1 + q.size ≤ _
            omega
          have HSZ := Lib.hid hsz2
          clear hx HX HS HQ HRt hsz2 HFI
          go_wp2
          go_roundg (i - k)
          case measure => omega
          case rel => exact ⟨k + 1, _, by omega, by go_num, rfl, HSZ.out, HS2, HX2⟩
        · obtain rfl : k = i + 1 := by omega
          have HS2 : Hid (s.data.toList = Lib.itoa (n : Int) ++ rowsText rows (i + 1)) := by
            unfold Hid
            rw [HS.out, rowsText_succ rows i l HL.out, List.append_assoc]
          clear HS
          go_wp2
          go_roundg (n - (i + 1))
          case measure => omega
          case rel => exact ⟨i + 1, s, by omega, by go_num, rfl, by omega, HS2, HX⟩
    · obtain rfl : n = i := by omega
      have HE : Hid (s ++ ⟨#[10]⟩ = (⟨(lineOf rows).toArray⟩ : ByteArray)) := by
        refine str_of ?_
        rw [str_app, HS.out]
        unfold lineOf
        rw [← HN.out]
      clear HS
      go_wp2
      go_ret
      rw [← HE.out]
      exact ⟨rfl, HX.out⟩
theorem rWrite_many (A : Option Addr) (n c : Nat) (w : World) (hn : 64 < n) (hm : n ≤ 140737488351232) :
    Calls Tryz.prog 7 #[.slice A n c] w fun e w' => e = .returned (.tuple #[.string ⟨#[]⟩, .int .i64 9]) ∧ Ext w w' := by
  have d1 : decide ((64 : Int) < n) = true := by simp; omega
  go_enter Tryz.func7, Tryz.ntmps7
  go_wp2
  go_ret2
  exact ⟨rfl, Ext.refl w⟩
set_option maxHeartbeats 4000000 in
set_option maxRecDepth 100000 in
theorem rWrite_rest (A : Option Addr) (n c : Nat) (ls : List (List (List Int))) (w : World) (hn : n = ls.length) (hn64 : n ≤ 64) (hr : IsForms w A ls) (hf : FitForms ls) (hv : Vars w) :
    Calls Tryz.prog 7 #[.slice A n c] w fun e w' => e = .returned (.tuple #[.string ⟨(textW ls).toArray⟩, .int .i64 (codeW ls)]) ∧ Ext w w' := by
  have d1 : decide ((64 : Int) < n) = false := by simp; omega
  have HN := Lib.hid hn
  have HR := Lib.hid hr
  have HF := Lib.hid hf
  have HV := Lib.hid hv
  have hi0 := Lib.itoa_length_le (n : Int) (by omega) (by omega)
  have HIt := Lib.hid (Itoa_any (n : Int) w (by omega) (by omega) hv)
  obtain ⟨t, ht⟩ : ∃ t : ByteArray, ⟨(Lib.itoa (n : Int)).toArray⟩ = t := ⟨_, rfl⟩
  rw [ht] at HIt
  have htl : t.data.toList = Lib.itoa (n : Int) := by rw [← ht]
  have hts : t.size ≤ 30 := by rw [str_size htl]; omega
  have HT := Lib.hid htl
  clear hn hr hf hv ht htl hi0
  go_enter Tryz.func7, Tryz.ntmps7
  go_wp2_with fail
  refine HIt.out.mono ?_
  rintro e w1 ⟨rfl, hx⟩
  have HX1 := Lib.hid hx
  have HS0 : Hid (((⟨#[112, 97, 114, 113, 117, 101, 116, 32]⟩ : ByteArray) ++ t ++ ⟨#[10]⟩).data.toList = bodyTo ls 0) := by
    unfold Hid
    rw [str_app, str_app, HT.out]
    unfold bodyTo headW
    rw [← HN.out]; simp
  clear hx HIt
  go_wp2
  go_loopg [4, 5] n (fun kk sv iv wr => ∃ (i : Nat) (s : ByteArray), kk + i = n ∧ iv = .int .i64 i ∧ sv = .string s ∧ s.size ≤ 200000 ∧ Hid (s.data.toList = bodyTo ls i) ∧ Hid (∀ (j : Nat) (rows : List (List Int)), j < i → ls[j]? = some rows → chk rows = 0) ∧ Hid (Ext w wr))
  case atStart => exact ⟨0, _, by omega, rfl, rfl, by rw [str_size HS0.out]; exact Nat.le_trans (bodyTo_len ls 0 HF.out (fun j rows h => by omega)) (by omega), HS0, fun j rows h => by omega, HX1⟩
  case round =>
    clear HS0 HX1
    obtain ⟨i, s, hki, rfl, rfl, hsz, HS, HG, HX⟩ := hrel
    by_cases hin : i < n
    · obtain ⟨rows, hl⟩ : ∃ rows, ls[i]? = some rows := ⟨_, List.getElem?_eq_getElem (by have := HN.out; omega)⟩
      have hfr : Fit64 rows := by obtain ⟨h1, rfl⟩ := List.getElem?_eq_some_iff.1 hl; exact HF.out.2 _ (List.getElem_mem h1)
      obtain ⟨b, off, R, c', rfl, hb, h1, h2, h3⟩ := (HR.out.ext HX.out).at_ hl
      have HL := Lib.hid hl
      obtain ⟨m, hm⟩ : ∃ m, rows.length = m := ⟨_, rfl⟩
      rw [hm] at h1 h2
      have HC := Lib.hid (rcheck_any R m c' rows wr hm.symm h2 h3 hfr)
      have HM := Lib.hid hm
      have HRo := Lib.hid h3
      have HFr := Lib.hid hfr
      have hm0 : m ≤ 140737488351232 := by rw [← hm]; exact hfr.1
      clear hl hfr h3 hm
      by_cases hc : chk rows = 0
      · obtain ⟨k1, k2, k3, _, _, _⟩ := chk_ok hc
        rw [HM.out] at k1 k2
        have HK3 := Lib.hid (show ∀ l ∈ rows, l.length = m from fun l hl => by rw [k3 l hl, HM.out])
        have HLi := Lib.hid (fun W (hx : Ext wr W) => rLine_any R m c' rows W HM.out.symm k2 HK3.out (HRo.out.ext hx) HFr.out (HV.out.ext (HX.out.trans hx)))
        obtain ⟨q, hq⟩ : ∃ q : ByteArray, ⟨(lineOf rows).toArray⟩ = q := ⟨_, rfl⟩
        rw [hq] at HLi
        have hql : q.data.toList = lineOf rows := by rw [← hq]
        have hqs : q.size ≤ 1500 := by rw [str_size hql]; exact Nat.le_trans (line_len rows HFr.out (by rw [HM.out]; exact k2)) (by omega)
        have HQ := Lib.hid hql
        have HC0 := Lib.hid hc
        have HG2 : Hid (∀ (j : Nat) (r : List (List Int)), j < i + 1 → ls[j]? = some r → chk r = 0) := fun j r hj hr => by
          rcases Nat.lt_or_ge j i with h | h
          · exact HG.out j r h hr
          · obtain rfl : j = i := by omega
            have e : r = rows := by have := HL.out; rw [hr] at this; exact Option.some.inj this
            rw [e]; exact HC0.out
        rw [hc] at HC
        clear hc k1 k2 k3 hq hql HG
        go_wp2_with fail
        refine HC.out.mono ?_
        rintro e w2 ⟨rfl, hx⟩
        replace h1 := hx.cell h1
        have HX2 := Lib.hid (HX.out.trans hx)
        have HLi2 := Lib.hid (HLi.out _ hx)
        have hb2 : b < w2.heap.size := lt_of_cell h1
        clear hx HX HLi HC hb
        go_wp2_with fail
        refine HLi2.out.mono ?_
        rintro e w3 ⟨rfl, hx⟩
        have HX3 := Lib.hid (HX2.out.trans hx)
        have HS2 : Hid ((s ++ q).data.toList = bodyTo ls (i + 1)) := by
          unfold Hid
          rw [str_app, HS.out, HQ.out, bodyTo_succ ls i rows HL.out]
        have hsz2 : (s ++ q).size ≤ 200000 := by
          rw [str_size HS2.out]
          exact Nat.le_trans (bodyTo_len ls (i + 1) HF.out (fun j r hj hr => HG2.out j r hj hr)) (by omega)
        have HSZ := Lib.hid hsz2
        clear hx HX2 HS HQ hsz2 HLi2
        go_wp2
        go_roundg (n - (i + 1))
        case measure => omega
        case rel => exact ⟨i + 1, _, by omega, by go_num, rfl, HSZ.out, HS2, HG2, HX3⟩
      · have HB : Hid (codeW ls = chk rows ∧ textW ls = []) := by
          have e : codeW ls = chk rows := by
            unfold codeW
            rw [if_neg (by have := HN.out; omega)]
            exact firstBad_at HL.out (fun j r hj hr => HG.out j r hj hr) hc
          exact ⟨e, by unfold textW; rw [e, if_neg hc]⟩
        obtain ⟨q, hq⟩ : ∃ q, chk rows = q := ⟨_, rfl⟩
        rw [hq] at HC HB hc
        have hb1 : (q != 0) = true := by rw [bne_iff_ne]; exact hc
        clear hq hc
        go_wp2_with fail
        refine HC.out.mono ?_
        rintro e w2 ⟨rfl, hx⟩
        have HX2 := Lib.hid (HX.out.trans hx)
        clear hx HX HC
        go_wp2
        go_ret2
        rw [HB.out.1, HB.out.2]
        exact ⟨rfl, HX2.out⟩
    · obtain rfl : n = i := by omega
      have hb : bodyTo ls n = bodyOf ls := by unfold bodyOf; rw [HN.out]
      have HS2 : Hid (s.data.toList = bodyOf ls) := by unfold Hid; rw [HS.out, hb]
      have HC0 : Hid (codeW ls = 0 ∧ textW ls = textOf ls) := by
        have e : codeW ls = 0 := by
          unfold codeW
          rw [if_neg (by have := HN.out; omega)]
          exact firstBad_ok fun j r hr => HG.out j r (by have := (List.getElem?_eq_some_iff.1 hr).1; have := HN.out; omega) hr
        exact ⟨e, by unfold textW; rw [e, if_pos rfl]⟩
      have HSu := Lib.hid (fun W => rSum_any s W (by omega))
      have hfl := fnv_lt s.data.toList
      have HHx := Lib.hid (fun W => rHex_any (fnv s.data.toList) W hfl)
      obtain ⟨u, hu⟩ : ∃ u, fnv s.data.toList = u := ⟨_, rfl⟩
      have HU : Hid (u = fnv (bodyOf ls)) := by unfold Hid; rw [← hu, HS2.out]
      rw [hu] at HSu HHx
      obtain ⟨q, hq⟩ : ∃ q : ByteArray, ⟨(hex16 u).toArray⟩ = q := ⟨_, rfl⟩
      rw [hq] at HHx
      have hql : q.data.toList = hex16 u := by rw [← hq]
      have hqs : q.size ≤ 16 := by rw [str_size hql, hex16_len (by rw [← hu]; exact hfl)]; omega
      have HQ := Lib.hid hql
      clear hu hq hql hfl hb HS HG
      go_wp2_with fail
      refine (HSu.out _).mono ?_
      rintro e w2 ⟨rfl, rfl⟩
      clear HSu
      go_wp2_with fail
      refine (HHx.out _).mono ?_
      rintro e w3 ⟨rfl, hx⟩
      have HX3 := Lib.hid (HX.out.trans hx)
      have HE : Hid (s ++ ⟨#[115, 117, 109, 32]⟩ ++ q ++ ⟨#[10]⟩ = (⟨(textW ls).toArray⟩ : ByteArray)) := by
        refine str_of ?_
        rw [str_app, str_app, str_app, HS2.out, HQ.out, HC0.out.2]
        unfold textOf sumW
        rw [HU.out]
      clear hx HX HHx
      go_wp2
      go_ret2
      rw [← HE.out, HC0.out.1]
      exact ⟨rfl, HX3.out⟩
theorem rWrite_any (A : Option Addr) (n c : Nat) (ls : List (List (List Int))) (w : World) (hn : n = ls.length) (hr : IsForms w A ls) (hf : FitForms ls) (hv : Vars w) :
    Calls Tryz.prog 7 #[.slice A n c] w fun e w' => e = .returned (.tuple #[.string ⟨(textW ls).toArray⟩, .int .i64 (codeW ls)]) ∧ Ext w w' := by
  rcases Nat.lt_or_ge 64 n with h | h
  · have e : codeW ls = 9 := by unfold codeW; rw [if_pos (by omega)]
    have e2 : textW ls = [] := by unfold textW; rw [e, if_neg (by decide)]
    rw [e, e2]
    exact rWrite_many A n c w h (by rw [hn]; exact hf.1)
  · exact rWrite_rest A n c ls w hn h hr hf hv
end Go.Proofs.YtiihnoelclnahaaGreatDoor
namespace Go.Proofs.YtiihnoelclnahaaGreatDoor
open Go.RowKit
set_option linter.unusedVariables false
/-- The bytes of w stand at a; else the place where they part. -/
def wordP (s : List UInt8) : List UInt8 → Nat → Except Nat Nat
  | [], a => .ok a
  | c :: w, a => if s[a]? = some c then wordP s w (a + 1) else .error a
def digB (c : UInt8) : Bool := decide (48 ≤ c.toNat) && decide (c.toNat ≤ 57)
/-- Behind the digits from e on. -/
def skipD (s : List UInt8) (e : Nat) : Nat := e + ((s.drop e).takeWhile digB).length
def endN (s : List UInt8) (a : Nat) : Nat := skipD s (if s[a]? = some 45 then a + 1 else a)
def cutL (s : List UInt8) (a b : Nat) : List UInt8 := (s.drop a).take (b - a)
/-- What a text of digits tells, written as it is told. -/
def numT (t : List UInt8) (lo hi : Int) : Option Int :=
  match Lib.parseIntB 64 t with
  | .ok v => if Lib.itoa v = t ∧ lo ≤ v ∧ v ≤ hi then some v else none
  | _ => none
def numP (s : List UInt8) (lo hi : Int) (a : Nat) : Except Nat (Int × Nat) :=
  match numT (cutL s a (endN s a)) lo hi with
  | some v => .ok (v, endN s a)
  | none => .error a
/-- So many entries, behind a blank each. -/
def flatP (s : List UInt8) : Nat → Nat → List Int → Except Nat (List Int × Nat)
  | 0, a, acc => .ok (acc, a)
  | m + 1, a, acc =>
    match wordP s [32] a with
    | .error b => .error b
    | .ok a1 =>
      match numP s (-16384) 16384 a1 with
      | .error b => .error b
      | .ok (v, a2) => flatP s m a2 (acc ++ [v])
def tri (n : Nat) : Nat := n * (n + 1) / 2
/-- The entry of the symmetric matrix whose lower half stands in l, row for row. -/
def ent (l : List Int) (i j : Nat) : Int := l.getD (tri (max i j) + min i j) 0
def matOf (n : Nat) (l : List Int) : List (List Int) := (List.range n).map fun i => (List.range n).map fun j => ent l i j
def formP (s : List UInt8) (a : Nat) : Except Nat (List (List Int) × Nat) :=
  match numP s 1 8 a with
  | .error b => .error b
  | .ok (n, a1) =>
    match flatP s (tri n.toNat) a1 [] with
    | .error b => .error b
    | .ok (l, a2) =>
      match wordP s [10] a2 with
      | .error b => .error b
      | .ok a3 => if chk (matOf n.toNat l) = 0 then .ok (matOf n.toNat l, a3) else .error a
def formsP (s : List UInt8) : Nat → Nat → List (List (List Int)) → Except Nat (List (List (List Int)) × Nat)
  | 0, a, acc => .ok (acc, a)
  | k + 1, a, acc =>
    match formP s a with
    | .error b => .error b
    | .ok (f, a1) => formsP s k a1 (acc ++ [f])
def hexB (c : UInt8) : Bool := (decide (48 ≤ c.toNat) && decide (c.toNat ≤ 57)) || (decide (97 ≤ c.toNat) && decide (c.toNat ≤ 102))
def hexP (s : List UInt8) : Nat → Nat → Except Nat Nat
  | 0, a => .ok a
  | k + 1, a => match s[a]? with
    | none => .error a
    | some c => if hexB c = true then hexP s k (a + 1) else .error a
/-- From "sum " on: 0, 0, or the code and the place. -/
def tailP (s : List UInt8) (a : Nat) : Int × Nat :=
  match wordP s sumW a with
  | .error b => (280, b)
  | .ok f =>
    match hexP s 16 f with
    | .error b => (280, b)
    | .ok f2 =>
      match wordP s [10] f2 with
      | .error b => (280, b)
      | .ok e => if e < s.length then (280, e) else if cutL s f (f + 16) = hex16 (fnv (s.take a)) then (0, 0) else (281, f)
/-- What Read tells: the list, or a code and a place. -/
def readP (s : List UInt8) : Except (Int × Nat) (List (List (List Int))) :=
  if 1048576 < s.length then .error (3, 0) else
  match wordP s headW 0 with
  | .error b => .error (280, b)
  | .ok a1 =>
    match numP s 0 64 a1 with
    | .error b => .error (280, b)
    | .ok (n, a2) =>
      match wordP s [10] a2 with
      | .error b => .error (280, b)
      | .ok a3 =>
        match formsP s n.toNat a3 [] with
        | .error b => .error (280, b)
        | .ok (l, a4) => if (tailP s a4).1 = 0 then .ok l else .error (tailP s a4)
theorem wordP_le {s : List UInt8} {w : List UInt8} {a b : Nat} (h : wordP s w a = .ok b) (ha : a ≤ s.length) : b = a + w.length ∧ b ≤ s.length := by
  induction w generalizing a with
  | nil => injection h with h; exact ⟨by simp [h], by omega⟩
  | cons c w ih =>
    rw [wordP] at h
    split at h
    · rename_i hc
      have hl := (List.getElem?_eq_some_iff.1 hc).1
      obtain ⟨h1, h2⟩ := ih h (by omega)
      exact ⟨by rw [List.length_cons]; omega, h2⟩
    · cases h
theorem skipD_le (s : List UInt8) (e : Nat) (h : e ≤ s.length) : e ≤ skipD s e ∧ skipD s e ≤ s.length := by
  unfold skipD
  have h1 : ((s.drop e).takeWhile digB).length ≤ (s.drop e).length := (List.takeWhile_sublist _).length_le
  rw [List.length_drop] at h1
  omega
theorem skipD_step {s : List UInt8} {e : Nat} {c : UInt8} (h : s[e]? = some c) (hd : digB c = true) : skipD s e = skipD s (e + 1) := by
  obtain ⟨h1, rfl⟩ := List.getElem?_eq_some_iff.1 h
  unfold skipD
  rw [List.drop_eq_getElem_cons h1, List.takeWhile_cons_of_pos hd, List.length_cons]
  omega
theorem skipD_stop {s : List UInt8} {e : Nat} {c : UInt8} (h : s[e]? = some c) (hd : digB c = false) : skipD s e = e := by
  obtain ⟨h1, rfl⟩ := List.getElem?_eq_some_iff.1 h
  unfold skipD
  rw [List.drop_eq_getElem_cons h1, List.takeWhile_cons_of_neg (by simp [hd])]
  rfl
theorem skipD_end (s : List UInt8) (e : Nat) (h : s.length ≤ e) : skipD s e = e := by
  unfold skipD
  rw [List.drop_eq_nil_of_le h]; rfl
theorem endN_le (s : List UInt8) (a : Nat) (h : a ≤ s.length) : a ≤ endN s a ∧ endN s a ≤ s.length := by
  unfold endN
  split
  · rename_i hc
    have hl := (List.getElem?_eq_some_iff.1 hc).1
    have := skipD_le s (a + 1) (by omega)
    omega
  · exact skipD_le s a h
theorem numP_le {s : List UInt8} {lo hi v : Int} {a b : Nat} (h : numP s lo hi a = .ok (v, b)) (ha : a ≤ s.length) : a ≤ b ∧ b ≤ s.length ∧ lo ≤ v ∧ v ≤ hi := by
  unfold numP at h
  split at h
  · rename_i u hu
    injection h with h
    injection h with h1 h2
    subst h1; subst h2
    have := endN_le s a ha
    refine ⟨this.1, this.2, ?_⟩
    unfold numT at hu
    split at hu
    · split at hu
      · rename_i hh; injection hu with hu; rw [← hu]; exact hh.2
      · cases hu
    · cases hu
  · cases h
/-- What is told behind the forms. -/
def afterP (s : List UInt8) : Except Nat (List (List (List Int)) × Nat) → Except (Int × Nat) (List (List (List Int)))
  | .error b => .error (280, b)
  | .ok (l, a) => if (tailP s a).1 = 0 then .ok l else .error (tailP s a)
theorem readP_1 {s : List UInt8} {b : Nat} (h0 : ¬ 1048576 < s.length) (h : wordP s headW 0 = .error b) : readP s = .error (280, b) := by
  unfold readP; rw [if_neg h0, h]
theorem readP_2 {s : List UInt8} {a1 b : Nat} (h0 : ¬ 1048576 < s.length) (h1 : wordP s headW 0 = .ok a1) (h : numP s 0 64 a1 = .error b) : readP s = .error (280, b) := by
  unfold readP; rw [if_neg h0, h1]; simp only [h]
theorem readP_3 {s : List UInt8} {a1 a2 b : Nat} {n : Int} (h0 : ¬ 1048576 < s.length) (h1 : wordP s headW 0 = .ok a1) (h2 : numP s 0 64 a1 = .ok (n, a2)) (h : wordP s [10] a2 = .error b) : readP s = .error (280, b) := by
  unfold readP; rw [if_neg h0, h1]; simp only [h2, h]
theorem readP_4 {s : List UInt8} {a1 a2 a3 : Nat} {n : Int} (h0 : ¬ 1048576 < s.length) (h1 : wordP s headW 0 = .ok a1) (h2 : numP s 0 64 a1 = .ok (n, a2)) (h3 : wordP s [10] a2 = .ok a3) : readP s = afterP s (formsP s n.toNat a3 []) := by
  unfold readP; rw [if_neg h0, h1]; simp only [h2, h3]
  cases formsP s n.toNat a3 [] with
  | error b => rfl
  | ok x => rfl
theorem flatP_w {s : List UInt8} {m a b : Nat} {acc : List Int} (h : wordP s [32] a = .error b) : flatP s (m + 1) a acc = .error b := by rw [flatP, h]
theorem flatP_n {s : List UInt8} {m a a1 b : Nat} {acc : List Int} (h1 : wordP s [32] a = .ok a1) (h : numP s (-16384) 16384 a1 = .error b) : flatP s (m + 1) a acc = .error b := by rw [flatP, h1]; simp only [h]
theorem flatP_s {s : List UInt8} {m a a1 a2 : Nat} {v : Int} {acc : List Int} (h1 : wordP s [32] a = .ok a1) (h2 : numP s (-16384) 16384 a1 = .ok (v, a2)) : flatP s (m + 1) a acc = flatP s m a2 (acc ++ [v]) := by rw [flatP, h1]; simp only [h2]
theorem formP_n {s : List UInt8} {a b : Nat} (h : numP s 1 8 a = .error b) : formP s a = .error b := by unfold formP; rw [h]
theorem formP_f {s : List UInt8} {a a1 b : Nat} {n : Int} (h1 : numP s 1 8 a = .ok (n, a1)) (h : flatP s (tri n.toNat) a1 [] = .error b) : formP s a = .error b := by unfold formP; rw [h1]; simp only [h]
theorem formP_w {s : List UInt8} {a a1 a2 b : Nat} {n : Int} {l : List Int} (h1 : numP s 1 8 a = .ok (n, a1)) (h2 : flatP s (tri n.toNat) a1 [] = .ok (l, a2)) (h : wordP s [10] a2 = .error b) : formP s a = .error b := by unfold formP; rw [h1]; simp only [h2, h]
theorem formP_c {s : List UInt8} {a a1 a2 a3 : Nat} {n : Int} {l : List Int} (h1 : numP s 1 8 a = .ok (n, a1)) (h2 : flatP s (tri n.toNat) a1 [] = .ok (l, a2)) (h3 : wordP s [10] a2 = .ok a3) (h : chk (matOf n.toNat l) ≠ 0) : formP s a = .error a := by unfold formP; rw [h1]; simp only [h2, h3, if_neg h]
theorem formP_s {s : List UInt8} {a a1 a2 a3 : Nat} {n : Int} {l : List Int} (h1 : numP s 1 8 a = .ok (n, a1)) (h2 : flatP s (tri n.toNat) a1 [] = .ok (l, a2)) (h3 : wordP s [10] a2 = .ok a3) (h : chk (matOf n.toNat l) = 0) : formP s a = .ok (matOf n.toNat l, a3) := by unfold formP; rw [h1]; simp only [h2, h3, if_pos h]
theorem forms_err {s : List UInt8} {k a b : Nat} {acc : List (List (List Int))} (h : formP s a = .error b) : afterP s (formsP s (k + 1) a acc) = .error (280, b) := by rw [formsP, h]; rfl
theorem forms_s {s : List UInt8} {k a b : Nat} {acc : List (List (List Int))} {f : List (List Int)} (h : formP s a = .ok (f, b)) : formsP s (k + 1) a acc = formsP s k b (acc ++ [f]) := by rw [formsP, h]
theorem after_0 {s : List UInt8} {a : Nat} {acc : List (List (List Int))} {q : Int × Nat} (h : tailP s a = q) (hq : q.1 ≠ 0) : afterP s (formsP s 0 a acc) = .error q := by
  unfold formsP afterP; simp only [h, if_neg hq]
theorem after_e {s : List UInt8} {a b : Nat} {c : Int} {acc : List (List (List Int))} (h : tailP s a = (c, b)) (hc : c ≠ 0) : afterP s (formsP s 0 a acc) = .error (c, b) := after_0 h hc
theorem after_ok {s : List UInt8} {a : Nat} {acc : List (List (List Int))} (h : tailP s a = (0, 0)) : afterP s (formsP s 0 a acc) = .ok acc := by
  unfold formsP afterP; simp only [h, if_true]
theorem tailP_1 {s : List UInt8} {a b : Nat} (h : wordP s sumW a = .error b) : tailP s a = (280, b) := by unfold tailP; rw [h]
theorem tailP_2 {s : List UInt8} {a f b : Nat} (h1 : wordP s sumW a = .ok f) (h : hexP s 16 f = .error b) : tailP s a = (280, b) := by unfold tailP; rw [h1]; simp only [h]
theorem tailP_3 {s : List UInt8} {a f f2 b : Nat} (h1 : wordP s sumW a = .ok f) (h2 : hexP s 16 f = .ok f2) (h : wordP s [10] f2 = .error b) : tailP s a = (280, b) := by unfold tailP; rw [h1]; simp only [h2, h]
theorem tailP_4 {s : List UInt8} {a f f2 e : Nat} (h1 : wordP s sumW a = .ok f) (h2 : hexP s 16 f = .ok f2) (h3 : wordP s [10] f2 = .ok e) (h : e < s.length) : tailP s a = (280, e) := by unfold tailP; rw [h1]; simp only [h2, h3, if_pos h]
theorem tailP_5 {s : List UInt8} {a f f2 e : Nat} (h1 : wordP s sumW a = .ok f) (h2 : hexP s 16 f = .ok f2) (h3 : wordP s [10] f2 = .ok e) (h : ¬ e < s.length) (h4 : cutL s f (f + 16) ≠ hex16 (fnv (s.take a))) : tailP s a = (281, f) := by unfold tailP; rw [h1]; simp only [h2, h3, if_neg h, if_neg h4]
theorem tailP_6 {s : List UInt8} {a f f2 e : Nat} (h1 : wordP s sumW a = .ok f) (h2 : hexP s 16 f = .ok f2) (h3 : wordP s [10] f2 = .ok e) (h : ¬ e < s.length) (h4 : cutL s f (f + 16) = hex16 (fnv (s.take a))) : tailP s a = (0, 0) := by unfold tailP; rw [h1]; simp only [h2, h3, if_neg h, if_pos h4]
theorem hexP_le {s : List UInt8} {k a b : Nat} (h : hexP s k a = .ok b) (ha : a ≤ s.length) : b = a + k ∧ b ≤ s.length := by
  induction k generalizing a with
  | zero => injection h with h; omega
  | succ k ih =>
    rw [hexP] at h
    cases hc : s[a]? with
    | none => rw [hc] at h; cases h
    | some c =>
      rw [hc] at h
      simp only at h
      split at h
      · have hl := (List.getElem?_eq_some_iff.1 hc).1
        have := ih h (by omega)
        omega
      · cases h
theorem hexP_s {s : List UInt8} {k a : Nat} {c : UInt8} (hc : s[a]? = some c) (h : hexB c = true) : hexP s (k + 1) a = hexP s k (a + 1) := by rw [hexP, hc]; simp only [if_pos h]
theorem hexP_e {s : List UInt8} {k a : Nat} {c : UInt8} (hc : s[a]? = some c) (h : hexB c = false) : hexP s (k + 1) a = .error a := by rw [hexP, hc]; simp only [h]; rfl
theorem hexP_end {s : List UInt8} {k a : Nat} (hc : s[a]? = none) : hexP s (k + 1) a = .error a := by rw [hexP, hc]
theorem tri_succ (n : Nat) : tri (n + 1) = tri n + (n + 1) := by
  unfold tri
  rw [show (n + 1) * (n + 1 + 1) = n * (n + 1) + 2 * (n + 1) by rw [Nat.mul_add (n + 1) (n + 1) 1, Nat.add_mul n 1 (n + 1)]; omega, Nat.add_mul_div_left _ _ (by omega)]
theorem tri_mono {a b : Nat} (h : a ≤ b) : tri a ≤ tri b := by
  induction b with
  | zero => obtain rfl : a = 0 := by omega
            exact Nat.le_refl _
  | succ b ih =>
    rcases Nat.lt_or_ge a (b + 1) with h1 | h1
    · have := ih (by omega); rw [tri_succ]; omega
    · obtain rfl : a = b + 1 := by omega
      exact Nat.le_refl _
theorem ent_zero {l : List Int} {r j : Nat} (h : l.length ≤ tri r) (i : Nat) (hi : r ≤ i) : ent l i j = 0 := by
  unfold ent
  have h1 := tri_mono (show r ≤ max i j by omega)
  rw [List.getD_eq_getElem?_getD, List.getElem?_eq_none (by omega)]; rfl
theorem ent_snoc {l : List Int} {r k : Nat} (v : Int) (h : l.length = tri r + k) (hk : k ≤ r) (i j : Nat) : ent (l ++ [v]) i j = if (i = r ∧ j = k) ∨ (i = k ∧ j = r) then v else ent l i j := by
  unfold ent
  rw [List.getD_eq_getElem?_getD, List.getD_eq_getElem?_getD]
  by_cases e : (i = r ∧ j = k) ∨ (i = k ∧ j = r)
  · rw [if_pos e]
    have e2 : tri (max i j) + min i j = l.length := by
      rcases e with ⟨rfl, rfl⟩ | ⟨rfl, rfl⟩
      · rw [h, Nat.max_eq_left hk, Nat.min_eq_right hk]
      · rw [h, Nat.max_eq_right hk, Nat.min_eq_left hk]
    rw [e2, List.getElem?_append_right (Nat.le_refl _), Nat.sub_self]; rfl
  · rw [if_neg e]
    have hne : tri (max i j) + min i j ≠ l.length := by
      rw [h]
      rcases Nat.lt_trichotomy (max i j) r with h1 | h1 | h1
      · have := tri_mono (show max i j + 1 ≤ r by omega)
        rw [tri_succ] at this; omega
      · rw [h1]; omega
      · have := tri_mono (show r + 1 ≤ max i j by omega)
        rw [tri_succ] at this; omega
    rcases Nat.lt_or_ge (tri (max i j) + min i j) l.length with h1 | h1
    · rw [List.getElem?_append_left h1]
    · rw [List.getElem?_eq_none (by rw [List.length_append, List.length_cons, List.length_nil]; omega), List.getElem?_eq_none h1]
end Go.Proofs.YtiihnoelclnahaaGreatDoor
namespace Go.Proofs.YtiihnoelclnahaaGreatDoor
open Go.RowKit
set_option linter.unusedVariables false
/-- The panic that fail raises: a fault lies in the block N. -/
def faultAt (N : Nat) : List PanicEntry := [{ v := .iface 43 (.pointer (some ⟨N, 0, none⟩)), recovered := false }]
def IsFault (w : World) (N : Nat) (code : Int) (at_ : Nat) : Prop := w.heap[N]? = some (.cells #[.int .i64 code, .int .i64 at_, .string ⟨#[]⟩] 47 (0, 0))
def Failed (code : Int) (at_ : Nat) (w : World) (e : Ending) (w' : World) : Prop := ∃ N, e = .panicked (faultAt N) ∧ w.heap.size ≤ N ∧ IsFault w' N code at_
theorem fail_any (code : Int) (a : Nat) (w : World) :
    Calls Tryz.prog 21 #[.int .i64 a, .int .i64 code] w fun e w' => Failed code a w e w' ∧ Ext w w' := by
  go_enter Tryz.func21, Tryz.ntmps21
  go_wp2
  exact ⟨rfl, ⟨_, rfl, Nat.le_refl _, heap_new _ _⟩, (Ext.refl w).alloc _⟩
/-- What word leaves: the place has gone on, or a fault. -/
def WordPost (r : Except Nat Nat) (bA : Nat) (w : World) (e : Ending) (w' : World) : Prop :=
  ((∃ b, r = .ok b ∧ e = .returned (.tuple #[]) ∧ w'.cell? ⟨bA, 0, none⟩ = some (.int .i64 (b : Nat)) ∧ w'.frozen? ⟨bA, 0, none⟩ = false) ∨ (∃ b, r = .error b ∧ Failed 280 b w e w')) ∧ ExtBut (fun x => x = bA) w w'
theorem byte_at (s : ByteArray) (i : Nat) (h : i < s.size) : s.data.toList[i]? = some s[i] := by
  rw [List.getElem?_eq_getElem (by simpa using h)]
  simp [ByteArray.getElem_eq_getElem_data]
set_option maxRecDepth 100000 in
theorem word_any (s wd : ByteArray) (a bA bS bF : Nat) (w : World) (hs : s.size ≤ 1099511627776) (hw : wd.size ≤ 1000) (ha : a ≤ s.size) (cA : w.cell? ⟨bA, 0, none⟩ = some (.int .i64 a)) (fA : w.frozen? ⟨bA, 0, none⟩ = false)
    (cS : w.cell? ⟨bS, 0, none⟩ = some (.string s)) (cF : w.cell? ⟨bF, 0, none⟩ = some (.func (.func 21) #[] #[])) (nS : bS ≠ bA) (nF : bF ≠ bA) :
    Calls Tryz.prog 23 #[.string wd, .pointer (some ⟨bA, 0, none⟩), .pointer (some ⟨bS, 0, none⟩), .pointer (some ⟨bF, 0, none⟩)] w (WordPost (wordP s.data.toList wd.data.toList a) bA w) := by
  have CS := Lib.hid cS
  have CF := Lib.hid cF
  clear cS cF
  go_enter Tryz.func23, Tryz.ntmps23
  go_wp2
  go_loopg [8] wd.size (fun kk iv wr => ∃ i p : Nat, kk + i = wd.size ∧ iv = .int .i64 i ∧ p ≤ s.size ∧ Hid (wordP s.data.toList (wd.data.toList.drop i) p = wordP s.data.toList wd.data.toList a) ∧ Hid (wr.cell? ⟨bA, 0, none⟩ = some (.int .i64 p)) ∧ Hid (wr.frozen? ⟨bA, 0, none⟩ = false) ∧ Hid (ExtBut (fun x => x = bA) w wr))
  case atStart => exact ⟨0, a, by omega, rfl, ha, rfl, cA, fA, ExtBut.refl _ _⟩
  case round =>
    clear cA fA
    obtain ⟨i, p, hki, rfl, hp, HP, HA, HFr, HX⟩ := hrel
    have cA := HA.out
    have fA := HFr.out
    have cS := HX.out.cell CS.out nS
    have cF := HX.out.cell CF.out nF
    have hz : w.heap.size ≤ wr.heap.size := HX.out.size
    by_cases hin : i < wd.size
    · have hst : wordP s.data.toList (wd.data.toList.drop i) p = if s.data.toList[p]? = some wd[i] then wordP s.data.toList (wd.data.toList.drop (i + 1)) (p + 1) else .error p := by
        have hl : i < wd.data.toList.length := by simpa using hin
        rw [List.drop_eq_getElem_cons hl, wordP]
        have e : wd.data.toList[i] = wd[i] := by have := byte_at wd i hin; rw [List.getElem?_eq_getElem hl] at this; exact Option.some.inj this
        rw [e]
      by_cases hps : p = s.size
      · subst hps
        have HE : Hid (wordP s.data.toList wd.data.toList a = .error s.size) := by
          rw [← HP.out, hst, if_neg (by rw [List.getElem?_eq_none (by simp)]; simp)]; rfl
        clear hst
        go_wp2_with fail
        go_quiet (fail)
        have cA2 : (wr.drewN nq).cell? ⟨bA, 0, none⟩ = some (.int .i64 (s.size : Nat)) := cA
        have cF2 : (wr.drewN nq).cell? ⟨bF, 0, none⟩ = some (.func (.func 21) #[] #[]) := cF
        go_wp2_with fail
        refine (fail_any 280 s.size _).mono ?_
        rintro e w3 ⟨⟨N, rfl, h1, h2⟩, hx⟩
        have HX3 := Lib.hid ((HX.out.drewN nq).ext hx)
        have H2 := Lib.hid h2
        have h1' : w.heap.size ≤ N := Nat.le_trans hz h1
        clear hx h1 h2
        go_wp2
        exact ⟨rfl, .inr ⟨_, HE.out, _, rfl, h1', H2.out⟩, HX3.out⟩
      · have hpl : p < s.size := by omega
        have heq : ((p : Int) == s.size) = false := by rw [beq_eq_false_iff_ne]; omega
        rw [byte_at s p hpl] at hst
        by_cases hc : s[p] = wd[i]
        · rw [if_pos (by rw [hc])] at hst
          have HE : Hid (wordP s.data.toList (wd.data.toList.drop (i + 1)) (p + 1) = wordP s.data.toList wd.data.toList a) := by rw [← HP.out, hst]; rfl
          have hcb : ((s[p].toNat : Int) != wd[i].toNat) = false := by rw [bne_eq_false_iff_eq, hc]
          clear hst hc hps
          go_wp2_with fail
          go_quiet (fail)
          have cA2 : (wr.drewN nq).cell? ⟨bA, 0, none⟩ = some (.int .i64 (p : Nat)) := cA
          have fA2 : (wr.drewN nq).frozen? ⟨bA, 0, none⟩ = false := fA
          go_wp2
          go_roundg (gk - 1)
          case measure => omega
          case rel => exact ⟨i + 1, p + 1, by omega, by go_num, by omega, HE, by
            have := setc (v := .int .i64 ((p + 1 : Nat) : Int)) cA2
            rw [Int.natCast_add] at this; exact this, by unfold Hid; rw [World.frozen?_setCell]; exact fA2, HX.out.drewN nq |>.setCell (p := ⟨bA, 0, none⟩) (.inl rfl) _⟩
        · rw [if_neg (by intro h; exact hc (Option.some.inj h))] at hst
          have HE : Hid (wordP s.data.toList wd.data.toList a = .error p) := by rw [← HP.out, hst]; rfl
          have hcb : ((s[p].toNat : Int) != wd[i].toNat) = true := by
            rw [bne_iff_ne]; intro h; exact hc (UInt8.toNat_inj.1 (by omega))
          clear hst hc hps
          go_wp2_with fail
          go_quiet (fail)
          have cA2 : (wr.drewN nq).cell? ⟨bA, 0, none⟩ = some (.int .i64 (p : Nat)) := cA
          have cF2 : (wr.drewN nq).cell? ⟨bF, 0, none⟩ = some (.func (.func 21) #[] #[]) := cF
          go_wp2_with fail
          refine (fail_any 280 p _).mono ?_
          rintro e w3 ⟨⟨N, rfl, h1, h2⟩, hx⟩
          have HX3 := Lib.hid ((HX.out.drewN nq).ext hx)
          have H2 := Lib.hid h2
          have h1' : w.heap.size ≤ N := Nat.le_trans hz h1
          clear hx h1 h2
          go_wp2
          exact ⟨rfl, .inr ⟨_, HE.out, _, rfl, h1', H2.out⟩, HX3.out⟩
    · obtain rfl : i = wd.size := by omega
      have HE : Hid (wordP s.data.toList wd.data.toList a = .ok p) := by rw [← HP.out, List.drop_eq_nil_of_le (by simp)]; rfl
      go_wp2
      go_end0
      exact ⟨.inl ⟨_, HE.out, rfl, HA.out, HFr.out⟩, HX.out⟩
end Go.Proofs.YtiihnoelclnahaaGreatDoor
namespace Go.Proofs.YtiihnoelclnahaaGreatDoor
open Go.RowKit
set_option linter.unusedVariables false
def NumPost (r : Except Nat (Int × Nat)) (bA : Nat) (w : World) (e : Ending) (w' : World) : Prop :=
  ((∃ v b, r = .ok (v, b) ∧ e = .returned (.int .i64 v) ∧ w'.cell? ⟨bA, 0, none⟩ = some (.int .i64 (b : Nat)) ∧ w'.frozen? ⟨bA, 0, none⟩ = false) ∨ (∃ b, r = .error b ∧ Failed 280 b w e w')) ∧ ExtBut (fun x => x = bA) w w'
theorem extract_cut (s : ByteArray) (a b : Nat) : (s.extract a b).data.toList = cutL s.data.toList a b := Lib.extract_data s a b
theorem str_ne {q t : ByteArray} (h : q ≠ t) : (q.toList == t.toList) = false := by
  rw [beq_eq_false_iff_ne, ByteArray.toList_eq, ByteArray.toList_eq]
  intro e
  exact h (ByteArray.ext (Array.toList_inj.1 e))
theorem parseIntB_range {l : List UInt8} {v : Int} (h : Lib.parseIntB 64 l = .ok v) : -9223372036854775808 ≤ v ∧ v ≤ 9223372036854775807 := by
  unfold Lib.parseIntB at h
  have e63 : 2 ^ (64 - 1) = 9223372036854775808 := by decide
  split at h
  · cases h
  · simp only [e63] at h
    split at h
    · cases h
    · cases h
    · split at h
      · cases h
      · split at h
        · cases h
        · injection h with h
          split at h <;> omega
theorem numP_yes {s : List UInt8} {lo hi v : Int} {a E : Nat} (hE : endN s a = E) (hp : Lib.parseIntB 64 (cutL s a E) = .ok v) (h : Lib.itoa v = cutL s a E ∧ lo ≤ v ∧ v ≤ hi) : numP s lo hi a = .ok (v, E) := by
  subst hE
  unfold numP numT
  simp only [hp, if_pos h]
theorem numP_no {s : List UInt8} {lo hi v : Int} {a E : Nat} (hE : endN s a = E) (hp : Lib.parseIntB 64 (cutL s a E) = .ok v) (h : ¬ (Lib.itoa v = cutL s a E ∧ lo ≤ v ∧ v ≤ hi)) : numP s lo hi a = .error a := by
  subst hE
  unfold numP numT
  simp only [hp, if_neg h]
theorem numP_bad {s : List UInt8} {lo hi : Int} {a E : Nat} (hE : endN s a = E) (hp : ∀ v, Lib.parseIntB 64 (cutL s a E) ≠ .ok v) : numP s lo hi a = .error a := by
  subst hE
  unfold numP numT
  rcases h : Lib.parseIntB 64 (cutL s a (endN s a)) with v | _ | _
  · exact absurd h (hp v)
  · rfl
  · rfl
theorem ext_of_bytes {w w' : World} {T : TypeId} (h : w' = w ∨ ∃ t, w' = Lib.bytesWorld w T t) : Ext w w' := by
  rcases h with rfl | ⟨t, rfl⟩
  · exact Ext.refl _
  · exact Lib.bytesWorld_below _ _ _
/-- strconv.ParseInt, whatever the text. -/
theorem parse_any (t : ByteArray) (w : World) (ht : t.size ≤ 1099511627776) (hv : Vars w) :
    Calls Tryz.prog 25 #[.string t, .int .i64 10, .int .i64 64] w fun e w' =>
      ((∃ v, Lib.parseIntB 64 t.data.toList = .ok v ∧ e = .returned (.tuple #[.int .i64 v, .nilIface])) ∨ ((∀ v, Lib.parseIntB 64 t.data.toList ≠ .ok v) ∧ ∃ v N, e = .returned (.tuple #[.int .i64 v, .iface 130 (.pointer (some ⟨N, 0, none⟩))]))) ∧ Ext w w' := by
  rcases h : Lib.parseIntB 64 t.data.toList with v | _ | _
  · exact (Tryz.strconv_ParseInt_10_at64_ok t (by omega) v h w).mono fun e w' ⟨he, hw⟩ => ⟨.inl ⟨v, rfl, he⟩, ext_of_bytes hw⟩
  · obtain ⟨tp, p, hv⟩ := hv.syn
    exact (Tryz.strconv_ParseInt_10_at64_syntax_var t (by omega) h tp p w hv).mono fun e w' ⟨N, he, _, _, hb⟩ => ⟨.inr ⟨(fun v hh => by cases hh), _, N, he⟩, hb⟩
  · obtain ⟨tp, p, hv⟩ := hv.rng
    exact (Tryz.strconv_ParseInt_10_at64_range_var t (by omega) h tp p w hv).mono fun e w' ⟨N, he, _, _, hb⟩ => ⟨.inr ⟨(fun v hh => by cases hh), _, N, he⟩, hb⟩
set_option maxHeartbeats 20000000 in
set_option maxRecDepth 100000 in
theorem number_any (s : ByteArray) (lo hi : Int) (a bA bS bF : Nat) (w : World) (hs : s.size ≤ 1099511627776) (ha : a ≤ s.size) (hv : Vars w) (cA : w.cell? ⟨bA, 0, none⟩ = some (.int .i64 a)) (fA : w.frozen? ⟨bA, 0, none⟩ = false)
    (cS : w.cell? ⟨bS, 0, none⟩ = some (.string s)) (cF : w.cell? ⟨bF, 0, none⟩ = some (.func (.func 21) #[] #[])) (nS : bS ≠ bA) (nF : bF ≠ bA) :
    Calls Tryz.prog 24 #[.int .i64 lo, .int .i64 hi, .pointer (some ⟨bA, 0, none⟩), .pointer (some ⟨bS, 0, none⟩), .pointer (some ⟨bF, 0, none⟩)] w (NumPost (numP s.data.toList lo hi a) bA w) := by
  have HV := Lib.hid hv
  clear hv
  obtain ⟨mB, hmB⟩ : ∃ mB : Bool, decide (s.data.toList[a]? = some 45) = mB := ⟨_, rfl⟩
  obtain ⟨e0, he0⟩ : ∃ e0, (if s.data.toList[a]? = some 45 then a + 1 else a) = e0 := ⟨_, rfl⟩
  have HE0 : Hid (e0 = if mB = true then a + 1 else a) := by rw [← hmB, ← he0]; simp [Hid]
  have he0s : e0 ≤ s.size := by
    rw [← he0]; split
    · rename_i h; have := (List.getElem?_eq_some_iff.1 h).1; simp at this; omega
    · exact ha
  obtain ⟨E, hE⟩ : ∃ E, endN s.data.toList a = E := ⟨_, rfl⟩
  have hEl := endN_le s.data.toList a (by simpa using ha)
  rw [hE, show s.data.toList.length = s.size by simp] at hEl
  obtain ⟨hE1, hE2⟩ := hEl
  have HSk : Hid (skipD s.data.toList e0 = E) := by rw [← hE, ← he0]; rfl
  have HMB := Lib.hid hmB
  have HE := Lib.hid hE
  clear hmB he0 hE
  go_enter Tryz.func24, Tryz.ntmps24
  go_upto_region 2 with fail
  go_cut [21] (fun v21 wx => v21 = .bool mB ∧ w = wx)
  case first =>
    by_cases has : a = s.size
    · have e : mB = false := by rw [← HMB.out, List.getElem?_eq_none (by simp; omega)]; rfl
      subst e; subst has
      go_wp2
      go_meet
      exact ⟨rfl, rfl⟩
    · have hal : a < s.size := by omega
      have e : mB = ((s[a].toNat : Int) == 45) := by
        rw [← HMB.out, byte_at s a hal, Bool.eq_iff_iff, decide_eq_true_eq, beq_iff_eq]
        constructor
        · intro h; rw [Option.some.inj h]; rfl
        · intro h; congr 1; exact UInt8.toNat_inj.1 (by have : (45 : UInt8).toNat = 45 := rfl; omega)
      have HE2 := Lib.hid e
      clear e has
      go_wp2
      all_goals
        go_meet
        refine ⟨?_, rfl⟩
        rw [HE2.out]
  case rest =>
    obtain ⟨rfl, rfl⟩ := hcut
    go_upto_if 21 with fail
    go_cut [8] (fun v8 wx => v8 = .int .i64 e0 ∧ w = wx)
    case first =>
      cases mB
      · have e : e0 = a := by rw [HE0.out]; rfl
        subst e
        go_wp2
        go_meet
        exact ⟨rfl, rfl⟩
      · have e : e0 = a + 1 := by rw [HE0.out]; rfl
        subst e
        go_wp2
        go_meet
        exact ⟨by go_num, rfl⟩
    case rest =>
      obtain ⟨rfl, rfl⟩ := hcut
      go_upto_block 0 with fail
      go_cut [8] (fun v8 wx => v8 = .int .i64 E ∧ w = wx)
      case first =>
        go_wp2_with fail
        go_loopg [8] (s.size - e0) (fun kk ev wr => ∃ e : Nat, kk + e = s.size ∧ ev = .int .i64 e ∧ Hid (skipD s.data.toList e = E) ∧ w = wr)
        case atStart => exact ⟨e0, by omega, rfl, HSk, rfl⟩
        case round =>
          obtain ⟨e, hke, rfl, HS, rfl⟩ := hrel
          by_cases hes : e = s.size
          · have e1 : E = e := by rw [← HS.out, skipD_end _ _ (by simp; omega)]
            subst e1
            have hd : decide ((E : Int) < s.size) = false := by simp; omega
            subst hes
            go_wp2
            go_meet
            exact ⟨rfl, rfl⟩
          · have hel : e < s.size := by omega
            by_cases hd : digB s[e] = true
            · have HS2 : Hid (skipD s.data.toList (e + 1) = E) := by rw [← HS.out, skipD_step (byte_at s e hel) hd]; rfl
              unfold digB at hd
              rw [Bool.and_eq_true, decide_eq_true_eq, decide_eq_true_eq] at hd
              obtain ⟨h1, h2⟩ := hd
              have h1' : (48 : Int) ≤ (s[e].toNat : Int) := by omega
              have h2' : (s[e].toNat : Int) ≤ 57 := by omega
              clear hes
              go_wp2
              go_roundg (gk - 1)
              case measure => omega
              case rel => exact ⟨e + 1, by omega, by go_num, HS2, rfl⟩
            · have hd' : digB s[e] = false := by simpa using hd
              have e1 : E = e := by rw [← HS.out, skipD_stop (byte_at s e hel) hd']
              by_cases h1 : 48 ≤ s[e].toNat
              · have h2 : ¬ s[e].toNat ≤ 57 := by intro h2; unfold digB at hd'; simp [h1, h2] at hd'
                have h1' : (48 : Int) ≤ (s[e].toNat : Int) := by omega
                have h2' : decide ((s[e].toNat : Int) ≤ 57) = false := by simp; omega
                have HE1 := Lib.hid e1
                clear hes hd hd' h1 h2 e1
                go_wp2
                go_meet
                rw [HE1.out]
                exact ⟨rfl, rfl⟩
              · have h1' : decide ((48 : Int) ≤ (s[e].toNat : Int)) = false := by simp; omega
                have HE1 := Lib.hid e1
                clear hes hd hd' h1 e1
                go_wp2
                go_meet
                rw [HE1.out]
                exact ⟨rfl, rfl⟩
      case rest =>
        obtain ⟨rfl, rfl⟩ := hcut
        have et : (s.extract a E).data.toList = cutL s.data.toList a E := extract_cut s a E
        obtain ⟨t, ht⟩ : ∃ t, s.extract a E = t := ⟨_, rfl⟩
        rw [ht] at et
        have htl : t.size ≤ s.size := by rw [← ht]; simp [ByteArray.size_extract]; omega
        have HT := Lib.hid ht
        have ET := Lib.hid et
        have hEs : (E : Int) ≤ s.size := by omega
        clear et ht
        go_wp2_with fail
        rw [HT.out]
        refine (parse_any t w (by omega) HV.out).mono ?_
        rintro e w1 ⟨hr, hx1⟩
        have cA1 := hx1.cell cA
        have fA1 := hx1.free fA (lt_of_cell cA)
        have cS1 := hx1.cell cS
        have cF1 := hx1.cell cF
        have HX1 := Lib.hid hx1
        have HV1 := Lib.hid (HV.out.ext hx1)
        have hz1 : w.heap.size ≤ w1.heap.size := HX1.out.size
        clear hx1 HV cA fA cS cF
        rcases hr with ⟨v, hp, rfl⟩ | ⟨hp, v, N, rfl⟩
        · have hvr := parseIntB_range hp
          obtain ⟨hv1, hv2⟩ := hvr
          rw [ET.out] at hp
          have HP := Lib.hid hp
          clear hp
          obtain ⟨q, hq⟩ : ∃ q, (⟨(Lib.itoa v).toArray⟩ : ByteArray) = q := ⟨_, rfl⟩
          have HFm := Lib.hid (fun W (h : Ext w1 W) => FormatInt_any v W hv1 hv2 (HV1.out.ext h))
          rw [hq] at HFm
          have hqt : q = t ↔ Lib.itoa v = cutL s.data.toList a E := by
            rw [← hq, ← ET.out]
            constructor
            · intro h; rw [← h]
            · intro h; apply ByteArray.ext; simp [h]
          obtain ⟨bad, hbad⟩ : ∃ bad : Bool, (!(decide (q = t) && decide (lo ≤ v) && decide (v ≤ hi))) = bad := ⟨_, rfl⟩
          have HB := Lib.hid hbad
          have HQ := Lib.hid hqt
          clear hq hqt hbad
          go_upto_region 7 with fail
          go_cut [70] (fun v70 wx => v70 = .bool bad ∧ Ext w1 wx)
          case first =>
            have ht := HT.out
            by_cases hqt : q = t
            · subst hqt
              have hqb : (q.toList == q.toList) = true := by simp
              by_cases hlo : v < lo
              · have e : bad = true := by rw [← HB.out]; simp; omega
                have hdl : decide (v < lo) = true := by simpa using hlo
                subst e
                -- <fold>
                first
                  | go_region_held (fun w' => w'.cell? ⟨bA, 0, none⟩ = some (.int .i64 a) ∧ w'.cell? ⟨bS, 0, none⟩ = some (.string s)) (first | exact ⟨cA1, cS1⟩ | exact ⟨cA2, cS2⟩) (first | (go_at_call 26; refine (HFm.out _ (Ext.refl w1).drew).mono ?_; rintro e w2 ⟨rfl, hx2⟩; have cA2 := hx2.cell cA1; have cS2 := hx2.cell cS1; have HX2 := Lib.hid ((Ext.refl w1).drew.trans hx2); clear hx2))
                  | fail
                all_goals (go_wp2_with fail; go_meet; exact ⟨rfl, HX2.out⟩)
                -- </fold>
              · have hlo' : lo ≤ v := by omega
                by_cases hhi : hi < v
                · have e : bad = true := by rw [← HB.out]; simp; omega
                  have hdl : decide (v < lo) = false := by simpa using hlo
                  have hdh : decide (hi < v) = true := by simpa using hhi
                  subst e
                  -- <fold>
                  first
                    | go_region_held3 (fun w' => w'.cell? ⟨bA, 0, none⟩ = some (.int .i64 a) ∧ w'.cell? ⟨bS, 0, none⟩ = some (.string s)) (first | exact ⟨cA1, cS1⟩ | exact ⟨cA2, cS2⟩) (first | (go_at_call 26; refine (HFm.out _ (Ext.refl w1).drew).mono ?_; rintro e w2 ⟨rfl, hx2⟩; have cA2 := hx2.cell cA1; have cS2 := hx2.cell cS1; have HX2 := Lib.hid ((Ext.refl w1).drew.trans hx2); clear hx2))
                    | fail
                  all_goals (go_wp2_with fail; go_meet; exact ⟨rfl, HX2.out⟩)
                  -- </fold>
                · have hhi' : v ≤ hi := by omega
                  have e : bad = false := by rw [← HB.out]; simp; omega
                  have hdl : decide (v < lo) = false := by simpa using hlo
                  have hdh : decide (hi < v) = false := by simpa using hhi
                  subst e
                  -- <fold>
                  first
                    | go_region_held3 (fun w' => w'.cell? ⟨bA, 0, none⟩ = some (.int .i64 a) ∧ w'.cell? ⟨bS, 0, none⟩ = some (.string s)) (first | exact ⟨cA1, cS1⟩ | exact ⟨cA2, cS2⟩) (first | (go_at_call 26; refine (HFm.out _ (Ext.refl w1).drew).mono ?_; rintro e w2 ⟨rfl, hx2⟩; have cA2 := hx2.cell cA1; have cS2 := hx2.cell cS1; have HX2 := Lib.hid ((Ext.refl w1).drew.trans hx2); clear hx2))
                    | fail
                  all_goals (go_wp2_with fail; go_meet; exact ⟨rfl, HX2.out⟩)
                  -- </fold>
            · have e : bad = true := by rw [← HB.out]; simp [hqt]
              have hqb : (q.toList == t.toList) = false := str_ne hqt
              subst e
              clear hqt
              -- <fold>
              first
                | go_region_held (fun w' => w'.cell? ⟨bA, 0, none⟩ = some (.int .i64 a) ∧ w'.cell? ⟨bS, 0, none⟩ = some (.string s)) (first | exact ⟨cA1, cS1⟩ | exact ⟨cA2, cS2⟩) (first | (go_at_call 26; refine (HFm.out _ (Ext.refl w1).drew).mono ?_; rintro e w2 ⟨rfl, hx2⟩; have cA2 := hx2.cell cA1; have cS2 := hx2.cell cS1; have HX2 := Lib.hid ((Ext.refl w1).drew.trans hx2); clear hx2))
                | fail
              all_goals (go_wp2_with fail; go_meet; exact ⟨rfl, HX2.out⟩)
              -- </fold>
          case rest =>
            obtain ⟨rfl, hx2⟩ := hcut
            have cA2 := hx2.cell cA1
            have fA2 := hx2.free fA1 (lt_of_cell cA1)
            have cF2 := hx2.cell cF1
            have HX2 := Lib.hid (HX1.out.trans hx2)
            have hz2 : w.heap.size ≤ wc.heap.size := HX2.out.size
            clear hx2 HX1 HFm HV1 cA1 fA1 cS1 cF1
            cases hb : bad
            · rw [hb] at HB
              have hall : q = t ∧ lo ≤ v ∧ v ≤ hi := by
                have := HB.out
                simpa [Bool.and_eq_true, and_assoc] using this
              have HN : Hid (numP s.data.toList lo hi a = .ok (v, E)) := numP_yes HE.out HP.out ⟨HQ.out.1 hall.1, hall.2⟩
              clear hall hb
              go_wp2
              go_ret
              exact ⟨.inl ⟨v, E, HN.out, rfl, setc cA2, by rw [World.frozen?_setCell]; exact fA2⟩, (HX2.out.toBut (fun x => x = bA)).setCell (p := ⟨bA, 0, none⟩) (.inl rfl) _⟩
            · rw [hb] at HB
              have HN : Hid (numP s.data.toList lo hi a = .error a) := numP_no HE.out HP.out (by
                rintro ⟨h1, h2, h3⟩
                have := HB.out
                rw [decide_eq_true (HQ.out.2 h1), decide_eq_true h2, decide_eq_true h3] at this
                cases this)
              clear hb
              go_wp2_with fail
              refine (fail_any 280 a _).mono ?_
              rintro e w3 ⟨⟨N, rfl, h1, h2⟩, hx3⟩
              have HX3 := Lib.hid (HX2.out.trans hx3)
              have H2 := Lib.hid h2
              have h1' : w.heap.size ≤ N := Nat.le_trans hz2 h1
              clear hx3 h1 h2
              go_wp2
              exact ⟨rfl, .inr ⟨_, HN.out, _, rfl, h1', H2.out⟩, HX3.out.toBut _⟩
        · have HN : Hid (numP s.data.toList lo hi a = .error a) := numP_bad HE.out (by rw [← ET.out]; exact hp)
          clear hp
          go_wp2_with fail
          go_quiet (fail)
          have cA2 : (w1.drewN nq).cell? ⟨bA, 0, none⟩ = some (.int .i64 (a : Nat)) := cA1
          have cF2 : (w1.drewN nq).cell? ⟨bF, 0, none⟩ = some (.func (.func 21) #[] #[]) := cF1
          go_wp2_with fail
          refine (fail_any 280 a _).mono ?_
          rintro e w3 ⟨⟨N, rfl, h1, h2⟩, hx3⟩
          have HX3 := Lib.hid ((HX1.out.drewN nq).trans hx3)
          have H2 := Lib.hid h2
          have h1' : w.heap.size ≤ N := Nat.le_trans hz1 h1
          clear hx3 h1 h2
          go_wp2
          exact ⟨rfl, .inr ⟨_, HN.out, _, rfl, h1', H2.out⟩, HX3.out.toBut _⟩
end Go.Proofs.YtiihnoelclnahaaGreatDoor
namespace Go.Proofs.YtiihnoelclnahaaGreatDoor
open Go.RowKit
set_option linter.unusedVariables false
theorem Tryz.assertFault (a : Addr) (w : World) : (Instr.typeAssert (.iface 43 (.pointer (some a))) 20 43 true).run Tryz.prog w = .ok (.tuple #[.pointer (some a), .bool true]) w := by kernel_rfl
theorem Tryz.assertNil (w : World) : (Instr.typeAssert .nilIface 20 43 true).run Tryz.prog w = .ok (.tuple #[.pointer none, .bool false]) w := by kernel_rfl
set_option maxRecDepth 100000 in
theorem catch_fault (bO bE N : Nat) (v0 e0 : Value) (older : List PanicEntry) (w : World) (cO : w.cell? ⟨bO, 0, none⟩ = some v0) (fO : w.frozen? ⟨bO, 0, none⟩ = false) (cE : w.cell? ⟨bE, 0, none⟩ = some e0) (fE : w.frozen? ⟨bE, 0, none⟩ = false) (hne : bO ≠ bE) :
    CallsD Tryz.prog 22 #[.pointer (some ⟨bO, 0, none⟩), .pointer (some ⟨bE, 0, none⟩)] (.panicking ({ v := .iface 43 (.pointer (some ⟨N, 0, none⟩)), recovered := false } :: older)) w fun e u' w' =>
      e = .returned (.tuple #[]) ∧ u' = .panicking ({ v := .iface 43 (.pointer (some ⟨N, 0, none⟩)), recovered := true } :: older) ∧ w' = (w.setCell ⟨bO, 0, none⟩ (.slice none 0 0)).setCell ⟨bE, 0, none⟩ (.iface 43 (.pointer (some ⟨N, 0, none⟩))) := by
  refine callsD_of_wpS Tryz.func22 rfl fun c₀ cs hu => ?_
  apply wpS_seq
  apply wpS_region
  have hta := Tryz.assertFault
  simp [wpOpsS, go_sem, recoverD, hu, Tryz.ntmps22, Exit.thenS, hta]
  apply wpS_seq
  apply wpS_region
  simp [wpOpsS, go_sem, Exit.thenS]
  refine wpS_cond (t := true) (by simp [Act.eval, Array.replicate]) ?_
  simp only [if_true]
  apply wpS_region
  have cE2 : (w.setCell ⟨bO, 0, none⟩ (.slice none 0 0)).cell? ⟨bE, 0, none⟩ = some e0 := by
    rw [World.cell?_setCell_other _ _ _ _ (by intro h; injection h with h1 h2; exact hne h1)]; exact cE
  simp [wpOpsS, go_sem, cO, fO, cE2, fE, bodyPostS, results, Tryz.results22]
set_option maxRecDepth 100000 in
theorem catch_idle (bO bE : Nat) (w : World) :
    CallsD Tryz.prog 22 #[.pointer (some ⟨bO, 0, none⟩), .pointer (some ⟨bE, 0, none⟩)] .returning w fun e u' w' => e = .returned (.tuple #[]) ∧ u' = .returning ∧ w' = w := by
  refine callsD_of_wpS Tryz.func22 rfl fun c₀ cs hu => ?_
  apply wpS_seq
  apply wpS_region
  have hta := Tryz.assertNil
  simp [wpOpsS, go_sem, recoverD, hu, Tryz.ntmps22, Exit.thenS, hta]
  apply wpS_seq
  apply wpS_region
  simp [wpOpsS, go_sem, Exit.thenS]
  refine wpS_cond (t := false) (by simp [Act.eval, Array.replicate]) ?_
  simp only [Bool.false_eq_true, if_false]
  refine wpS_of_wp (wp_skip ?_)
  cases c₀
  simp_all [bodyPostS, results, Tryz.results22]
end Go.Proofs.YtiihnoelclnahaaGreatDoor
namespace Go.Proofs.YtiihnoelclnahaaGreatDoor
open Go.RowKit
set_option linter.unusedVariables false
theorem Tryz.infoI64 : (Tryz.prog.info? 2).map (fun i => (i.zero, i.size, i.bytes)) = some (some (.int .i64 0), 1, 8) := by kernel_rfl
theorem Tryz.infoRow : (Tryz.prog.info? 38).map (fun i => (i.zero, i.size, i.bytes)) = some (some (.slice none 0 0), 1, 24) := by kernel_rfl
theorem Tryz.infoRows : (Tryz.prog.info? 39).map (fun i => (i.zero, i.size, i.bytes)) = some (some (.slice none 0 0), 1, 24) := by kernel_rfl
theorem make_row (m : Int) (n : Nat) (h : m = n) (hn : n ≤ 1099511627776) (w : World) :
    (Instr.makeSlice 38 (.int .i64 m) (.int .i64 m)).run Tryz.prog w = .ok (.slice (some ⟨w.heap.size, 0, none⟩) n n) (w.alloc (.cells (Array.replicate n (.int .i64 0)) 2)) := by
  subst h
  obtain ⟨i0, hi, hz0, hz1, hz2⟩ := info_parts Tryz.infoI64
  have hr := run_make (P := Tryz.prog) w 38 2 i0 _ Tryz.underlying38 hi hz0 .i64 .i64 n n (by omega) (by omega) (by rw [hz2]; omega) (by omega)
  simp only [Int.toNat_natCast] at hr
  rw [hr, hz1, Nat.mul_one]
  have : madeCells (Value.int IntKind.i64 0).cells n = Array.replicate n (.int .i64 0) := by
    unfold madeCells
    apply Array.ext
    · simp
    · intro i h1 h2
      simp [Value.cells, Nat.mod_one]
  rw [this]
theorem make_rows (m : Int) (n : Nat) (h : m = n) (hn : n ≤ 1099511627776) (w : World) :
    (Instr.makeSlice 39 (.int .i64 m) (.int .i64 m)).run Tryz.prog w = .ok (.slice (some ⟨w.heap.size, 0, none⟩) n n) (w.alloc (.cells (Array.replicate n (.slice none 0 0)) 38)) := by
  subst h
  obtain ⟨i0, hi, hz0, hz1, hz2⟩ := info_parts Tryz.infoRow
  have hr := run_make (P := Tryz.prog) w 39 38 i0 _ Tryz.underlying39 hi hz0 .i64 .i64 n n (by omega) (by omega) (by rw [hz2]; omega) (by omega)
  simp only [Int.toNat_natCast] at hr
  rw [hr, hz1, Nat.mul_one]
  have : madeCells (Value.slice none 0 0).cells n = Array.replicate n (.slice none 0 0) := by
    unfold madeCells
    apply Array.ext
    · simp
    · intro i h1 h2
      simp [Value.cells, Nat.mod_one]
  rw [this]
/-- The blocks of a from B on lie so in w. -/
structure Fr (B : Nat) (a w : World) : Prop where
  size : a.heap.size ≤ w.heap.size
  keep : ∀ b : Nat, B ≤ b → b < a.heap.size → w.heap[b]? = a.heap[b]?
theorem Fr.refl (B : Nat) (w : World) : Fr B w w := ⟨Nat.le_refl _, fun _ _ _ => rfl⟩
theorem Fr.trans {B : Nat} {a b c : World} (h : Fr B a b) (k : Fr B b c) : Fr B a c :=
  ⟨Nat.le_trans h.size k.size, fun x hB hx => (k.keep x hB (Nat.lt_of_lt_of_le hx h.size)).trans (h.keep x hB hx)⟩
theorem Ext.fr {a w : World} (h : Ext a w) (B : Nat) : Fr B a w := ⟨h.size, fun x _ hx => Below.block h x hx⟩
theorem Fr.ext {B : Nat} {a b c : World} (h : Fr B a b) (k : Ext b c) : Fr B a c := h.trans (k.fr B)
theorem ExtBut.fr {B : Nat} {a w : World} {b : Nat} (h : ExtBut (fun x => x = b) a w) (hb : b < B) : Fr B a w := ⟨h.size, fun x hB hx => h.block x hx (by omega)⟩
/-- A store into a new block, or into one below B. -/
theorem Fr.set_ {B : Nat} {a w : World} (h : Fr B a w) {p : Addr} (hp : a.heap.size ≤ p.block ∨ p.block < B) (u : Value) : Fr B a (w.setCell p u) :=
  ⟨by simpa [World.setCell] using h.size, fun x hB hx => (Below.heap_setCell w p u x (by rintro rfl; omega)).trans (h.keep x hB hx)⟩
/-- A block whose first k rows are made; the entries. -/
structure MatI (w : World) (lo g n k : Nat) (h : Nat → Nat) (m : Nat → Nat → Int) : Prop where
  made : ∀ i, i < k → w.cell? ⟨g, i, none⟩ = some (.slice (some ⟨h i, 0, none⟩) n n)
  nil : ∀ i, k ≤ i → i < n → w.cell? ⟨g, i, none⟩ = some (.slice none 0 0)
  gfree : ∀ o, w.frozen? ⟨g, o, none⟩ = false
  gtyp : TB w 38 g
  glow : lo ≤ g
  row : ∀ i, i < k → ∀ j, j < n → w.cell? ⟨h i, j, none⟩ = some (.int .i64 (m i j))
  free : ∀ i, i < k → ∀ o, w.frozen? ⟨h i, o, none⟩ = false
  typ : ∀ i, i < k → TB w 2 (h i)
  low : ∀ i, i < k → lo ≤ h i
  inj : ∀ i j, i < k → j < k → h i = h j → i = j
theorem MatI.keep {w w' : World} {lo g n k : Nat} {h : Nat → Nat} {m : Nat → Nat → Int} (M : MatI w lo g n k h m) (f : Fr lo w w') : MatI w' lo g n k h m := by
  have hg := f.keep g M.glow M.gtyp.lt
  have hr := fun i hi => f.keep (h i) (M.low i hi) (M.typ i hi).lt
  have cg : ∀ o, w'.cell? ⟨g, o, none⟩ = w.cell? ⟨g, o, none⟩ := fun o => by simp only [World.cell?, hg]
  have ch : ∀ i, i < k → ∀ o, w'.cell? ⟨h i, o, none⟩ = w.cell? ⟨h i, o, none⟩ := fun i hi o => by simp only [World.cell?, hr i hi]
  exact ⟨fun i hi => (cg i).trans (M.made i hi), fun i h1 h2 => (cg i).trans (M.nil i h1 h2), fun o => by rw [← M.gfree o]; simp only [World.frozen?, hg], M.gtyp.of_eq hg, M.glow,
    fun i hi j hj => (ch i hi j).trans (M.row i hi j hj), fun i hi o => by rw [← M.free i hi o]; simp only [World.frozen?, hr i hi], fun i hi => (M.typ i hi).of_eq (hr i hi), M.low, M.inj⟩
theorem MatI.congr {w : World} {lo g n k : Nat} {h : Nat → Nat} {m m' : Nat → Nat → Int} (M : MatI w lo g n k h m) (e : ∀ i j, i < k → j < n → m i j = m' i j) : MatI w lo g n k h m' :=
  ⟨M.made, M.nil, M.gfree, M.gtyp, M.glow, fun i hi j hj => by rw [← e i j hi hj]; exact M.row i hi j hj, M.free, M.typ, M.low, M.inj⟩
theorem MatI.weak {w : World} {lo lo' g n k : Nat} {h : Nat → Nat} {m : Nat → Nat → Int} (M : MatI w lo g n k h m) (hl : lo' ≤ lo) : MatI w lo' g n k h m :=
  ⟨M.made, M.nil, M.gfree, M.gtyp, Nat.le_trans hl M.glow, M.row, M.free, M.typ, fun i hi => Nat.le_trans hl (M.low i hi), M.inj⟩
theorem MatI.ne {w : World} {lo g n k : Nat} {h : Nat → Nat} {m : Nat → Nat → Int} (M : MatI w lo g n k h m) {i : Nat} (hi : i < k) : h i ≠ g := (M.typ i hi).ne M.gtyp (by decide)
theorem MatI.new (w : World) (n lo : Nat) (h : Nat → Nat) (m : Nat → Nat → Int) (hl : lo ≤ w.heap.size) : MatI (w.alloc (.cells (Array.replicate n (.slice none 0 0)) 38)) lo w.heap.size n 0 h m := by
  have hh := heap_new w (.cells (Array.replicate n (.slice none 0 0)) 38)
  exact ⟨fun i hi => by omega, fun i _ hi => by rw [cell_of_row _ _ _ _ _ _ hh]; simp [hi], fun o => by simp only [World.frozen?, hh]; rfl, ⟨_, _, hh⟩, hl, fun i hi => by omega, fun i hi => by omega, fun i hi => by omega, fun i hi => by omega, fun i j hi => by omega⟩
/-- A row more is made. -/
theorem MatI.grow {w : World} {lo g n k : Nat} {h : Nat → Nat} {m : Nat → Nat → Int} (M : MatI w lo g n k h m) (hk : k < n) (hl : lo ≤ w.heap.size) :
    MatI ((w.alloc (.cells (Array.replicate n (.int .i64 0)) 2)).setCell ⟨g, k, none⟩ (.slice (some ⟨w.heap.size, 0, none⟩) n n)) lo g n (k + 1) (fun i => if i = k then w.heap.size else h i) (fun i j => if i = k then 0 else m i j) := by
  have hx : Ext w (w.alloc (.cells (Array.replicate n (.int .i64 0)) 2)) := (Ext.refl w).alloc _
  have M1 := M.keep (hx.fr lo)
  have hh := heap_new w (.cells (Array.replicate n (.int .i64 0)) 2)
  obtain ⟨W, hW⟩ : ∃ W, w.alloc (.cells (Array.replicate n (.int .i64 0)) 2) = W := ⟨_, rfl⟩
  rw [hW] at hx M1 hh ⊢
  have hgl := M.gtyp.lt
  have ho : ∀ b o, b ≠ g → (W.setCell ⟨g, k, none⟩ (.slice (some ⟨w.heap.size, 0, none⟩) n n)).cell? ⟨b, o, none⟩ = W.cell? ⟨b, o, none⟩ := fun b o hb => World.cell?_setCell_other _ _ _ _ (by intro e; injection e with e1 _; exact hb e1.symm)
  have hg2 : ∀ i, i ≠ k → (W.setCell ⟨g, k, none⟩ (.slice (some ⟨w.heap.size, 0, none⟩) n n)).cell? ⟨g, i, none⟩ = W.cell? ⟨g, i, none⟩ := fun i hi => World.cell?_setCell_other _ _ _ _ (by intro e; injection e with _ e2; exact hi e2.symm)
  have hts : ∀ t b, TB W t b → TB (W.setCell ⟨g, k, none⟩ (.slice (some ⟨w.heap.size, 0, none⟩) n n)) t b := fun t b hb => hb.set_ _ _
  have hnew : w.heap.size ≠ g := by omega
  have hlt : ∀ i, i < k → h i < w.heap.size := fun i hi => (M.typ i hi).lt
  refine ⟨fun i hi => ?_, fun i h1 h2 => ?_, fun o => by rw [World.frozen?_setCell]; exact M1.gfree o, hts _ _ M1.gtyp, M.glow, fun i hi j hj => ?_, fun i hi o => ?_, fun i hi => ?_, fun i hi => ?_, fun i j hi hj e => ?_⟩
  · by_cases e : i = k
    · subst e; rw [if_pos rfl]; exact setc (M1.nil i (Nat.le_refl _) hk)
    · rw [if_neg e, hg2 i e]; exact M1.made i (by omega)
  · rw [hg2 i (by omega)]; exact M1.nil i (by omega) h2
  · by_cases e : i = k
    · subst e
      simp only [if_pos]
      rw [ho _ _ hnew, cell_of_row _ _ _ _ _ _ hh]; simp [hj]
    · simp only [if_neg e]
      rw [ho _ _ (M1.ne (by omega))]; exact M1.row i (by omega) j hj
  · rw [World.frozen?_setCell]
    by_cases e : i = k
    · subst e; simp only [if_pos]; simp only [World.frozen?, hh]; rfl
    · simp only [if_neg e]; exact M1.free i (by omega) o
  · by_cases e : i = k
    · subst e; simp only [if_pos]; exact hts _ _ ⟨_, _, hh⟩
    · simp only [if_neg e]; exact hts _ _ (M1.typ i (by omega))
  · by_cases e : i = k
    · subst e; simp only [if_pos]; exact hl
    · simp only [if_neg e]; exact M1.low i (by omega)
  · by_cases e1 : i = k
    · by_cases e2 : j = k
      · omega
      · simp only [if_pos e1, if_neg e2] at e; have := hlt j (by omega); omega
    · by_cases e2 : j = k
      · simp only [if_neg e1, if_pos e2] at e; have := hlt i (by omega); omega
      · simp only [if_neg e1, if_neg e2] at e; exact M.inj i j (by omega) (by omega) e
/-- An entry is set. -/
theorem MatI.set_ {w : World} {lo g n k : Nat} {h : Nat → Nat} {m : Nat → Nat → Int} (M : MatI w lo g n k h m) {i j : Nat} (hi : i < k) (hj : j < n) (z : Int) :
    MatI (w.setCell ⟨h i, j, none⟩ (.int .i64 z)) lo g n k h (fun a b => if a = i ∧ b = j then z else m a b) := by
  have ho : ∀ b o, (⟨h i, j, none⟩ : Addr) ≠ ⟨b, o, none⟩ → (w.setCell ⟨h i, j, none⟩ (.int .i64 z)).cell? ⟨b, o, none⟩ = w.cell? ⟨b, o, none⟩ := fun b o hb => World.cell?_setCell_other _ _ _ _ hb
  have hg : ∀ o, (⟨h i, j, none⟩ : Addr) ≠ ⟨g, o, none⟩ := fun o e => by injection e with e1 _; exact M.ne hi e1
  refine ⟨fun a ha => (ho _ _ (hg _)).trans (M.made a ha), fun a h1 h2 => (ho _ _ (hg _)).trans (M.nil a h1 h2), fun o => by rw [World.frozen?_setCell]; exact M.gfree o, M.gtyp.set_ _ _, M.glow, fun a ha b hb => ?_, fun a ha o => by rw [World.frozen?_setCell]; exact M.free a ha o, fun a ha => (M.typ a ha).set_ _ _, M.low, M.inj⟩
  by_cases e : a = i ∧ b = j
  · rw [if_pos e, e.1, e.2]; exact setc (M.row i hi j hj)
  · rw [if_neg e]
    rw [ho _ _ (by intro e'; injection e' with e1 e2; exact e ⟨M.inj _ _ ha hi e1.symm, e2.symm⟩)]
    exact M.row a ha b hb
theorem matOf_len (n : Nat) (l : List Int) : (matOf n l).length = n := by unfold matOf; simp
theorem matOf_row {n i : Nat} {l : List Int} {r : List Int} (h : (matOf n l)[i]? = some r) : i < n ∧ r = (List.range n).map fun j => ent l i j := by
  unfold matOf at h
  rw [List.getElem?_map] at h
  rcases Nat.lt_or_ge i n with hi | hi
  · rw [List.getElem?_range hi] at h
    simp only [Option.map_some, Option.some.injEq] at h
    exact ⟨hi, h.symm⟩
  · rw [List.getElem?_eq_none (by simpa using hi)] at h; cases h
/-- A matrix as rows. -/
theorem MatI.rows {w : World} {lo g n : Nat} {h : Nat → Nat} {l : List Int} (M : MatI w lo g n n h (ent l)) : IsRows w (some ⟨g, 0, none⟩) (matOf n l) := by
  intro _
  refine ⟨g, 0, rfl, M.gtyp.lt, fun i r hr => ?_⟩
  obtain ⟨hi, rfl⟩ := matOf_row hr
  refine ⟨some ⟨h i, 0, none⟩, n, by rw [Nat.zero_add, M.made i hi]; simp, by simp, fun _ => ⟨h i, 0, rfl, (M.typ i hi).lt, fun j z hj => ?_⟩⟩
  rw [List.getElem?_map] at hj
  rcases Nat.lt_or_ge j n with hjn | hjn
  · rw [List.getElem?_range hjn] at hj
    simp only [Option.map_some, Option.some.injEq] at hj
    rw [Nat.zero_add, M.row i hi j hjn, hj]
  · rw [List.getElem?_eq_none (by simpa using hjn)] at hj; cases hj
/-- The lists so far, in a row of the call's own. -/
def Forms (w : World) (B : Nat) (v : Value) (ls : List (List (List Int))) : Prop :=
  ∃ cs : List Value, w.ownsRow B 39 1 v ls.length cs ∧ ∀ (i : Nat) (f : List (List Int)), ls[i]? = some f → ∃ g n h l, cs[i]? = some (.slice (some ⟨g, 0, none⟩) n n) ∧ f = matOf n l ∧ MatI w B g n n h (ent l)
theorem lt_of_row {w : World} {g : Nat} {o : Obj} (h : w.heap[g]? = some o) : g < w.heap.size := (Array.getElem?_eq_some_iff.1 h).1
theorem ownsRow_fr {w w' : World} {base n : Nat} {v : Value} {xs : List Value} (h : w.ownsRow base 39 1 v n xs) (f : Fr base w w') : w'.ownsRow base 39 1 v n xs := by
  obtain ⟨hl, h1 | ⟨g, cap, cur, hv, hb, hh, r⟩⟩ := h
  · exact ⟨hl, .inl h1⟩
  · exact ⟨hl, .inr ⟨g, cap, cur, hv, hb, (f.keep g hb (lt_of_row hh)).trans hh, r⟩⟩
theorem Forms.keep {w w' : World} {B : Nat} {v : Value} {ls : List (List (List Int))} (h : Forms w B v ls) (f : Fr B w w') : Forms w' B v ls := by
  obtain ⟨cs, h1, h2⟩ := h
  refine ⟨cs, ownsRow_fr h1 f, fun i r hr => ?_⟩
  obtain ⟨g, n, h, l, q1, q2, q3⟩ := h2 i r hr
  exact ⟨g, n, h, l, q1, q2, q3.keep f⟩
theorem Forms.nil (w : World) (B : Nat) : Forms w B (.slice none 0 0) [] := ⟨[], ⟨rfl, .inl ⟨rfl, rfl⟩⟩, fun i f h => by simp at h⟩
theorem Forms.value {w : World} {B : Nat} {v : Value} {ls : List (List (List Int))} (h : Forms w B v ls) : ∃ A c, v = .slice A ls.length c ∧ IsForms w A ls := by
  obtain ⟨cs, h1, h2⟩ := h
  obtain ⟨hl, ⟨rfl, h0⟩ | ⟨g, cap, cur, hv, hb, hh, r1, r2, r3, r4⟩⟩ := h1
  · exact ⟨none, 0, by rw [h0], fun hp => by omega⟩
  · refine ⟨_, cap, hv, fun _ => ⟨g, 0, rfl, lt_of_row hh, fun i rows hi => ?_⟩⟩
    obtain ⟨g2, n2, h2', l2, q1, q2, q3⟩ := h2 i rows hi
    refine ⟨some ⟨g2, 0, none⟩, n2, ?_, by rw [q2, matOf_len]; exact Nat.le_refl _, by rw [q2]; exact q3.rows⟩
    rw [Nat.zero_add, cell_of_row _ _ _ _ _ _ hh]
    have e := congrArg (fun q : List Value => q[i]?) r4
    have hil := (List.getElem?_eq_some_iff.1 hi).1
    simp only [List.getElem?_take, Nat.mul_one, hil, if_true, Array.getElem?_toList] at e
    rw [e, q1, q2, matOf_len]
theorem Forms.lowT {w : World} {B : Nat} {v : Value} {ls : List (List (List Int))} (h : Forms w B v ls) : ∀ k, v.ownBlock = some k → B ≤ k ∧ TB w 39 k := by
  intro k hk
  obtain ⟨cs, h1, _⟩ := h
  refine ⟨(h1.lt k hk).1, ?_⟩
  obtain ⟨hl, ⟨rfl, h0⟩ | ⟨g, cap, cur, rfl, hb, hh, r⟩⟩ := h1
  · cases hk
  · have : g = k := by simpa [Value.ownBlock] using hk
    subst this; exact ⟨_, _, hh⟩
/-- Rows and matrices live on where the row of lists grows. -/
theorem MatI.grown {w w' : World} {B lo g n k : Nat} {v : Value} {ls : List (List (List Int))} {h : Nat → Nat} {m : Nat → Nat → Int} (M : MatI w lo g n k h m) (F : Forms w B v ls) (hg : w.grownBy w' v.ownBlock) : MatI w' lo g n k h m := by
  have hb : ∀ b t, (t = 2 ∨ t = 38) → TB w t b → w'.heap[b]? = w.heap[b]? := fun b t ht hx => hg.block b hx.lt (by
    intro e
    have := (F.lowT b e.symm).2
    refine absurd rfl (hx.ne this ?_)
    rcases ht with rfl | rfl <;> decide)
  have h1 := hb g _ (.inr rfl) M.gtyp
  have hr := fun i hi => hb (h i) _ (.inl rfl) (M.typ i hi)
  have cg : ∀ o, w'.cell? ⟨g, o, none⟩ = w.cell? ⟨g, o, none⟩ := fun o => by simp only [World.cell?, h1]
  have ch : ∀ i, i < k → ∀ o, w'.cell? ⟨h i, o, none⟩ = w.cell? ⟨h i, o, none⟩ := fun i hi o => by simp only [World.cell?, hr i hi]
  exact ⟨fun i hi => (cg i).trans (M.made i hi), fun i q1 q2 => (cg i).trans (M.nil i q1 q2), fun o => by rw [← M.gfree o]; simp only [World.frozen?, h1], M.gtyp.of_eq h1, M.glow,
    fun i hi j hj => (ch i hi j).trans (M.row i hi j hj), fun i hi o => by rw [← M.free i hi o]; simp only [World.frozen?, hr i hi], fun i hi => (M.typ i hi).of_eq (hr i hi), M.low, M.inj⟩
/-- append(out, a), a lying in a new block of one cell. -/
theorem wpList_append_form {W : World} {ops : Array Oper} {rest : List Oper} {o : Oper} {a : Act} {Q : Exit → Act → World → Prop} (hgd : o.guard = none) (s x : Operand)
    (ho : o.op = .call { callee := .builtin .append, args := #[s, x], argTypes := #[22, 22] })
    (B : Nat) (v : Value) (ls : List (List (List Int))) (hs : a.eval s = v) (hF : Forms W B v ls) (g n : Nat) (h : Nat → Nat) (l : List Int) (M : MatI W B g n n h (ent l)) (hx : a.eval x = .slice (some ⟨W.heap.size, 0, none⟩) 1 1)
    (hl : ls.length ≤ 1000000) (hbase : B ≤ W.heap.size)
    (h2 : ∀ v' w', Hid (Forms w' B v' (ls ++ [matOf n l])) → Hid (Below B W w') → wpList Tryz.prog ops Q rest (a.put o.dst v') w') : wpList Tryz.prog ops Q (o :: rest) a (W.alloc (.cells #[.slice (some ⟨g, 0, none⟩) n n] 39)) := by
  obtain ⟨W1, hW1⟩ : ∃ W1, W.alloc (.cells #[.slice (some ⟨g, 0, none⟩) n n] 39) = W1 := ⟨_, rfl⟩
  have hx1 : Ext W W1 := by rw [← hW1]; exact (Ext.refl W).alloc _
  have hc : W1.cell? ⟨W.heap.size, 0, none⟩ = some (.slice (some ⟨g, 0, none⟩) n n) := by
    rw [← hW1, cell_of_row _ _ _ _ _ _ (heap_new W _)]; rfl
  have F1 := hF.keep (hx1.fr B)
  have M1 := M.keep (hx1.fr B)
  rw [hW1]
  obtain ⟨cs, own, hall⟩ := F1
  obtain ⟨i0, hi, hz0, hz1, hz2⟩ := info_parts Tryz.infoRows
  refine wpList_append_own (P := Tryz.prog) W1 hgd s x 22 ho B 39 i0 (.slice none 0 0) 1 24 Tryz.underlying22 hi hz0 hz1 hz2 rfl (by decide) v ls.length cs hs own ⟨W.heap.size, 0, none⟩ 1 1 [.slice (some ⟨g, 0, none⟩) n n] hx rfl ?_ ?_ (by unfold maxLen; omega) (by omega) (Nat.le_trans hbase hx1.size) ?_
  · intro j u hj
    match j, hj with
    | 0, hj =>
      simp at hj; subst hj
      have ea : (⟨W.heap.size, 0, none⟩ : Addr).add 0 = ⟨W.heap.size, 0, none⟩ := by unfold Addr.add; simp
      rw [ea]; exact hc
  · intro u hu; simp at hu; subst hu; rfl
  · intro v' w' hv hg _
    have F1' : Forms W1 B v ls := ⟨cs, own, hall⟩
    refine h2 v' w' ⟨cs ++ [.slice (some ⟨g, 0, none⟩) n n], by rw [List.length_append]; exact hv, fun i f hf => ?_⟩ (Below.trans (Below.mono hx1 hbase) (Below.grown (Below.refl _ _) hg (Nat.le_trans hbase hx1.size) fun k hk => (F1'.lowT k hk).1))
    have hcl : cs.length = ls.length := by have := own.1; omega
    rcases Nat.lt_trichotomy i ls.length with hil | hil | hil
    · rw [List.getElem?_append_left hil] at hf
      obtain ⟨g2, n2, h2', l2, q1, q2, q3⟩ := hall i f hf
      exact ⟨g2, n2, h2', l2, by rw [List.getElem?_append_left (by omega)]; exact q1, q2, q3.grown F1' hg⟩
    · subst hil
      rw [List.getElem?_append_right (Nat.le_refl _), Nat.sub_self] at hf
      simp at hf
      exact ⟨g, n, h, l, by rw [← hcl, List.getElem?_append_right (Nat.le_refl _), Nat.sub_self]; rfl, hf.symm, M1.grown F1' hg⟩
    · rw [List.getElem?_eq_none (by rw [List.length_append, List.length_cons, List.length_nil]; omega)] at hf; cases hf
/-- save.Read's variables: the text, the error, the place, fail. -/
structure RdInv (w0 wr : World) (s : ByteArray) (bS bO bE bA bF : Nat) (p : Nat) : Prop where
  S : wr.cell? ⟨bS, 0, none⟩ = some (.string s)
  E : wr.cell? ⟨bE, 0, none⟩ = some .nilIface
  fE : wr.frozen? ⟨bE, 0, none⟩ = false
  fO : wr.frozen? ⟨bO, 0, none⟩ = false
  A : wr.cell? ⟨bA, 0, none⟩ = some (.int .i64 p)
  fA : wr.frozen? ⟨bA, 0, none⟩ = false
  F : wr.cell? ⟨bF, 0, none⟩ = some (.func (.func 21) #[] #[])
  X : Ext w0 wr
  lO : bO < wr.heap.size
theorem RdInv.ext {w0 wr w' : World} {s : ByteArray} {bS bO bE bA bF p : Nat} (h : RdInv w0 wr s bS bO bE bA bF p) (hx : Ext wr w') : RdInv w0 w' s bS bO bE bA bF p :=
  ⟨hx.cell h.S, hx.cell h.E, hx.free h.fE (lt_of_cell h.E), hx.free h.fO h.lO, hx.cell h.A, hx.free h.fA (lt_of_cell h.A), hx.cell h.F, h.X.trans hx, Nat.lt_of_lt_of_le h.lO hx.size⟩
/-- All below B stays. -/
theorem RdInv.below {w0 wr w' : World} {s : ByteArray} {bS bO bE bA bF p B : Nat} (h : RdInv w0 wr s bS bO bE bA bF p) (hx : Below B wr w') (hB : bS < B ∧ bO < B ∧ bE < B ∧ bA < B ∧ bF < B ∧ w0.heap.size ≤ B) : RdInv w0 w' s bS bO bE bA bF p := by
  obtain ⟨h1, h2, h3, h4, h5, h6⟩ := hB
  exact ⟨old hx h.S h1, old hx h.E h3, oldf hx h.fE h3, oldf hx h.fO h2, old hx h.A h4, oldf hx h.fA h4, old hx h.F h5, Below.trans h.X (Below.mono hx h6), Nat.lt_of_lt_of_le h.lO hx.size⟩
theorem RdInv.but {w0 wr w' : World} {s : ByteArray} {bS bO bE bA bF p q : Nat} (h : RdInv w0 wr s bS bO bE bA bF p) (hx : ExtBut (fun x => x = bA) wr w') (cA : w'.cell? ⟨bA, 0, none⟩ = some (.int .i64 q)) (fA : w'.frozen? ⟨bA, 0, none⟩ = false) (hO : w0.heap.size ≤ bA)
    (hne : bS ≠ bA ∧ bE ≠ bA ∧ bO ≠ bA ∧ bF ≠ bA) : RdInv w0 w' s bS bO bE bA bF q :=
  ⟨hx.cell h.S hne.1, hx.cell h.E hne.2.1, hx.free h.fE (lt_of_cell h.E) hne.2.1, hx.free h.fO h.lO hne.2.2.1, cA, fA, hx.cell h.F hne.2.2.2, h.X.but hx (by rintro g rfl; exact hO), Nat.lt_of_lt_of_le h.lO hx.size⟩
/-- A store elsewhere. -/
theorem RdInv.set_ {w0 wr : World} {s : ByteArray} {bS bO bE bA bF p : Nat} (h : RdInv w0 wr s bS bO bE bA bF p) {b o : Nat} (u : Value) (hb : b ≠ bS ∧ b ≠ bE ∧ b ≠ bA ∧ b ≠ bF) (hO : w0.heap.size ≤ b) : RdInv w0 (wr.setCell ⟨b, o, none⟩ u) s bS bO bE bA bF p := by
  have ho : ∀ x, b ≠ x → (wr.setCell ⟨b, o, none⟩ u).cell? ⟨x, 0, none⟩ = wr.cell? ⟨x, 0, none⟩ := fun x hx => World.cell?_setCell_other _ _ _ _ (by intro e; injection e with e1 _; exact hx e1)
  obtain ⟨h1, h2, h3, h4⟩ := hb
  exact ⟨(ho _ h1).trans h.S, (ho _ h2).trans h.E, by rw [World.frozen?_setCell]; exact h.fE, by rw [World.frozen?_setCell]; exact h.fO, (ho _ h3).trans h.A, by rw [World.frozen?_setCell]; exact h.fA, (ho _ h4).trans h.F, h.X.setCell hO u, by simpa [World.setCell] using h.lO⟩
theorem RdInv.putA {w0 wr : World} {s : ByteArray} {bS bO bE bA bF p : Nat} (h : RdInv w0 wr s bS bO bE bA bF p) (q : Nat) (hO : w0.heap.size ≤ bA) (hne : bS ≠ bA ∧ bE ≠ bA ∧ bO ≠ bA ∧ bF ≠ bA) : RdInv w0 (wr.setCell ⟨bA, 0, none⟩ (.int .i64 (q : Nat))) s bS bO bE bA bF q :=
  h.but ((ExtBut.refl (fun x => x = bA) wr).setCell (p := ⟨bA, 0, none⟩) (.inl rfl) _) (setc h.A) (by rw [World.frozen?_setCell]; exact h.fA) hO hne
end Go.Proofs.YtiihnoelclnahaaGreatDoor
namespace Go.Proofs.YtiihnoelclnahaaGreatDoor
set_option linter.unusedSimpArgs false
open Go.RowKit
set_option linter.unusedVariables false
/-- What Read leaves: the lists, or a fault. -/
def ReadPost (r : Except (Int × Nat) (List (List (List Int)))) (w : World) (e : Ending) (w' : World) : Prop :=
  Ext w w' ∧ ((∃ ls A c, r = .ok ls ∧ e = .returned (.tuple #[.slice A ls.length c, .nilIface]) ∧ IsForms w' A ls) ∨
    (∃ code a N, r = .error (code, a) ∧ e = .returned (.tuple #[.slice none 0 0, .iface 43 (.pointer (some ⟨N, 0, none⟩))]) ∧ w.heap.size ≤ N ∧ IsFault w' N code a))
/-- The named results are read. -/
theorem read_results {tmps : Array Value} {bO bE : Nat} {v e : Value} {w : World} (h2 : tmps[2]? = some (.pointer (some ⟨bO, 0, none⟩))) (h3 : tmps[3]? = some (.pointer (some ⟨bE, 0, none⟩)))
    (cO : w.cell? ⟨bO, 0, none⟩ = some v) (cE : w.cell? ⟨bE, 0, none⟩ = some e) : (results Tryz.f11 tmps).run Tryz.prog w = .ok (.tuple #[v, e]) w := by
  have e2 : tmps.getD 2 undef = .pointer (some ⟨bO, 0, none⟩) := by rw [Array.getD_eq_getD_getElem?, h2]; rfl
  have e3 : tmps.getD 3 undef = .pointer (some ⟨bE, 0, none⟩) := by rw [Array.getD_eq_getD_getElem?, h3]; rfl
  simp [results, Tryz.results11, go_sem, h2, h3, cO, cE]
/-- A fault that goes through the door. -/
theorem read_caught {tmps : Array Value} {w0 w : World} {r : Except (Int × Nat) (List (List (List Int)))} {bO bE N a : Nat} {code : Int} {v e : Value} (hr : r = .error (code, a)) (h2 : tmps[2]? = some (.pointer (some ⟨bO, 0, none⟩))) (h3 : tmps[3]? = some (.pointer (some ⟨bE, 0, none⟩)))
    (cO : w.cell? ⟨bO, 0, none⟩ = some v) (fO : w.frozen? ⟨bO, 0, none⟩ = false) (cE : w.cell? ⟨bE, 0, none⟩ = some e) (fE : w.frozen? ⟨bE, 0, none⟩ = false) (hne : bO ≠ bE) (hF : IsFault w N code a) (nO : N ≠ bO) (nE : N ≠ bE) (hN : w0.heap.size ≤ N) (hO : w0.heap.size ≤ bO) (hE : w0.heap.size ≤ bE) (hX : Ext w0 w) :
    Leaves Tryz.prog Tryz.f11 tmps (ReadPost r w0) [{ target := .fn (.func 22) #[.pointer (some ⟨bO, 0, none⟩), .pointer (some ⟨bE, 0, none⟩)], args := #[] }] (.panicking (faultAt N)) w := by
  refine leaves_cons (f := 22) (args := #[.pointer (some ⟨bO, 0, none⟩), .pointer (some ⟨bE, 0, none⟩)]) (by simp) (by simp [go_sem]) ?_
  refine (catch_fault bO bE N v e [] w cO fO cE fE hne).mono ?_
  rintro e1 u' w'' ⟨rfl, rfl, rfl⟩
  have cO2 : ((w.setCell ⟨bO, 0, none⟩ (.slice none 0 0)).setCell ⟨bE, 0, none⟩ (.iface 43 (.pointer (some ⟨N, 0, none⟩)))).cell? ⟨bO, 0, none⟩ = some (.slice none 0 0) := by
    rw [World.cell?_setCell_other _ _ _ _ (by intro h; injection h with h1 h2; exact hne h1.symm)]
    exact setc cO
  have cE2 : ((w.setCell ⟨bO, 0, none⟩ (.slice none 0 0)).setCell ⟨bE, 0, none⟩ (.iface 43 (.pointer (some ⟨N, 0, none⟩)))).cell? ⟨bE, 0, none⟩ = some (.iface 43 (.pointer (some ⟨N, 0, none⟩))) := by
    refine setc (u := e) ?_
    rw [World.cell?_setCell_other _ _ _ _ (by intro h; injection h with h1 h2; exact hne h1)]
    exact cE
  refine ⟨_, read_results h2 h3 cO2 cE2, (hX.setCell hO _).setCell hE _, .inr ⟨code, a, N, hr, rfl, hN, ?_⟩⟩
  unfold IsFault
  rw [Below.heap_setCell _ _ _ _ nE, Below.heap_setCell _ _ _ _ nO]
  exact hF
/-- The end of the text. -/
theorem read_told {tmps : Array Value} {w0 w : World} {r : Except (Int × Nat) (List (List (List Int)))} {bO bE c : Nat} {ls : List (List (List Int))} {A : Option Addr} (hr : r = .ok ls) (h2 : tmps[2]? = some (.pointer (some ⟨bO, 0, none⟩))) (h3 : tmps[3]? = some (.pointer (some ⟨bE, 0, none⟩)))
    (cO : w.cell? ⟨bO, 0, none⟩ = some (.slice A ls.length c)) (cE : w.cell? ⟨bE, 0, none⟩ = some .nilIface) (hF : IsForms w A ls) (hX : Ext w0 w) :
    Leaves Tryz.prog Tryz.f11 tmps (ReadPost r w0) [{ target := .fn (.func 22) #[.pointer (some ⟨bO, 0, none⟩), .pointer (some ⟨bE, 0, none⟩)], args := #[] }] .returning w := by
  refine leaves_cons (f := 22) (args := #[.pointer (some ⟨bO, 0, none⟩), .pointer (some ⟨bE, 0, none⟩)]) (by simp) (by simp [go_sem]) ?_
  refine (catch_idle bO bE w).mono ?_
  rintro e1 u' w'' ⟨rfl, rfl, rfl⟩
  exact ⟨_, read_results h2 h3 cO cE, hX, .inl ⟨ls, A, c, hr, rfl, hF⟩⟩
set_option maxHeartbeats 2000000 in
set_option maxRecDepth 100000 in
theorem read_long (s : ByteArray) (w : World) (hs : 1048576 < s.size) (hm : s.size ≤ 9223372036854775807) :
    Calls Tryz.prog 11 #[.string s] w (ReadPost (.error (3, 0)) w) := by
  have hd : decide ((1048576 : Int) < s.size) = true := by simp; omega
  go_enter_defers Tryz.func11, Tryz.ntmps11
  go_wp2
  obtain ⟨W0, hWW0⟩ : ∃ W0 : World, (((w.alloc (.cells #[.string s] 9)).alloc (.cells #[.slice none 0 0] 22)).alloc (.cells #[.iface 43 (.pointer (some ⟨w.heap.size + 1 + 1 + 1, 0, none⟩))] 32)).alloc (.cells #[.int .i64 3, .int .i64 0, .string ⟨#[]⟩] 47) = W0 := ⟨_, rfl⟩
  have hXW0 : Ext w W0 := by rw [← hWW0]; exact (((((Ext.refl w).alloc _).alloc _).alloc _).alloc _)
  have hsW0 : w.heap.size + 4 ≤ W0.heap.size := by rw [← hWW0]; simp only [World.size_alloc]; omega
  have c0 : W0.cell? ⟨w.heap.size, 0, none⟩ = some (.string s) := by rw [← hWW0]; simp [go_sem]
  have f0 : W0.frozen? ⟨w.heap.size, 0, none⟩ = false := by rw [← hWW0]; simp [go_sem]
  have c1 : W0.cell? ⟨w.heap.size + 1, 0, none⟩ = some (.slice none 0 0) := by rw [← hWW0]; simp [go_sem]
  have f1 : W0.frozen? ⟨w.heap.size + 1, 0, none⟩ = false := by rw [← hWW0]; simp [go_sem]
  have c2 : W0.cell? ⟨w.heap.size + 1 + 1, 0, none⟩ = some (.iface 43 (.pointer (some ⟨w.heap.size + 1 + 1 + 1, 0, none⟩))) := by rw [← hWW0]; simp [go_sem]
  have f2 : W0.frozen? ⟨w.heap.size + 1 + 1, 0, none⟩ = false := by rw [← hWW0]; simp [go_sem]
  have c3a : W0.cell? ⟨w.heap.size + 1 + 1 + 1, 0, none⟩ = some (.int .i64 3) := by rw [← hWW0]; simp [go_sem]
  have f3a : W0.frozen? ⟨w.heap.size + 1 + 1 + 1, 0, none⟩ = false := by rw [← hWW0]; simp [go_sem]
  have c3b : W0.cell? ⟨w.heap.size + 1 + 1 + 1, 1, none⟩ = some (.int .i64 0) := by rw [← hWW0]; simp [go_sem]
  have f3b : W0.frozen? ⟨w.heap.size + 1 + 1 + 1, 1, none⟩ = false := by rw [← hWW0]; simp [go_sem]
  have c3c : W0.cell? ⟨w.heap.size + 1 + 1 + 1, 2, none⟩ = some (.string ⟨#[]⟩) := by rw [← hWW0]; simp [go_sem]
  have f3c : W0.frozen? ⟨w.heap.size + 1 + 1 + 1, 2, none⟩ = false := by rw [← hWW0]; simp [go_sem]
  have HWW0 := Lib.hid hWW0
  clear hWW0
  rw [HWW0.out]
  refine ⟨_, read_results rfl rfl c1 c2, hXW0, .inr ⟨3, 0, w.heap.size + 1 + 1 + 1, rfl, rfl, by omega, ?_⟩⟩
  have := heap_new (((w.alloc (.cells #[.string s] 9)).alloc (.cells #[.slice none 0 0] 22)).alloc (.cells #[.iface 43 (.pointer (some ⟨w.heap.size + 1 + 1 + 1, 0, none⟩))] 32)) (.cells #[.int .i64 3, .int .i64 0, .string ⟨#[]⟩] 47)
  rw [HWW0.out] at this
  unfold IsFault
  simp only [World.size_alloc] at this
  rw [this]; rfl
/-- At the door only the slots 2 and 3 of the frame are read. -/
theorem leaves_same {R : Ending → World → Prop} {tmps tmps' : Array Value} (h2 : tmps'[2]? = tmps[2]?) (h3 : tmps'[3]? = tmps[3]?) : ∀ (ds : List Deferred) (u : FrameMode) (w : World),
    Leaves Tryz.prog Tryz.f11 tmps R ds u w → Leaves Tryz.prog Tryz.f11 tmps' R ds u w := by
  intro ds
  induction ds with
  | nil =>
    intro u w h
    cases u with
    | run => exact h
    | panicking c => exact h
    | returning =>
      obtain ⟨v, hr, hR⟩ := h
      refine ⟨v, ?_, hR⟩
      rw [← hr]
      simp [results, Tryz.results11, h2, h3]
  | cons d ds ih =>
    intro u w h
    obtain ⟨hu, fv, cap, f, args, hd, hi, hC⟩ := h
    refine ⟨hu, fv, cap, f, args, hd, hi, hC.mono fun e u' w' hq => ?_⟩
    cases e with
    | returned v => exact ih _ _ hq
    | panicked c => exact ih _ _ hq
    | outgrown => exact hq
theorem leaves_put {R : Ending → World → Prop} {a : Act} {d : Nat} {v : Value} {u : FrameMode} {w : World} (h2 : d ≠ 2) (h3 : d ≠ 3) (h : Leaves Tryz.prog Tryz.f11 (a.put (some d) v).tmps R (a.put (some d) v).defers u w) : Leaves Tryz.prog Tryz.f11 a.tmps R a.defers u w :=
  leaves_same (by simp [Act.put, h2]) (by simp [Act.put, h3]) _ _ _ h
theorem NumPost_ok {v : Int} {b bA : Nat} {w w' : World} {e : Ending} (h : (∃ v' b', (Except.ok (v, b) : Except Nat (Int × Nat)) = .ok (v', b') ∧ e = .returned (.int .i64 v') ∧ w'.cell? ⟨bA, 0, none⟩ = some (.int .i64 (b' : Nat)) ∧ w'.frozen? ⟨bA, 0, none⟩ = false) ∨ (∃ b', (Except.ok (v, b) : Except Nat (Int × Nat)) = .error b' ∧ Failed 280 b' w e w')) :
    ∃ v' b', (v = v' ∧ b = b') ∧ e = .returned (.int .i64 v') ∧ w'.cell? ⟨bA, 0, none⟩ = some (.int .i64 (b' : Nat)) ∧ w'.frozen? ⟨bA, 0, none⟩ = false := by
  rcases h with ⟨v', b', he, h1, h2, h3⟩ | ⟨b', he, _⟩
  · injection he with he; injection he with e1 e2; exact ⟨v', b', ⟨e1, e2⟩, h1, h2, h3⟩
  · cases he
/-- A closure's panic: from the world ahead of the call. -/
theorem read_panic {tmps : Array Value} {w0 wr w' : World} {s : ByteArray} {r : Except (Int × Nat) (List (List (List Int)))} {bS bO bE bA bF p N a : Nat} {code : Int} {ov : Value} (I : RdInv w0 wr s bS bO bE bA bF p) (cO : wr.cell? ⟨bO, 0, none⟩ = some ov)
    (hx : ExtBut (fun x => x = bA) wr w') (hN : wr.heap.size ≤ N) (hF : IsFault w' N code a) (hr : r = .error (code, a)) (h2 : tmps[2]? = some (.pointer (some ⟨bO, 0, none⟩))) (h3 : tmps[3]? = some (.pointer (some ⟨bE, 0, none⟩)))
    (hb : w0.heap.size ≤ bS ∧ bS < bO ∧ bO < bE ∧ bE < bA) :
    Leaves Tryz.prog Tryz.f11 tmps (ReadPost r w0) [{ target := .fn (.func 22) #[.pointer (some ⟨bO, 0, none⟩), .pointer (some ⟨bE, 0, none⟩)], args := #[] }] (.panicking (faultAt N)) w' := by
  obtain ⟨h4, h5, h6, h7⟩ := hb
  have l1 := I.lO
  have l2 := lt_of_cell I.E
  simp only [] at l2
  have l3 := I.X.size
  exact read_caught hr h2 h3 (hx.cell cO (by omega)) (hx.free I.fO I.lO (by omega)) (hx.cell I.E (by omega)) (hx.free I.fE l2 (by omega)) (by omega) hF (by omega) (by omega) (by omega) (by omega) (by omega) (I.X.but hx (by rintro g rfl; omega))
set_option maxHeartbeats 2000000 in
set_option maxRecDepth 100000 in
theorem read_rest (s : ByteArray) (w : World) (hs : s.size ≤ 1048576) (hv : Vars w) :
    Calls Tryz.prog 11 #[.string s] w (ReadPost (readP s.data.toList) w) := by
  have hd : decide ((1048576 : Int) < s.size) = false := by simp; omega
  have HL : Hid (¬ 1048576 < s.data.toList.length) := by simp [Hid]; exact hs
  have HV := Lib.hid hv
  have hmf : ∀ (fn : Fn) (first cap : Array Value) (w : World), (Instr.makeFunc fn first cap).run Tryz.prog w = .ok (.func fn first cap) w := fun _ _ _ _ => rfl
  have hs40 : s.size ≤ 1099511627776 := by omega
  obtain ⟨W0, hWW0⟩ : ∃ W0 : World, ((((w.alloc (.cells #[.string s] 9)).alloc (.cells #[.slice none 0 0] 22)).alloc (.cells #[.nilIface] 32)).alloc (.cells #[.int .i64 0] 3)).alloc (.cells #[.func (.func 21) #[] #[]] 53) = W0 := ⟨_, rfl⟩
  have hXW0 : Ext w W0 := by rw [← hWW0]; exact ((((((Ext.refl w).alloc _).alloc _).alloc _).alloc _).alloc _)
  have hsW0 : w.heap.size + 5 ≤ W0.heap.size := by rw [← hWW0]; simp only [World.size_alloc]; omega
  have c0 : W0.cell? ⟨w.heap.size, 0, none⟩ = some (.string s) := by rw [← hWW0]; simp [go_sem]
  have f0 : W0.frozen? ⟨w.heap.size, 0, none⟩ = false := by rw [← hWW0]; simp [go_sem]
  have c1 : W0.cell? ⟨w.heap.size + 1, 0, none⟩ = some (.slice none 0 0) := by rw [← hWW0]; simp [go_sem]
  have f1 : W0.frozen? ⟨w.heap.size + 1, 0, none⟩ = false := by rw [← hWW0]; simp [go_sem]
  have c2 : W0.cell? ⟨w.heap.size + 1 + 1, 0, none⟩ = some (.nilIface) := by rw [← hWW0]; simp [go_sem]
  have f2 : W0.frozen? ⟨w.heap.size + 1 + 1, 0, none⟩ = false := by rw [← hWW0]; simp [go_sem]
  have c3 : W0.cell? ⟨w.heap.size + 1 + 1 + 1, 0, none⟩ = some (.int .i64 0) := by rw [← hWW0]; simp [go_sem]
  have f3 : W0.frozen? ⟨w.heap.size + 1 + 1 + 1, 0, none⟩ = false := by rw [← hWW0]; simp [go_sem]
  have c4 : W0.cell? ⟨w.heap.size + 1 + 1 + 1 + 1, 0, none⟩ = some (.func (.func 21) #[] #[]) := by rw [← hWW0]; simp [go_sem]
  have f4 : W0.frozen? ⟨w.heap.size + 1 + 1 + 1 + 1, 0, none⟩ = false := by rw [← hWW0]; simp [go_sem]
  have HWW0 := Lib.hid hWW0
  clear hWW0
  clear hv
  go_enter_defers Tryz.func11, Tryz.ntmps11
  go_wp2_with fail
  rw [HWW0.out]
  obtain ⟨bF, hbF⟩ : ∃ bF, w.heap.size + 1 + 1 + 1 + 1 = bF := ⟨_, rfl⟩
  obtain ⟨bA, hbA⟩ : ∃ bA, w.heap.size + 1 + 1 + 1 = bA := ⟨_, rfl⟩
  obtain ⟨bE, hbE⟩ : ∃ bE, w.heap.size + 1 + 1 = bE := ⟨_, rfl⟩
  obtain ⟨bO, hbO⟩ : ∃ bO, w.heap.size + 1 = bO := ⟨_, rfl⟩
  obtain ⟨bS, hbS⟩ : ∃ bS, w.heap.size = bS := ⟨_, rfl⟩
  rw [hbF, hbA, hbE, hbO, hbS]
  rw [hbF] at c4 f4
  rw [hbA] at c3 f3
  rw [hbE] at c2 f2
  rw [hbO] at c1 f1
  rw [hbS] at c0 f0
  obtain ⟨B, hB⟩ : ∃ B, W0.heap.size = B := ⟨_, rfl⟩
  have i0 : w.heap.size ≤ bS := by omega
  have i1 : bS < bO := by omega
  have i2 : bO < bE := by omega
  have i3 : bE < bA := by omega
  have i4 : bA < bF := by omega
  have i5 : bF < B := by omega
  have HI0 : Hid (RdInv w W0 s bS bO bE bA bF 0) := ⟨c0, c2, f2, f1, c3, f3, c4, hXW0, by omega⟩
  have HO0 := Lib.hid c1
  have H1 := Lib.hid (word_any s ⟨#[112, 97, 114, 113, 117, 101, 116, 32]⟩ 0 bA bS bF W0 hs40 (by decide) (by omega) c3 f3 c0 c4 (by omega) (by omega))
  rw [show (⟨#[112, 97, 114, 113, 117, 101, 116, 32]⟩ : ByteArray).data.toList = headW from rfl] at H1
  have hbB : B ≤ W0.heap.size := by omega
  clear hbF hbA hbE hbO hbS hB c0 f0 c1 f1 c2 f2 c3 f3 c4 f4 hXW0 hsW0 HWW0
  refine H1.out.mono ?_
  rintro e w1 ⟨hr, hx⟩
  rcases hr with ⟨p1, hw1, rfl, cA1, fA1⟩ | ⟨b, hw1, N, rfl, hN, hF⟩
  case inr =>
    have HRes := Lib.hid (readP_1 HL.out hw1)
    have HX := Lib.hid hx
    have HF := Lib.hid hF
    clear hx hF hw1 H1
    go_wp2
    exact read_panic HI0.out HO0.out HX.out hN HF.out HRes.out rfl rfl ⟨i0, i1, i2, i3⟩
  have hp1 := (wordP_le hw1 (by omega)).2
  rw [show s.data.toList.length = s.size by simp] at hp1
  have HW1 := Lib.hid hw1
  have HI1 : Hid (RdInv w w1 s bS bO bE bA bF p1) := HI0.out.but hx cA1 fA1 (by omega) (by omega)
  have HO1 : Hid (w1.cell? ⟨bO, 0, none⟩ = some (.slice none 0 0)) := hx.cell HO0.out (by omega)
  have hB1 : B ≤ w1.heap.size := Nat.le_trans hbB hx.size
  clear hx cA1 fA1 hw1 H1 HI0 HO0 hbB
  have H2 := Lib.hid (number_any s 0 64 p1 bA bS bF w1 hs40 hp1 (HV.out.ext HI1.out.X) HI1.out.A HI1.out.fA HI1.out.S HI1.out.F (by omega) (by omega))
  go_wp2_with fail
  refine H2.out.mono ?_
  rintro e w2 ⟨hr, hx⟩
  rcases hr with ⟨v, p2, hw2, rfl, cA2, fA2⟩ | ⟨b, hw2, N, rfl, hN, hF⟩
  case inr =>
    have HRes := Lib.hid (readP_2 HL.out HW1.out hw2)
    have HX := Lib.hid hx
    have HF := Lib.hid hF
    clear hx hF hw2 H2
    go_wp2
    exact read_panic HI1.out HO1.out HX.out hN HF.out HRes.out rfl rfl ⟨i0, i1, i2, i3⟩
  have hp2 := numP_le hw2 (by simpa using hp1)
  rw [show s.data.toList.length = s.size by simp] at hp2
  obtain ⟨_, hp2, hv0, hv1⟩ := hp2
  obtain ⟨nn, rfl⟩ := Int.eq_ofNat_of_zero_le hv0
  have HW2 := Lib.hid hw2
  have HI2 : Hid (RdInv w w2 s bS bO bE bA bF p2) := HI1.out.but hx cA2 fA2 (by omega) (by omega)
  have HO2 : Hid (w2.cell? ⟨bO, 0, none⟩ = some (.slice none 0 0)) := hx.cell HO1.out (by omega)
  have hB2 : B ≤ w2.heap.size := Nat.le_trans hB1 hx.size
  clear hx cA2 fA2 hw2 H2 HI1 HO1 hB1
  have H3 := Lib.hid (word_any s ⟨#[10]⟩ p2 bA bS bF w2 hs40 (by decide) hp2 HI2.out.A HI2.out.fA HI2.out.S HI2.out.F (by omega) (by omega))
  rw [show (⟨#[10]⟩ : ByteArray).data.toList = [10] from rfl] at H3
  go_wp2_with fail
  refine H3.out.mono ?_
  rintro e w3 ⟨hr, hx⟩
  rcases hr with ⟨p3, hw3, rfl, cA3, fA3⟩ | ⟨b, hw3, N, rfl, hN, hF⟩
  case inr =>
    have HRes := Lib.hid (readP_3 HL.out HW1.out HW2.out hw3)
    have HX := Lib.hid hx
    have HF := Lib.hid hF
    clear hx hF hw3 H3
    go_wp2
    exact read_panic HI2.out HO2.out HX.out hN HF.out HRes.out rfl rfl ⟨i0, i1, i2, i3⟩
  have hp3 := (wordP_le hw3 (by simpa using hp2)).2
  rw [show s.data.toList.length = s.size by simp] at hp3
  have HI3 : Hid (RdInv w w3 s bS bO bE bA bF p3) := HI2.out.but hx cA3 fA3 (by omega) (by omega)
  have HO3 : Hid (w3.cell? ⟨bO, 0, none⟩ = some (.slice none 0 0)) := hx.cell HO2.out (by omega)
  have hB3 : B ≤ w3.heap.size := Nat.le_trans hB2 hx.size
  have HR3 := readP_4 HL.out HW1.out HW2.out hw3
  rw [Int.toNat_natCast] at HR3
  replace HR3 := Lib.hid HR3
  clear hx cA3 fA3 hw3 H3 HI2 HO2 hB2 HW1 HW2
  go_wp2
  go_loopg [31] nn (fun kk iv wr => ∃ (i p : Nat) (acc : List (List (List Int))) (ov : Value), kk + i = nn ∧ iv = .int .i64 i ∧ acc.length = i ∧ p ≤ s.size ∧ B ≤ wr.heap.size ∧ Hid (RdInv w wr s bS bO bE bA bF p) ∧ Hid (wr.cell? ⟨bO, 0, none⟩ = some ov) ∧ Hid (Forms wr B ov acc) ∧ Hid (readP s.data.toList = afterP s.data.toList (formsP s.data.toList (nn - i) p acc)))
  case atStart => exact ⟨0, p3, [], _, by omega, rfl, rfl, hp3, hB3, HI3, HO3, Forms.nil _ _, HR3⟩
  case round =>
    clear HI3 HO3 hB3 HR3 hp1 hp2 hp3
    obtain ⟨i, p, acc, ov, hki, rfl, hal, hp, hBr, HI, HO, HFm, HR⟩ := hrel
    by_cases hin : i < nn
    · have cA := HI.out.A
      have H1 := Lib.hid (number_any s 1 8 p bA bS bF wr hs40 hp (HV.out.ext HI.out.X) HI.out.A HI.out.fA HI.out.S HI.out.F (by omega) (by omega))
      obtain ⟨k', hk'⟩ : ∃ k', nn - i = k' + 1 := ⟨nn - i - 1, by omega⟩
      rw [hk'] at HR
      have hk2 : nn - (i + 1) = k' := by omega
      have HK2 := Lib.hid hk2
      clear hk' hk2
      go_wp2_with fail
      refine H1.out.mono ?_
      rintro e w1 ⟨hr, hx⟩
      rcases hr with ⟨v, q0, hw1, rfl, cA1, fA1⟩ | ⟨b, hw1, N, rfl, hN, hF⟩
      case inr =>
        have HRes := Lib.hid (HR.out.trans (forms_err (formP_n hw1)))
        have HX := Lib.hid hx
        have HF := Lib.hid hF
        clear hx hF hw1 H1 cA
        go_wp2
        exact read_panic HI.out HO.out HX.out hN HF.out HRes.out rfl rfl ⟨i0, i1, i2, i3⟩
      have hq := numP_le hw1 (by simpa using hp)
      rw [show s.data.toList.length = s.size by simp] at hq
      obtain ⟨_, hq0, hv0, hv1⟩ := hq
      obtain ⟨n, rfl⟩ := Int.eq_ofNat_of_zero_le (show 0 ≤ v by omega)
      have HN := Lib.hid hw1
      have HI1 : Hid (RdInv w w1 s bS bO bE bA bF q0) := HI.out.but hx cA1 fA1 (by omega) (by omega)
      have HO1 : Hid (w1.cell? ⟨bO, 0, none⟩ = some ov) := hx.cell HO.out (by omega)
      have HF1 : Hid (Forms w1 B ov acc) := HFm.out.keep (hx.fr (by omega))
      have hB1 : B ≤ w1.heap.size := Nat.le_trans hBr hx.size
      obtain ⟨FT, hFT⟩ : ∃ FT, flatP s.data.toList (tri n) q0 [] = FT := ⟨_, rfl⟩
      have HFT := Lib.hid hFT
      have hmk := fun W => make_rows (n : Int) n rfl (by omega) W
      clear hx cA1 fA1 hw1 H1 HI HO HFm hBr cA hFT
      go_wp2
      -- <fold>
      obtain ⟨g, hg⟩ : ∃ g, w1.heap.size = g := ⟨_, rfl⟩
      obtain ⟨W2, hW2⟩ : ∃ W2, w1.alloc (.cells (Array.replicate n (.slice none 0 0)) 38) = W2 := ⟨_, rfl⟩
      have hx2 : Ext w1 W2 := by rw [← hW2]; exact (Ext.refl w1).alloc _
      have HM2 : Hid (MatI W2 g g n 0 (fun _ => 0) (ent [])) := by rw [← hg, ← hW2]; exact MatI.new w1 n _ _ _ (Nat.le_refl _)
      have HI2 := Lib.hid (HI1.out.ext hx2)
      have HO2 : Hid (W2.cell? ⟨bO, 0, none⟩ = some ov) := hx2.cell HO1.out
      have HF2 := Lib.hid (hx2.fr B)
      have hB2 : B ≤ W2.heap.size := Nat.le_trans hB1 hx2.size
      have hg2 : g ≤ W2.heap.size := by rw [← hg]; exact hx2.size
      have hBg : B ≤ g := by omega
      have HG := Lib.hid hg
      rw [hg, hW2]
      clear hW2 hx2 HI1 HO1 hg hmk
      go_loopg [39] n (fun kk iv wi => ∃ (r q : Nat) (l : List Int) (h : Nat → Nat), kk + r = n ∧ iv = .int .i64 r ∧ q ≤ s.size ∧ g ≤ wi.heap.size ∧ Hid (l.length = tri r) ∧ Hid (RdInv w wi s bS bO bE bA bF q) ∧ Hid (wi.cell? ⟨bO, 0, none⟩ = some ov) ∧ Hid (Fr B w1 wi) ∧ Hid (MatI wi g g n r h (ent l)) ∧ Hid (flatP s.data.toList (tri n - tri r) q l = FT) ∧ Hid (∀ x ∈ l, -16384 ≤ x ∧ x ≤ 16384))
      case atStart => exact ⟨0, q0, [], _, by omega, rfl, hq0, hg2, rfl, HI2, HO2, HF2, HM2, HFT, by intro x hx; cases hx⟩
      case round =>
        clear HI2 HO2 HF2 HM2 hB2 hg2
        obtain ⟨r, q, l, h, hkr, rfl, hq, hgi, HLL, HI, HO, HFr, HM, HFl, HBd⟩ := hrel
        by_cases hrn : r < n
        · have cg := HM.out.nil r (Nat.le_refl _) hrn
          have fg := HM.out.gfree r
          have hmk := fun W => make_row (n : Int) n rfl (by omega) W
          have hgl := HM.out.gtyp.lt
          go_wp2
          obtain ⟨W3, hW3⟩ : ∃ W3, (wr.setCell ⟨g, r, none⟩ (.slice (some ⟨wr.heap.size, 0, none⟩) n n)).alloc (.cells (Array.replicate n (.int .i64 0)) 2) = W3 := ⟨_, rfl⟩
          obtain ⟨h2, hh2⟩ : ∃ h2, (fun i => if i = r then wr.heap.size else h i) = h2 := ⟨_, rfl⟩
          have HM3 : Hid (MatI W3 g g n (r + 1) h2 (ent l)) := by
            have hM3 := HM.out.grow hrn hgi
            rw [World.setCell_alloc_past _ _ _ _ hgl, hW3, hh2] at hM3
            refine hM3.congr fun i j hi hj => ?_
            by_cases e : i = r
            · subst e; rw [if_pos rfl]; exact (ent_zero (Nat.le_of_eq HLL.out) i (Nat.le_refl _)).symm
            · rw [if_neg e]
          have HI3 : Hid (RdInv w W3 s bS bO bE bA bF q) := by
            rw [← hW3]; exact (HI.out.set_ _ (by omega) (by omega)).ext ((Ext.refl _).alloc _)
          have HO3 : Hid (W3.cell? ⟨bO, 0, none⟩ = some ov) := by
            rw [← hW3]; refine ((Ext.refl _).alloc _).cell ?_
            rw [World.cell?_setCell_other _ _ _ _ (by intro e; injection e with e1 _; omega)]; exact HO.out
          have HF3 : Hid (Fr B w1 W3) := by
            rw [← hW3]; exact (HFr.out.set_ (.inl (by rw [HG.out]; exact Nat.le_refl _)) _).ext ((Ext.refl _).alloc _)
          have hg3 : g ≤ W3.heap.size := by have := HM3.out.gtyp.lt; omega
          rw [hW3]
          clear hW3 hh2 HI HO HFr HM cg fg hmk hgl hgi
          go_loopg [50] (r + 1) (fun kk jv wj => ∃ (j q : Nat) (l : List Int), kk + j = r + 1 ∧ jv = .int .i64 j ∧ q ≤ s.size ∧ g ≤ wj.heap.size ∧ Hid (l.length = tri r + j) ∧ Hid (RdInv w wj s bS bO bE bA bF q) ∧ Hid (wj.cell? ⟨bO, 0, none⟩ = some ov) ∧ Hid (Fr B w1 wj) ∧ Hid (MatI wj g g n (r + 1) h2 (ent l)) ∧ Hid (flatP s.data.toList (tri n - tri r - j) q l = FT) ∧ Hid (∀ x ∈ l, -16384 ≤ x ∧ x ≤ 16384))
          case atStart => exact ⟨0, q, l, by omega, rfl, hq, hg3, HLL, HI3, HO3, HF3, HM3, HFl, HBd⟩
          case round =>
            clear HI3 HO3 HF3 HM3 hg3 HLL HFl HBd hq l q
            obtain ⟨j, q, l, hkj, rfl, hq, hgj, HLL, HI, HO, HFr, HM, HFl, HBd⟩ := hrel
            by_cases hjr : j < r + 1
            · obtain ⟨m', hm'⟩ : ∃ m', tri n - tri r - j = m' + 1 := by
                have h1 := tri_mono (show r + 1 ≤ n by omega)
                rw [tri_succ] at h1
                exact ⟨tri n - tri r - j - 1, by omega⟩
              have hm2 : tri n - tri r - (j + 1) = m' := by omega
              rw [hm'] at HFl
              have HM2 := Lib.hid hm2
              clear hm' hm2
              have H1 := Lib.hid (word_any s ⟨#[32]⟩ q bA bS bF wr hs40 (by decide) hq HI.out.A HI.out.fA HI.out.S HI.out.F (by omega) (by omega))
              rw [show (⟨#[32]⟩ : ByteArray).data.toList = [32] from rfl] at H1
              go_wp2_with fail
              refine H1.out.mono ?_
              rintro e w2 ⟨hr, hx⟩
              rcases hr with ⟨q1, hw2, rfl, cA2, fA2⟩ | ⟨b, hw2, N, rfl, hN, hF⟩
              case inr =>
                have HRes := Lib.hid (HR.out.trans (forms_err (formP_f HN.out (by rw [Int.toNat_natCast, HFT.out, ← HFl.out]; exact flatP_w hw2))))
                have HX := Lib.hid hx
                have HF := Lib.hid hF
                clear hx hF hw2 H1
                go_wp2
                exact read_panic HI.out HO.out HX.out hN HF.out HRes.out rfl rfl ⟨i0, i1, i2, i3⟩
              have hq1 := (wordP_le hw2 (by simpa using hq)).2
              rw [show s.data.toList.length = s.size by simp] at hq1
              have HW2 := Lib.hid hw2
              have HI2 : Hid (RdInv w w2 s bS bO bE bA bF q1) := HI.out.but hx cA2 fA2 (by omega) (by omega)
              have HO2 : Hid (w2.cell? ⟨bO, 0, none⟩ = some ov) := hx.cell HO.out (by omega)
              have HF2 : Hid (Fr B w1 w2) := HFr.out.trans (hx.fr (by omega))
              have HM3 : Hid (MatI w2 g g n (r + 1) h2 (ent l)) := HM.out.keep (hx.fr (by omega))
              have hg2 : g ≤ w2.heap.size := Nat.le_trans hgj hx.size
              clear hx cA2 fA2 hw2 H1 HI HO HFr HM hgj
              have cg := HM3.out.made r (by omega)
              have ch := HM3.out.row r (by omega) j (by omega)
              have fh := HM3.out.free r (by omega) j
              have hgl := HM3.out.low r (by omega)
              have hgt := HM3.out.typ r (by omega)
              have hgt2 := hgt.lt
              have HH := Lib.hid (fun W (hx : Ext w2 W) => number_any s (-16384) 16384 q1 bA bS bF W hs40 hq1 (HV.out.ext (HI2.out.X.trans hx)) (hx.cell HI2.out.A) (hx.free HI2.out.fA (lt_of_cell HI2.out.A)) (hx.cell HI2.out.S) (hx.cell HI2.out.F) (by omega) (by omega))
              have hjn : j < n := by omega
              have hng : g ≠ bA := by omega
              have hne : h2 r ≠ g := HM3.out.ne (by omega)
              have hnh : h2 r ≠ bA := by omega
              clear hgt
              cases hnum : numP s.data.toList (-16384) 16384 q1 with
              | error b =>
                rw [hnum] at HH
                have HRes := Lib.hid (HR.out.trans (forms_err (formP_f HN.out (by rw [Int.toNat_natCast, HFT.out, ← HFl.out]; exact flatP_n HW2.out hnum))))
                clear hnum
                go_wp2_with fail
                refine wp_region_held_drew (S := fun w' => w'.cell? ⟨g, r, none⟩ = some (.slice (some ⟨h2 r, 0, none⟩) n n)) (by kernel_rfl) cg (fun hHeld => ?_)
                refine wpAnyH_take (i := 0) (v := ?_) rfl (by kernel_rfl) (by kernel_rfl) (by kernel_rfl) (fun _ _ _ h => leaves_put (by decide) (by decide) h) (Or.inl ⟨by rfl, ?_⟩) hHeld ?_
                rotate_left
                · intro w' hSw
                  (try dsimp only at hSw)
                  go_simp
                  try with_reducible rfl
                try simp only [Act.put, List.setIfInBounds_toArray, List.set_cons_zero, List.set_cons_succ]
                refine wpAnyH_take (i := 1) (v := ?_) rfl (by kernel_rfl) (by kernel_rfl) (by kernel_rfl) (fun _ _ _ h => leaves_put (by decide) (by decide) h) (Or.inl ⟨by rfl, ?_⟩) hHeld ?_
                rotate_left
                · intro w' hSw
                  (try dsimp only at hSw)
                  go_simp
                  try with_reducible rfl
                try simp only [Act.put, List.setIfInBounds_toArray, List.set_cons_zero, List.set_cons_succ]
                refine wpAnyH_take (i := 2) (v := ?_) rfl (by kernel_rfl) (by kernel_rfl) (by kernel_rfl) (fun _ _ _ h => leaves_put (by decide) (by decide) h) (Or.inl ⟨by rfl, ?_⟩) hHeld ?_
                rotate_left
                · intro w' hSw
                  (try dsimp only at hSw)
                  go_simp
                  try with_reducible rfl
                try simp only [Act.put, List.setIfInBounds_toArray, List.set_cons_zero, List.set_cons_succ]
                refine wpAnyH_take (i := 3) (v := ?_) rfl (by kernel_rfl) (by kernel_rfl) (by kernel_rfl) (fun _ _ _ h => leaves_put (by decide) (by decide) h) (Or.inl ⟨by rfl, ?_⟩) hHeld ?_
                rotate_left
                · intro w' hSw
                  (try dsimp only at hSw)
                  go_simp
                  try with_reducible rfl
                try simp only [Act.put, List.setIfInBounds_toArray, List.set_cons_zero, List.set_cons_succ]
                refine wpAnyH_take (i := 4) (v := ?_) rfl (by kernel_rfl) (by kernel_rfl) (by kernel_rfl) (fun _ _ _ h => leaves_put (by decide) (by decide) h) (Or.inl ⟨by rfl, ?_⟩) hHeld ?_
                rotate_left
                · intro w' hSw
                  (try dsimp only at hSw)
                  go_simp
                  try with_reducible rfl
                try simp only [Act.put, List.setIfInBounds_toArray, List.set_cons_zero, List.set_cons_succ]
                refine wpAnyH_take (i := 5) (v := ?_) rfl (by kernel_rfl) (by kernel_rfl) (by kernel_rfl) (fun _ _ _ h => leaves_put (by decide) (by decide) h) (Or.inl ⟨by rfl, ?_⟩) hHeld ?_
                rotate_left
                · intro w' hSw
                  (try dsimp only at hSw)
                  go_simp
                  try with_reducible rfl
                try simp only [Act.put, List.setIfInBounds_toArray, List.set_cons_zero, List.set_cons_succ]
                refine wpAnyH_ready (rs := [6]) (by kernel_rfl) (by simp) ?_
                refine AllReadyH.cons rfl (fun K hK => ?_) AllReadyH.nil
                go_simp
                refine (HH.out _ (Ext.refl w2).drew).mono ?_
                rintro e w4 ⟨hr, hx⟩
                rcases hr with ⟨v', b', he, _⟩ | ⟨b', he, N, rfl, hN, hF⟩
                · cases he
                injection he with he
                subst he
                have HX4 := Lib.hid (((Ext.refl w2).drew.toBut (fun x => x = bA)).trans hx)
                have HF := Lib.hid hF
                exact read_panic HI2.out HO2.out HX4.out hN HF.out HRes.out rfl rfl ⟨i0, i1, i2, i3⟩
              | ok x =>
                obtain ⟨v, q2⟩ := x
                rw [hnum] at HH
                have hvb := numP_le hnum (by simpa using hq1)
                rw [show s.data.toList.length = s.size by simp] at hvb
                obtain ⟨_, hq2, hv0, hv1⟩ := hvb
                have HNum := Lib.hid hnum
                clear hnum
                go_wp2_with fail
                go_region_held3 (fun w' => w'.cell? ⟨g, r, none⟩ = some (.slice (some ⟨h2 r, 0, none⟩) n n)) (first | exact cg | exact cg4 | (rw [World.cell?_setCell_other _ _ _ _ (by intro e; injection e with e1 _; exact hne e1)]; exact cg4))
                  (first | (go_at_call 24; refine (HH.out _ (Ext.refl w2).drew).mono ?_; rintro e w4 ⟨hr, hx⟩; obtain ⟨v', b', hvb, rfl, cA4, fA4⟩ := NumPost_ok hr; obtain ⟨rfl, rfl⟩ := hvb; have cg4 := hx.cell (b := g) (o := r) cg hng; have ch4 := hx.cell (b := h2 r) (o := j) ch hnh; have fh4 := hx.free (b := h2 r) (o := j) fh hgt2 hnh; have HX4 := Lib.hid hx; clear hx))
                have HX4' : Hid (ExtBut (fun x => x = bA) w2 w4) := ((Ext.refl w2).drew.toBut _).trans HX4.out
                have HM4 := Lib.hid (HM3.out.keep (HX4'.out.fr (B := g) (by omega)))
                have HI4 : Hid (RdInv w w4 s bS bO bE bA bF q2) := HI2.out.but HX4'.out cA4 fA4 (by omega) (by omega)
                have HO4 : Hid (w4.cell? ⟨bO, 0, none⟩ = some ov) := HX4'.out.cell HO2.out (by omega)
                have HF4 : Hid (Fr B w1 w4) := HF2.out.trans (HX4'.out.fr (by omega))
                have hg4 : g ≤ w4.heap.size := Nat.le_trans hg2 HX4'.out.size
                clear HX4 HX4' HM3 HI2 HO2 HF2 hg2 HH cA4 fA4 cg4 ch4 fh4 cg ch fh hgt2
                go_wp2_with fail
                obtain ⟨W5, hW5⟩ : ∃ W5, w4.setCell ⟨h2 r, j, none⟩ (.int .i64 v) = W5 := ⟨_, rfl⟩
                have HM5 : Hid (MatI W5 g g n (r + 1) h2 (fun a b => if a = r ∧ b = j then v else ent l a b)) := by rw [← hW5]; exact HM4.out.set_ (by omega) hjn v
                have HI5 : Hid (RdInv w W5 s bS bO bE bA bF q2) := by rw [← hW5]; exact HI4.out.set_ _ (by omega) (by omega)
                have HO5 : Hid (W5.cell? ⟨bO, 0, none⟩ = some ov) := by
                  rw [← hW5, World.cell?_setCell_other _ _ _ _ (by intro e; injection e with e1 _; omega)]; exact HO4.out
                have HF5 : Hid (Fr B w1 W5) := by rw [← hW5]; exact HF4.out.set_ (.inl (by rw [HG.out]; exact hgl)) _
                have hg5 : g ≤ W5.heap.size := by have := HM5.out.gtyp.lt; omega
                rw [hW5]
                clear hW5 HM4 HI4 HO4 HF4 hg4
                have HM6 := Lib.hid (HM5.out.set_ (i := j) (j := r) (by omega) hrn v)
                have a1 := HM5.out.made j (by omega)
                have a2 := HM5.out.made r (by omega)
                have a3 := HM5.out.row r (by omega) j hjn
                rw [if_pos ⟨rfl, rfl⟩] at a3
                have a4 := HM5.out.row j (by omega) r hrn
                obtain ⟨old, hold⟩ : ∃ old, (if j = r ∧ r = j then v else ent l j r) = old := ⟨_, rfl⟩
                rw [hold] at a4
                clear hold
                have a5 := HM5.out.free j (by omega) r
                have b1 := HM6.out.made j (by omega)
                have b2 := HM6.out.made r (by omega)
                have b3 := HM6.out.row r (by omega) j hjn
                have hif : (if r = j ∧ j = r then v else if r = r ∧ j = j then v else ent l r j) = v := by
                  by_cases e : r = j ∧ j = r
                  · rw [if_pos e]
                  · rw [if_neg e, if_pos ⟨rfl, rfl⟩]
                rw [hif] at b3
                have HB1 := Lib.hid b1
                have HB2 := Lib.hid b2
                have HB3 := Lib.hid b3
                have hlj := HM5.out.low j (by omega)
                have hltj := (HM5.out.typ j (by omega)).lt
                clear hif b1 b2 b3
                go_region_held3 (fun w' => w'.cell? ⟨g, j, none⟩ = some (.slice (some ⟨h2 j, 0, none⟩) n n) ∧ w'.cell? ⟨g, r, none⟩ = some (.slice (some ⟨h2 r, 0, none⟩) n n) ∧ w'.cell? ⟨h2 r, j, none⟩ = some (.int .i64 v)) (first | exact ⟨a1, a2, a3⟩ | exact ⟨HB1.out, HB2.out, HB3.out⟩) (fail)
                go_wp2_with fail
                have hxd : Ext (W5.setCell ⟨h2 j, r, none⟩ (.int .i64 v)) (W5.setCell ⟨h2 j, r, none⟩ (.int .i64 v)).drew := (Ext.refl _).drew
                have hrj : j ≤ r := by omega
                go_roundg (r - j)
                case measure => omega
                case rel => exact ⟨j + 1, q2, l ++ [v], by omega, by go_num, hq2, by have := hxd.size; have h3 : g ≤ (W5.setCell ⟨h2 j, r, none⟩ (.int .i64 v)).heap.size := (by simpa [World.setCell] using hg5); omega, by unfold Hid; rw [List.length_append, HLL.out]; rfl,
                  (HI5.out.set_ _ (by omega) (by omega)).ext hxd, hxd.cell (by rw [World.cell?_setCell_other _ _ _ _ (by intro e; injection e with e1 _; omega)]; exact HO5.out), (HF5.out.set_ (.inl (by rw [HG.out]; exact hlj)) _).ext hxd,
                  (HM6.out.keep (hxd.fr g)).congr (fun a b _ _ => by
                    rw [ent_snoc v HLL.out hrj]
                    by_cases e1 : a = j ∧ b = r
                    · rw [if_pos e1, if_pos (.inr e1)]
                    · rw [if_neg e1]
                      by_cases e2 : a = r ∧ b = j
                      · rw [if_pos e2, if_pos (.inl e2)]
                      · rw [if_neg e2, if_neg (by rintro (h | h); exact e2 h; exact e1 h)]), by
                  have := HFl.out
                  rw [flatP_s HW2.out HNum.out] at this
                  rw [HM2.out]; exact this, by
                  intro x hx
                  rcases List.mem_append.1 hx with h | h
                  · exact HBd.out x h
                  · simp at h; subst h; exact ⟨hv0, hv1⟩⟩
            · obtain rfl : j = r + 1 := by omega
              go_wp2
              go_roundg (n - (r + 1))
              case measure => omega
              case rel => exact ⟨r + 1, q, l, h2, by omega, by go_num, hq, hgj, by rw [tri_succ]; exact HLL, HI, HO, HFr, HM, by
                have := HFl.out
                rw [show tri n - tri (r + 1) = tri n - tri r - (r + 1) by rw [tri_succ]; omega]; exact this, HBd⟩
        · obtain rfl : r = n := by omega
          have HFe : Hid (FT = .ok (l, q)) := by rw [← HFl.out, Nat.sub_self]; rfl
          have HF1' := Lib.hid (HF1.out.keep HFr.out)
          have H1 := Lib.hid (word_any s ⟨#[10]⟩ q bA bS bF wr hs40 (by decide) hq HI.out.A HI.out.fA HI.out.S HI.out.F (by omega) (by omega))
          rw [show (⟨#[10]⟩ : ByteArray).data.toList = [10] from rfl] at H1
          have HFT2 : Hid (flatP s.data.toList (tri (r : Int).toNat) q0 [] = .ok (l, q)) := by rw [Int.toNat_natCast, HFT.out]; exact HFe.out
          go_wp2_with fail
          refine H1.out.mono ?_
          rintro e w2 ⟨hr, hx⟩
          rcases hr with ⟨q1, hw2, rfl, cA2, fA2⟩ | ⟨b, hw2, N, rfl, hN, hF⟩
          case inr =>
            have HRes := Lib.hid (HR.out.trans (forms_err (formP_w HN.out HFT2.out hw2)))
            have HX := Lib.hid hx
            have HF := Lib.hid hF
            clear hx hF hw2 H1
            go_wp2
            exact read_panic HI.out HO.out HX.out hN HF.out HRes.out rfl rfl ⟨i0, i1, i2, i3⟩
          have hq1 := (wordP_le hw2 (by simpa using hq)).2
          rw [show s.data.toList.length = s.size by simp] at hq1
          have HW2 := Lib.hid hw2
          have HI2 : Hid (RdInv w w2 s bS bO bE bA bF q1) := HI.out.but hx cA2 fA2 (by omega) (by omega)
          have HO2 : Hid (w2.cell? ⟨bO, 0, none⟩ = some ov) := hx.cell HO.out (by omega)
          have HF2 : Hid (Forms w2 B ov acc) := HF1'.out.keep (hx.fr (by omega))
          have HM3 : Hid (MatI w2 g g r r h (ent l)) := HM.out.keep (hx.fr (by omega))
          have hg2 : g ≤ w2.heap.size := Nat.le_trans hgi hx.size
          clear hx cA2 fA2 hw2 H1 HI HO HFr HM hgi HF1'
          have HCk := Lib.hid (check_any (some ⟨g, 0, none⟩) r r (matOf r l) w2 (matOf_len r l).symm HM3.out.rows (by
            refine ⟨by rw [matOf_len]; omega, fun row hrow => ?_⟩
            obtain ⟨x, hx, rfl⟩ := List.getElem_of_mem hrow
            obtain ⟨_, he⟩ := matOf_row (List.getElem?_eq_getElem hx)
            rw [he]
            refine ⟨by simp; omega, fun z hz => ?_⟩
            obtain ⟨y, _, rfl⟩ := List.mem_map.1 hz
            unfold ent
            rw [List.getD_eq_getElem?_getD]
            cases hy : l[tri (max x y) + min x y]? with
            | none => simp
            | some z2 => have := HBd.out z2 (List.mem_of_getElem? hy); simp; omega))
          obtain ⟨cc, hcc⟩ : ∃ cc, chk (matOf r l) = cc := ⟨_, rfl⟩
          rw [hcc] at HCk
          have HCC := Lib.hid hcc
          clear hcc
          by_cases hc0 : cc = 0
          · subst hc0
            have HFo : Hid (formP s.data.toList p = .ok (matOf r l, q1)) := by
              have := formP_s HN.out HFT2.out HW2.out (by rw [Int.toNat_natCast]; exact HCC.out)
              rw [Int.toNat_natCast] at this; exact this
            go_wp2_with fail
            refine HCk.out.mono ?_
            rintro e w3 ⟨rfl, hx⟩
            have HI3 := Lib.hid (HI2.out.ext hx)
            have cO3 := hx.cell HO2.out
            have HF3 := Lib.hid (HF2.out.keep (hx.fr B))
            have HM4 := Lib.hid ((HM3.out.keep (hx.fr g)).weak hBg)
            have hB3 : B ≤ w3.heap.size := by have := hx.size; omega
            have hal2 : acc.length ≤ 1000000 := by omega
            clear hx HCk HI2 HO2 HF2 HM3 hg2
            go_wp2_with (with_reducible refine wpList_append_form rfl (.tmp 86) (.tmp 88) rfl B ov acc rfl HF3.out g r h l HM4.out rfl hal2 hB3 ?_)
            intro v4 w4 HF4 HX4
            have HI4 := Lib.hid (HI3.out.below HX4.out ⟨by omega, by omega, by omega, by omega, by omega, by have := HI3.out.X.size; omega⟩)
            have cO4 := old HX4.out cO3 (by omega)
            have fO4 := HI4.out.fO
            have hB4 : B ≤ w4.heap.size := Nat.le_trans hB3 HX4.out.size
            obtain ⟨A4, k4, hv4, _⟩ := HF4.out.value
            obtain ⟨n4, hn4⟩ : ∃ n4, (acc ++ [matOf r l]).length = n4 := ⟨_, rfl⟩
            rw [hn4] at hv4
            subst hv4
            clear hn4
            go_wp2
            go_roundg (nn - (i + 1))
            case measure => omega
            case rel => exact ⟨i + 1, q1, acc ++ [matOf r l], _, by omega, by go_num, by rw [List.length_append, hal]; rfl, hq1, by simpa [World.setCell] using hB4, HI4.out.set_ _ (by omega) (by omega), setc cO4, HF4.out.keep ((Fr.refl B w4).set_ (p := ⟨bO, 0, none⟩) (.inr (by show bO < B; omega)) _), by
              rw [HK2.out]
              have := HR.out
              rw [forms_s HFo.out] at this; exact this⟩
          · have hcb : (cc != 0) = true := by rw [bne_iff_ne]; exact hc0
            have HRes := Lib.hid (HR.out.trans (forms_err (formP_c HN.out HFT2.out HW2.out (by rw [Int.toNat_natCast, HCC.out]; exact hc0))))
            clear hc0
            go_wp2_with fail
            refine HCk.out.mono ?_
            rintro e w3 ⟨rfl, hx⟩
            have HI3 := Lib.hid (HI2.out.ext hx)
            have HO3 := Lib.hid (hx.cell HO2.out)
            have cF3 := HI3.out.F
            clear hx HCk HI2 HO2 HF2 HM3 hg2
            go_wp2_with fail
            refine (fail_any 280 p _).mono ?_
            rintro e w4 ⟨⟨N, rfl, hN, hF⟩, hx⟩
            have HX := Lib.hid (hx.toBut (fun x => x = bA))
            have HF := Lib.hid hF
            clear hx hF cF3
            go_wp2
            exact read_panic HI3.out HO3.out HX.out hN HF.out HRes.out rfl rfl ⟨i0, i1, i2, i3⟩
      -- </fold>
    · obtain rfl : i = nn := by omega
      rw [Nat.sub_self] at HR
      have H1 := Lib.hid (word_any s ⟨#[115, 117, 109, 32]⟩ p bA bS bF wr hs40 (by decide) hp HI.out.A HI.out.fA HI.out.S HI.out.F (by omega) (by omega))
      rw [show (⟨#[115, 117, 109, 32]⟩ : ByteArray).data.toList = sumW from rfl] at H1
      have cA := HI.out.A
      go_wp2_with fail
      refine H1.out.mono ?_
      rintro e w1 ⟨hr, hx⟩
      rcases hr with ⟨f, hw1, rfl, cA1, fA1⟩ | ⟨b, hw1, N, rfl, hN, hF⟩
      case inr =>
        have HRes := Lib.hid (HR.out.trans (after_e (tailP_1 hw1) (by decide)))
        have HX := Lib.hid hx
        have HF := Lib.hid hF
        clear hx hF hw1 H1 cA
        go_wp2
        exact read_panic HI.out HO.out HX.out hN HF.out HRes.out rfl rfl ⟨i0, i1, i2, i3⟩
      have hf := (wordP_le hw1 (by simpa using hp)).2
      rw [show s.data.toList.length = s.size by simp] at hf
      have HW1 := Lib.hid hw1
      have HI1 : Hid (RdInv w w1 s bS bO bE bA bF f) := HI.out.but hx cA1 fA1 (by omega) (by omega)
      have HO1 : Hid (w1.cell? ⟨bO, 0, none⟩ = some ov) := hx.cell HO.out (by omega)
      have HF1 : Hid (Forms w1 B ov acc) := HFm.out.keep (hx.fr (by omega))
      have cA1' := cA1
      clear hx fA1 hw1 H1 HI HO HFm hBr cA cA1
      go_wp2
      go_loopg [95] 16 (fun kk iv wi => ∃ x y : Nat, kk + x = 16 ∧ iv = .int .i64 x ∧ y ≤ s.size ∧ Hid (RdInv w wi s bS bO bE bA bF y) ∧ Hid (wi.cell? ⟨bO, 0, none⟩ = some ov) ∧ Hid (Forms wi B ov acc) ∧ Hid (hexP s.data.toList (16 - x) y = hexP s.data.toList 16 f))
      case atStart => exact ⟨0, f, by omega, rfl, hf, HI1, HO1, HF1, rfl⟩
      case round =>
        clear HI1 HO1 HF1 cA1'
        obtain ⟨x, y, hkx, rfl, hy, HI, HO, HFm, HX⟩ := hrel
        have cA := HI.out.A
        have fA := HI.out.fA
        have cS := HI.out.S
        have cF := HI.out.F
        by_cases hx16 : x < 16
        · obtain ⟨k', hk'⟩ : ∃ k', 16 - x = k' + 1 := ⟨16 - x - 1, by omega⟩
          have hk2 : 16 - (x + 1) = k' := by omega
          rw [hk'] at HX
          have HK2 := Lib.hid hk2
          clear hk' hk2
          by_cases hys : y = s.size
          · have HE : Hid (hexP s.data.toList 16 f = .error y) := by rw [← HX.out]; exact hexP_end (List.getElem?_eq_none (by simp; omega))
            have HRes := Lib.hid (HR.out.trans (after_e (tailP_2 HW1.out HE.out) (by decide)))
            have hyb : ((y : Int) == s.size) = true := by rw [beq_iff_eq]; omega
            clear hys
            go_wp2_with fail
            refine (fail_any 280 y _).mono ?_
            rintro e w4 ⟨⟨N, rfl, hN, hF⟩, hx⟩
            have HX := Lib.hid (hx.toBut (fun x => x = bA))
            have HF := Lib.hid hF
            clear hx hF cF cA fA cS
            go_wp2
            exact read_panic HI.out HO.out HX.out hN HF.out HRes.out rfl rfl ⟨i0, i1, i2, i3⟩
          · have hyl : y < s.size := by omega
            have hyb : ((y : Int) == s.size) = false := by rw [beq_eq_false_iff_ne]; omega
            have hc := byte_at s y hyl
            clear hys
            -- <fold>
            by_cases c1 : s[y].toNat < 48
            · have hb : hexB s[y] = false := by unfold hexB; simp; omega
              have HE : Hid (hexP s.data.toList 16 f = .error y) := by rw [← HX.out]; exact hexP_e hc hb
              have HRes := Lib.hid (HR.out.trans (after_e (tailP_2 HW1.out HE.out) (by decide)))
              have t48 : decide ((48 : Int) ≤ (s[y].toNat : Int)) = false := by simp; omega
              have t97 : decide ((97 : Int) ≤ (s[y].toNat : Int)) = false := by simp; omega
              clear hb hc
              go_wp2_with fail
              refine (fail_any 280 y _).mono ?_
              rintro e w4 ⟨⟨N, rfl, hN, hF⟩, hx⟩
              have HX := Lib.hid (hx.toBut (fun x => x = bA))
              have HF := Lib.hid hF
              clear hx hF cF cA fA cS
              go_wp2
              exact read_panic HI.out HO.out HX.out hN HF.out HRes.out rfl rfl ⟨i0, i1, i2, i3⟩
            by_cases c2 : s[y].toNat ≤ 57
            · have hb : hexB s[y] = true := by unfold hexB; simp; omega
              have HE : Hid (hexP s.data.toList k' (y + 1) = hexP s.data.toList 16 f) := by rw [← HX.out]; exact (hexP_s hc hb).symm
              have t48 : (48 : Int) ≤ (s[y].toNat : Int) := by omega
              have u57 : (s[y].toNat : Int) ≤ 57 := by omega
              clear hb hc
              go_wp2
              go_roundg (gk - 1)
              case measure => omega
              case rel => exact ⟨x + 1, y + 1, by omega, by go_num, by omega, HI.out.putA (y + 1) (by omega) (by omega), by rw [World.cell?_setCell_other _ _ _ _ (by intro e; injection e with e1 _; omega)]; exact HO.out, HFm.out.keep ((Fr.refl B wr).set_ (p := ⟨bA, 0, none⟩) (.inr (by show bA < B; omega)) _), by rw [HK2.out]; exact HE⟩
            by_cases c3 : s[y].toNat < 97
            · have hb : hexB s[y] = false := by unfold hexB; simp; omega
              have HE : Hid (hexP s.data.toList 16 f = .error y) := by rw [← HX.out]; exact hexP_e hc hb
              have HRes := Lib.hid (HR.out.trans (after_e (tailP_2 HW1.out HE.out) (by decide)))
              have t48 : (48 : Int) ≤ (s[y].toNat : Int) := by omega
              have u57 : decide ((s[y].toNat : Int) ≤ 57) = false := by simp; omega
              have t97 : decide ((97 : Int) ≤ (s[y].toNat : Int)) = false := by simp; omega
              clear hb hc
              go_wp2_with fail
              refine (fail_any 280 y _).mono ?_
              rintro e w4 ⟨⟨N, rfl, hN, hF⟩, hx⟩
              have HX := Lib.hid (hx.toBut (fun x => x = bA))
              have HF := Lib.hid hF
              clear hx hF cF cA fA cS
              go_wp2
              exact read_panic HI.out HO.out HX.out hN HF.out HRes.out rfl rfl ⟨i0, i1, i2, i3⟩
            by_cases c4 : s[y].toNat ≤ 102
            · have hb : hexB s[y] = true := by unfold hexB; simp; omega
              have HE : Hid (hexP s.data.toList k' (y + 1) = hexP s.data.toList 16 f) := by rw [← HX.out]; exact (hexP_s hc hb).symm
              have t48 : (48 : Int) ≤ (s[y].toNat : Int) := by omega
              have u57 : decide ((s[y].toNat : Int) ≤ 57) = false := by simp; omega
              have t97 : (97 : Int) ≤ (s[y].toNat : Int) := by omega
              have u102 : (s[y].toNat : Int) ≤ 102 := by omega
              clear hb hc
              go_wp2
              go_roundg (gk - 1)
              case measure => omega
              case rel => exact ⟨x + 1, y + 1, by omega, by go_num, by omega, HI.out.putA (y + 1) (by omega) (by omega), by rw [World.cell?_setCell_other _ _ _ _ (by intro e; injection e with e1 _; omega)]; exact HO.out, HFm.out.keep ((Fr.refl B wr).set_ (p := ⟨bA, 0, none⟩) (.inr (by show bA < B; omega)) _), by rw [HK2.out]; exact HE⟩
            · have hb : hexB s[y] = false := by unfold hexB; simp; omega
              have HE : Hid (hexP s.data.toList 16 f = .error y) := by rw [← HX.out]; exact hexP_e hc hb
              have HRes := Lib.hid (HR.out.trans (after_e (tailP_2 HW1.out HE.out) (by decide)))
              have t48 : (48 : Int) ≤ (s[y].toNat : Int) := by omega
              have u57 : decide ((s[y].toNat : Int) ≤ 57) = false := by simp; omega
              have t97 : (97 : Int) ≤ (s[y].toNat : Int) := by omega
              have u102 : decide ((s[y].toNat : Int) ≤ 102) = false := by simp; omega
              clear hb hc
              go_wp2_with fail
              refine (fail_any 280 y _).mono ?_
              rintro e w4 ⟨⟨N, rfl, hN, hF⟩, hx⟩
              have HX := Lib.hid (hx.toBut (fun x => x = bA))
              have HF := Lib.hid hF
              clear hx hF cF cA fA cS
              go_wp2
              exact read_panic HI.out HO.out HX.out hN HF.out HRes.out rfl rfl ⟨i0, i1, i2, i3⟩
            -- </fold>
        · obtain rfl : x = 16 := by omega
          have HE : Hid (hexP s.data.toList 16 f = .ok y) := by rw [← HX.out]; rfl
          have hyf : f + 16 ≤ s.size := by have := hexP_le HE.out (by simpa using hf); simp at this; omega
          have H1 := Lib.hid (word_any s ⟨#[10]⟩ y bA bS bF wr hs40 (by decide) hy HI.out.A HI.out.fA HI.out.S HI.out.F (by omega) (by omega))
          rw [show (⟨#[10]⟩ : ByteArray).data.toList = [10] from rfl] at H1
          clear cA fA cS cF
          go_wp2_with fail
          refine H1.out.mono ?_
          rintro e w2 ⟨hr, hx⟩
          rcases hr with ⟨z, hw2, rfl, cA2, fA2⟩ | ⟨b, hw2, N, rfl, hN, hF⟩
          case inr =>
            have HRes := Lib.hid (HR.out.trans (after_e (tailP_3 HW1.out HE.out hw2) (by decide)))
            have HX := Lib.hid hx
            have HF := Lib.hid hF
            clear hx hF hw2 H1
            go_wp2
            exact read_panic HI.out HO.out HX.out hN HF.out HRes.out rfl rfl ⟨i0, i1, i2, i3⟩
          have hz := (wordP_le hw2 (by simpa using hy)).2
          rw [show s.data.toList.length = s.size by simp] at hz
          have HW2 := Lib.hid hw2
          have HI2 : Hid (RdInv w w2 s bS bO bE bA bF z) := HI.out.but hx cA2 fA2 (by omega) (by omega)
          have HO2 : Hid (w2.cell? ⟨bO, 0, none⟩ = some ov) := hx.cell HO.out (by omega)
          have HF2 : Hid (Forms w2 B ov acc) := HFm.out.keep (hx.fr (by omega))
          clear hx fA2 hw2 H1 HI HO HFm HX
          have cS := HI2.out.S
          have cF := HI2.out.F
          by_cases hzl : z < s.size
          · have HRes := Lib.hid (HR.out.trans (after_e (tailP_4 HW1.out HE.out HW2.out (by simpa using hzl)) (by decide)))
            have hzd : decide ((z : Int) < s.size) = true := by simp; omega
            go_wp2_with fail
            refine (fail_any 280 z _).mono ?_
            rintro e w4 ⟨⟨N, rfl, hN, hF⟩, hx⟩
            have HX := Lib.hid (hx.toBut (fun x => x = bA))
            have HF := Lib.hid hF
            clear hx hF cF cA2 cS
            go_wp2
            exact read_panic HI2.out HO2.out HX.out hN HF.out HRes.out rfl rfl ⟨i0, i1, i2, i3⟩
          · have hzd : decide ((z : Int) < s.size) = false := by simp; omega
            have e1 := extract_cut s f (f + 16)
            have e2 : (s.extract 0 p).data.toList = s.data.toList.take p := by rw [extract_cut]; unfold cutL; simp
            obtain ⟨t1, ht1⟩ : ∃ t1, s.extract f (f + 16) = t1 := ⟨_, rfl⟩
            obtain ⟨t2, ht2⟩ : ∃ t2, s.extract 0 p = t2 := ⟨_, rfl⟩
            rw [ht1] at e1
            rw [ht2] at e2
            obtain ⟨fn, hfn⟩ : ∃ fn, fnv (s.data.toList.take p) = fn := ⟨_, rfl⟩
            have HSm : Hid (∀ W, Calls Tryz.prog 8 #[.string t2] W fun e w' => e = .returned (.int .u64 (fn : Nat)) ∧ W = w') := fun W => by
              have h := Sum_any t2 W (by rw [← ht2]; simp [ByteArray.size_extract]; omega)
              rw [e2, hfn] at h; exact h
            have HDg := Lib.hid (fun W (h : Ext w W) => digits_any fn W (by rw [← hfn]; exact fnv_lt _) (HV.out.ext h).deb)
            obtain ⟨q, hq⟩ : ∃ q, (⟨(hex16 fn).toArray⟩ : ByteArray) = q := ⟨_, rfl⟩
            rw [hq] at HDg
            have hqt : t1 = q ↔ cutL s.data.toList f (f + 16) = hex16 (fnv (s.data.toList.take p)) := by
              rw [← hq, ← e1, hfn]
              constructor
              · intro h; rw [h]
              · intro h; apply ByteArray.ext; simp [← h]
            have HQ := Lib.hid hqt
            have E1 := Lib.hid e1
            have hf16 : (f : Int) + 16 ≤ s.size := by omega
            have hpI : (p : Int) ≤ s.size := by omega
            have hsl : ∀ W, (Instr.slice 9 (.string s) (some (.int .i64 f)) (some (.int .i64 ((f : Int) + 16))) none).run Tryz.prog W = .ok (.string t1) W := fun W => by
              rw [run_slice_string (P := Tryz.prog) W 9 s .i64 .i64 f ((f : Int) + 16) Tryz.underlying9 (by omega) (by omega) hf16, ← ht1]
              rw [Int.toNat_natCast, show ((f : Int) + 16).toNat = f + 16 by omega]
            have hwr : IntKind.i64.wrap ((f : Int) + 16) = (f : Int) + 16 := IntWalk.i64_in _ (by omega)
            clear e1 e2 hfn hq hqt
            by_cases htq : t1 = q
            · subst htq
              have hqb : (t1.toList == t1.toList) = true := by simp
              have HOk : Hid (readP s.data.toList = .ok acc) := HR.out.trans (after_ok (tailP_6 HW1.out HE.out HW2.out (by simp; omega) (HQ.out.1 rfl)))
              go_upto_region 44 with fail
              go_region_held3 (fun w' => w'.cell? ⟨bS, 0, none⟩ = some (.string s)) (first | exact cS | exact cS5)
                (first
                  | (go_at_call 8; refine (HSm.out _).mono ?_; rintro e w' ⟨rfl, rfl⟩)
                  | (go_at_call 17; refine (HDg.out _ HI2.out.X.drew).mono ?_; rintro e w5 ⟨rfl, hx5⟩; have cS5 := hx5.cell cS; have HX5 := Lib.hid hx5; clear hx5))
              have hxe : Ext w2 w5 := (Ext.refl w2).drew.trans HX5.out
              have HI5 := Lib.hid (HI2.out.ext hxe)
              have HF5 := Lib.hid (HF2.out.keep (hxe.fr B))
              have cO5 := hxe.cell HO2.out
              have cE5 := HI5.out.E
              have fE5 := HI5.out.fE
              have fO5 := HI5.out.fO
              obtain ⟨A5, k5, rfl, hforms⟩ := HF5.out.value
              have HFo := Lib.hid hforms
              obtain ⟨n5, hn5⟩ : ∃ n5, acc.length = n5 := ⟨_, rfl⟩
              have HN5 := Lib.hid hn5
              have hO5 := lt_of_cell cO5
              clear hxe HI2 HO2 HF2 hforms cS cA2 cF hn5
              go_wp2
              obtain ⟨A', c', he, hf⟩ := (HF5.out.keep (((Fr.refl B w5).set_ (p := ⟨bO, 0, none⟩) (.inr (by show bO < B; omega)) (.slice A5 i k5)).set_ (p := ⟨bE, 0, none⟩) (.inr (by show bE < B; omega)) .nilIface)).value
              injection he with he1 _ _
              subst he1
              refine read_told HOk.out rfl rfl (A := A5) (c := k5) ?_ ?_ hf ((HI5.out.X.setCell (p := ⟨bO, 0, none⟩) (by show w.heap.size ≤ bO; omega) _).setCell (p := ⟨bE, 0, none⟩) (by show w.heap.size ≤ bE; omega) _)
              · rw [World.cell?_setCell_other _ _ _ _ (by intro e; injection e with e1 _; omega), hal]; exact setc cO5
              · exact setc (u := .nilIface) (by rw [World.cell?_setCell_other _ _ _ _ (by intro e; injection e with e1 _; omega)]; exact cE5)
            · have hqb : (t1.toList == q.toList) = false := str_ne htq
              have HRes := Lib.hid (HR.out.trans (after_e (tailP_5 HW1.out HE.out HW2.out (by simp; omega) (fun h => htq (HQ.out.2 h))) (by decide)))
              clear htq
              go_upto_region 44 with fail
              go_region_held3 (fun w' => w'.cell? ⟨bS, 0, none⟩ = some (.string s)) (first | exact cS | exact cS5)
                (first
                  | (go_at_call 8; refine (HSm.out _).mono ?_; rintro e w' ⟨rfl, rfl⟩)
                  | (go_at_call 17; refine (HDg.out _ HI2.out.X.drew).mono ?_; rintro e w5 ⟨rfl, hx5⟩; have cS5 := hx5.cell cS; have HX5 := Lib.hid hx5; clear hx5))
              have hxe : Ext w2 w5 := (Ext.refl w2).drew.trans HX5.out
              have HI5 := Lib.hid (HI2.out.ext hxe)
              have HO5 := Lib.hid (hxe.cell HO2.out)
              have cF5 := HI5.out.F
              clear hxe HI2 HO2 HF2 cS cA2 cF
              go_wp2_with fail
              refine (fail_any 281 f _).mono ?_
              rintro e w4 ⟨⟨N, rfl, hN, hF⟩, hx⟩
              have HX := Lib.hid (hx.toBut (fun x => x = bA))
              have HF := Lib.hid hF
              clear hx hF
              go_wp2
              exact read_panic HI5.out HO5.out HX.out hN HF.out HRes.out rfl rfl ⟨i0, i1, i2, i3⟩
theorem Read_any (s : ByteArray) (w : World) (hs : s.size ≤ 9223372036854775807) (hv : Vars w) :
    Calls Tryz.prog 11 #[.string s] w (ReadPost (readP s.data.toList) w) := by
  by_cases h : 1048576 < s.size
  · have e : readP s.data.toList = .error (3, 0) := by
      unfold readP
      rw [if_pos (by simpa using h)]
    rw [e]; exact read_long s w h hs
  · exact read_rest s w (by omega) hv
end Go.Proofs.YtiihnoelclnahaaGreatDoor
namespace Go.Proofs.YtiihnoelclnahaaGreatDoor
open Go.RowKit
set_option linter.unusedVariables false
theorem drop_head {s : List UInt8} {a : Nat} {c : UInt8} {t : List UInt8} (h : s.drop a = c :: t) : s[a]? = some c ∧ s.drop (a + 1) = t := by
  have hl : a < s.length := by
    rcases Nat.lt_or_ge a s.length with h1 | h1
    · exact h1
    · rw [List.drop_eq_nil_of_le h1] at h; cases h
  rw [List.drop_eq_getElem_cons hl] at h
  injection h with h1 h2
  exact ⟨by rw [List.getElem?_eq_getElem hl, h1], h2⟩
theorem drop_app {s p t : List UInt8} {a : Nat} (h : s.drop a = p ++ t) : s.drop (a + p.length) = t := by
  rw [← List.drop_drop, h, List.drop_append_of_le_length (Nat.le_refl _), List.drop_length, List.nil_append]
theorem wordP_yes {s w t : List UInt8} {a : Nat} (h : s.drop a = w ++ t) : wordP s w a = .ok (a + w.length) := by
  induction w generalizing a with
  | nil => rfl
  | cons c w ih =>
    obtain ⟨h1, h2⟩ := drop_head h
    rw [wordP, if_pos h1, ih h2, List.length_cons]
    congr 1; omega
theorem decDigits_dig (u : Nat) : ∀ c ∈ Lib.decDigits u, digB c = true := by
  have hd : ∀ d : Nat, d < 10 → digB (UInt8.ofNat (48 + d)) = true := by decide
  induction u using Nat.strongRecOn with
  | _ u ih =>
    rw [Lib.decDigits]
    split
    · rename_i h
      intro c hc
      rw [List.mem_singleton] at hc; subst hc
      exact hd u h
    · intro c hc
      rcases List.mem_append.1 hc with h | h
      · exact ih (u / 10) (by omega) c h
      · rw [List.mem_singleton] at h; subst h
        exact hd _ (by omega)
theorem decDigits_ne (u : Nat) : Lib.decDigits u ≠ [] := by
  intro h
  have := congrArg List.length h
  rw [Lib.decDigits_length] at this
  have := Lib.nDigits_pos u
  simp at *; omega
/-- No digit stands ahead. -/
def Stop (t : List UInt8) : Prop := ∀ c r, t = c :: r → digB c = false
theorem takeWhile_dig (ds t : List UInt8) (hd : ∀ c ∈ ds, digB c = true) (ht : Stop t) : (ds ++ t).takeWhile digB = ds := by
  induction ds with
  | nil =>
    cases t with
    | nil => rfl
    | cons c r => rw [List.nil_append, List.takeWhile_cons_of_neg (by rw [ht c r rfl]; simp)]
  | cons c ds ih => rw [List.cons_append, List.takeWhile_cons_of_pos (hd c (by simp)), ih fun x hx => hd x (by simp [hx])]
theorem skipD_yes {s ds t : List UInt8} {e : Nat} (h : s.drop e = ds ++ t) (hd : ∀ c ∈ ds, digB c = true) (ht : Stop t) : skipD s e = e + ds.length := by
  unfold skipD
  rw [h, takeWhile_dig ds t hd ht]
theorem endN_yes {s t : List UInt8} {a : Nat} {v : Int} (h : s.drop a = Lib.itoa v ++ t) (ht : Stop t) : endN s a = a + (Lib.itoa v).length := by
  unfold endN
  unfold Lib.itoa at h ⊢
  by_cases hv : v < 0
  · rw [if_pos hv] at h ⊢
    obtain ⟨h1, h2⟩ := drop_head h
    rw [if_pos h1, skipD_yes h2 (decDigits_dig _) ht, List.length_cons]; omega
  · rw [if_neg hv] at h ⊢
    rw [if_neg, skipD_yes h (decDigits_dig _) ht]
    intro h1
    cases hl : Lib.decDigits v.toNat with
    | nil => exact decDigits_ne _ hl
    | cons c r =>
      rw [hl, List.cons_append] at h
      have h2 := (drop_head h).1
      rw [h1] at h2
      have h3 := decDigits_dig v.toNat c (by rw [hl]; simp)
      have := Option.some.inj h2
      rw [← this] at h3
      exact absurd h3 (by decide)
theorem parseU_append (M : Nat) (l1 l2 : List UInt8) : ∀ acc a : Nat, Lib.parseUintM M acc l1 = .ok a → Lib.parseUintM M acc (l1 ++ l2) = Lib.parseUintM M a l2 := by
  induction l1 with
  | nil => intro acc a h; injection h with h; rw [h]; rfl
  | cons c l1 ih =>
    intro acc a h
    rw [List.cons_append]
    simp only [Lib.parseUintM] at h ⊢
    split at h
    · rename_i h1
      rw [if_pos h1]
      split at h
      · cases h
      · rename_i h2
        rw [if_neg h2]
        split at h
        · cases h
        · rename_i h3
          rw [if_neg h3]
          exact ih _ _ h
    · cases h
theorem digit_nat (d : Nat) (h : d < 10) : (UInt8.ofNat (48 + d)).toNat = 48 + d := by
  rw [UInt8.toNat_ofNat']; omega
theorem parseU_dec (u : Nat) (h : u ≤ 18446744073709551615) : Lib.parseUintM 18446744073709551615 0 (Lib.decDigits u) = .ok u := by
  induction u using Nat.strongRecOn with
  | _ u ih =>
    rw [Lib.decDigits]
    split
    · rename_i h1
      simp only [Lib.parseUintM, digit_nat u h1]
      rw [if_pos (by omega), if_neg (by omega), if_neg (by omega)]
      congr 1; omega
    · rename_i h1
      rw [parseU_append _ _ _ _ _ (ih (u / 10) (by omega) (by omega))]
      simp only [Lib.parseUintM, digit_nat (u % 10) (by omega)]
      rw [if_pos (by omega), if_neg (by omega), if_neg (by omega)]
      congr 1; omega
theorem parseI_itoa (v : Int) (h0 : -9223372036854775808 ≤ v) (h1 : v ≤ 9223372036854775807) : Lib.parseIntB 64 (Lib.itoa v) = .ok v := by
  have e64 : (2 : Nat) ^ 64 - 1 = 18446744073709551615 := by decide
  have e63 : (2 : Nat) ^ (64 - 1) = 9223372036854775808 := by decide
  unfold Lib.itoa
  by_cases hv : v < 0
  · rw [if_pos hv]
    have h45 : (45 : UInt8).toNat = 45 := rfl
    simp only [Lib.parseIntB, h45, Lib.parseUintB, e64, e63, if_neg (decDigits_ne _), or_true, if_true, parseU_dec v.natAbs (by omega), not_true_eq_false, false_and, if_false, true_and]
    rw [if_neg (by omega)]
    congr 1; omega
  · rw [if_neg hv]
    cases hl : Lib.decDigits v.toNat with
    | nil => exact absurd hl (decDigits_ne _)
    | cons c r =>
      have h3 := decDigits_dig v.toNat c (by rw [hl]; simp)
      unfold digB at h3
      rw [Bool.and_eq_true, decide_eq_true_eq, decide_eq_true_eq] at h3
      have hp := parseU_dec v.toNat (by omega)
      rw [hl] at hp
      simp only [Lib.parseIntB]
      rw [if_neg (by omega)]
      simp only [Lib.parseUintB, e64, e63, if_neg (List.cons_ne_nil c r), hp]
      rw [if_neg (by omega), if_neg (by omega), if_neg (by omega)]
      congr 1; omega
theorem numP_yes' {s t : List UInt8} {lo hi v : Int} {a : Nat} (h : s.drop a = Lib.itoa v ++ t) (ht : Stop t) (h0 : -9223372036854775808 ≤ v) (h1 : v ≤ 9223372036854775807) (hlo : lo ≤ v) (hhi : v ≤ hi) : numP s lo hi a = .ok (v, a + (Lib.itoa v).length) := by
  have hE := endN_yes h ht
  have hc : cutL s a (a + (Lib.itoa v).length) = Lib.itoa v := by
    unfold cutL
    rw [h, show a + (Lib.itoa v).length - a = (Lib.itoa v).length by omega, List.take_left']
    rfl
  unfold numP numT
  rw [hE, hc, parseI_itoa v h0 h1]
  simp only [true_and]
  rw [if_pos ⟨hlo, hhi⟩]
def entT (x : Int) : List UInt8 := 32 :: Lib.itoa x
theorem stop_32 (t : List UInt8) : Stop (32 :: t) := by
  intro c r h; injection h with h _; subst h; decide
theorem stop_10 (t : List UInt8) : Stop (10 :: t) := by
  intro c r h; injection h with h _; subst h; decide
theorem stop_flat (l : List Int) (t : List UInt8) (ht : Stop t) : Stop (l.flatMap entT ++ t) := by
  cases l with
  | nil => exact ht
  | cons x l => exact stop_32 _
theorem flatP_yes {s r : List UInt8} (t : List Int) {a : Nat} {acc : List Int} (h : s.drop a = t.flatMap entT ++ r) (hr : Stop r) (hb : ∀ x ∈ t, -16384 ≤ x ∧ x ≤ 16384) :
    flatP s t.length a acc = .ok (acc ++ t, a + (t.flatMap entT).length) := by
  induction t generalizing a acc with
  | nil => simp [flatP]
  | cons x t ih =>
    have hx := hb x (by simp)
    have e : s.drop a = [32] ++ (Lib.itoa x ++ (t.flatMap entT ++ r)) := by rw [h]; simp [entT]
    have h1 := wordP_yes e
    have e2 := drop_app e
    have h2 := numP_yes' (lo := -16384) (hi := 16384) e2 (stop_flat t r hr) (by omega) (by omega) hx.1 hx.2
    have e3 := drop_app e2
    have h3 := ih (acc := acc ++ [x]) e3 (fun y hy => hb y (by simp [hy]))
    rw [List.length_cons, flatP_s h1 h2, h3]
    congr 2
    · simp
    · simp [entT]; omega
theorem rowText_flat (l : List Int) (k : Nat) : rowText l k = (l.take k).flatMap entT := rfl
theorem row_take {n i : Nat} {l : List Int} (hi : i < n) (hl : l.length = tri n) : ((List.range n).map fun j => ent l i j).take (i + 1) = (l.drop (tri i)).take (i + 1) := by
  have h1 := tri_mono (show i + 1 ≤ n by omega)
  rw [tri_succ] at h1
  apply List.ext_getElem?
  intro j
  rw [List.getElem?_take, List.getElem?_take]
  by_cases hj : j < i + 1
  · rw [if_pos hj, if_pos hj, List.getElem?_map, List.getElem?_range (by omega), List.getElem?_drop]
    simp only [Option.map_some]
    unfold ent
    rw [Nat.max_eq_left (by omega), Nat.min_eq_right (by omega), List.getD_eq_getElem?_getD, List.getElem?_eq_getElem (by omega)]
    rfl
  · rw [if_neg hj, if_neg hj]
theorem rows_flat {n : Nat} {l : List Int} (hl : l.length = tri n) (i : Nat) (hi : i ≤ n) : rowsText (matOf n l) i = (l.take (tri i)).flatMap entT := by
  induction i with
  | zero => simp [rowsText, tri]
  | succ i ih =>
    have hr : (matOf n l)[i]? = some ((List.range n).map fun j => ent l i j) := by
      unfold matOf; rw [List.getElem?_map, List.getElem?_range (by omega)]; rfl
    rw [rowsText_succ _ i _ hr, ih (by omega), rowText_flat, row_take (by omega) hl, tri_succ, show l.take (tri i + (i + 1)) = l.take (tri i) ++ (l.drop (tri i)).take (i + 1) from List.take_add, List.flatMap_append]
theorem matOf_len' (n : Nat) (l : List Int) : (matOf n l).length = n := by unfold matOf; simp
theorem line_flat {n : Nat} {l : List Int} (hl : l.length = tri n) : lineOf (matOf n l) = Lib.itoa n ++ l.flatMap entT ++ [10] := by
  unfold lineOf
  rw [matOf_len', rows_flat hl n (Nat.le_refl _), List.take_of_length_le (by omega)]
/-- The lower half of k rows. -/
def lowerP (f : List (List Int)) (k : Nat) : List Int := (List.range k).flatMap fun i => ((f[i]?).getD []).take (i + 1)
theorem lowerP_succ {f : List (List Int)} {k : Nat} {r : List Int} (h : f[k]? = some r) : lowerP f (k + 1) = lowerP f k ++ r.take (k + 1) := by
  unfold lowerP
  rw [List.range_succ, List.flatMap_append]; simp [h]
theorem lowerP_len {f : List (List Int)} {n : Nat} (hn : f.length = n) (hsq : ∀ r ∈ f, r.length = n) (k : Nat) (hk : k ≤ n) : (lowerP f k).length = tri k := by
  induction k with
  | zero => rfl
  | succ k ih =>
    obtain ⟨r, hr⟩ : ∃ r, f[k]? = some r := ⟨_, List.getElem?_eq_getElem (by omega)⟩
    have hrl : r.length = n := hsq r (List.mem_of_getElem? hr)
    rw [lowerP_succ hr, List.length_append, ih (by omega), tri_succ, List.length_take]; omega
theorem lowerP_at {f : List (List Int)} {n : Nat} (hn : f.length = n) (hsq : ∀ r ∈ f, r.length = n) (k : Nat) (hk : k ≤ n) (i j : Nat) (r : List Int) (hi : i < k) (hr : f[i]? = some r) (hj : j ≤ i) : (lowerP f k)[tri i + j]? = r[j]? := by
  induction k with
  | zero => omega
  | succ k ih =>
    obtain ⟨r', hr'⟩ : ∃ r', f[k]? = some r' := ⟨_, List.getElem?_eq_getElem (by omega)⟩
    have hl := lowerP_len hn hsq k (by omega)
    rw [lowerP_succ hr']
    rcases Nat.lt_or_ge i k with h | h
    · have h1 := tri_mono (show i + 1 ≤ k by omega)
      rw [tri_succ] at h1
      rw [List.getElem?_append_left (by omega)]
      exact ih (by omega) h
    · obtain rfl : i = k := by omega
      rw [hr] at hr'
      injection hr' with hr'
      subst hr'
      rw [List.getElem?_append_right (by omega), hl, Nat.add_sub_cancel_left, List.getElem?_take, if_pos (by omega)]
theorem matOf_lower {f : List (List Int)} (h : chk f = 0) : matOf f.length (lowerP f f.length) = f := by
  obtain ⟨h1, h2, h3, h4, h5, h6⟩ := chk_ok h
  have hm := eachB_true.1 h5
  apply List.ext_getElem?
  intro i
  unfold matOf
  rw [List.getElem?_map]
  rcases Nat.lt_or_ge i f.length with hi | hi
  · rw [List.getElem?_range hi]
    obtain ⟨r, hr⟩ : ∃ r, f[i]? = some r := ⟨_, List.getElem?_eq_getElem hi⟩
    have hrl : r.length = f.length := h3 r (List.mem_of_getElem? hr)
    rw [hr]
    simp only [Option.map_some]
    congr 1
    apply List.ext_getElem?
    intro j
    rw [List.getElem?_map]
    rcases Nat.lt_or_ge j f.length with hj | hj
    · rw [List.getElem?_range hj]
      obtain ⟨c, hc⟩ : ∃ c, f[j]? = some c := ⟨_, List.getElem?_eq_getElem hj⟩
      have hcl : c.length = f.length := h3 c (List.mem_of_getElem? hc)
      obtain ⟨z, hz⟩ : ∃ z, r[j]? = some z := ⟨_, List.getElem?_eq_getElem (by omega)⟩
      rw [hz]
      simp only [Option.map_some]
      congr 1
      unfold ent
      rw [List.getD_eq_getElem?_getD]
      rcases Nat.le_total j i with hji | hij
      · rw [Nat.max_eq_left hji, Nat.min_eq_right hji, lowerP_at rfl h3 _ (Nat.le_refl _) i j r hi hr hji, hz]; rfl
      · have hq := hm i r hr j z hz
        unfold mirrorB at hq
        rw [hc, Option.getD_some] at hq
        obtain ⟨y, hy⟩ : ∃ y, c[i]? = some y := ⟨_, List.getElem?_eq_getElem (by omega)⟩
        rw [hy, Option.getD_some, beq_iff_eq] at hq
        rw [Nat.max_eq_right hij, Nat.min_eq_left hij, lowerP_at rfl h3 _ (Nat.le_refl _) j i c hj hc hij, hy, hq]; rfl
    · rw [List.getElem?_eq_none (by simpa using hj), List.getElem?_eq_none (by omega)]; rfl
  · rw [List.getElem?_eq_none (by simpa using hi), List.getElem?_eq_none hi]; rfl
theorem lowerP_bd {f : List (List Int)} (h : chk f = 0) : ∀ x ∈ lowerP f f.length, -16384 ≤ x ∧ x ≤ 16384 := by
  obtain ⟨h1, h2, h3, h4, h5, h6⟩ := chk_ok h
  have hm := eachB_true.1 h4
  intro x hx
  unfold lowerP at hx
  obtain ⟨i, hi, hx⟩ := List.mem_flatMap.1 hx
  rw [List.mem_range] at hi
  rw [List.getElem?_eq_getElem hi, Option.getD_some] at hx
  obtain ⟨j, hj, rfl⟩ := List.getElem_of_mem (List.mem_of_mem_take hx)
  have := hm i _ (List.getElem?_eq_getElem hi) j _ (List.getElem?_eq_getElem hj)
  unfold smallP smallB at this
  simp at this; omega
theorem formP_yes {s t : List UInt8} {a : Nat} {f : List (List Int)} (hc : chk f = 0) (h : s.drop a = lineOf f ++ t) : formP s a = .ok (f, a + (lineOf f).length) := by
  obtain ⟨h1, h2, h3, _⟩ := chk_ok hc
  have hl := lowerP_len rfl h3 _ (Nat.le_refl f.length)
  have hlen := hl
  have e : lineOf f = Lib.itoa f.length ++ (lowerP f f.length).flatMap entT ++ [10] := by
    have := line_flat hl
    rwa [matOf_lower hc] at this
  rw [e, List.append_assoc, List.append_assoc] at h
  have q1 := numP_yes' (lo := 1) (hi := 8) h (stop_flat _ _ (stop_10 _)) (by omega) (by omega) (by omega) (by omega)
  have e2 := drop_app h
  have q2 := flatP_yes (acc := []) (lowerP f f.length) e2 (stop_10 _) (lowerP_bd hc)
  rw [hl, List.nil_append] at q2
  have e3 := drop_app e2
  have q3 := wordP_yes e3
  have q4 := formP_s (n := (f.length : Int)) q1 (by rw [Int.toNat_natCast]; exact q2) q3 (by rw [Int.toNat_natCast, matOf_lower hc]; exact hc)
  rw [q4, Int.toNat_natCast, matOf_lower hc, e]
  congr 2
  simp only [List.length_append, List.length_cons, List.length_nil]; omega
theorem formsP_yes {s t : List UInt8} (fs : List (List (List Int))) {a : Nat} {acc : List (List (List Int))} (hc : ∀ f ∈ fs, chk f = 0) (h : s.drop a = fs.flatMap lineOf ++ t) :
    formsP s fs.length a acc = .ok (acc ++ fs, a + (fs.flatMap lineOf).length) := by
  induction fs generalizing a acc with
  | nil => simp [formsP]
  | cons f fs ih =>
    have e : s.drop a = lineOf f ++ (fs.flatMap lineOf ++ t) := by rw [h]; simp
    have q := formP_yes (hc f (by simp)) e
    rw [List.length_cons, forms_s q, ih (fun x hx => hc x (by simp [hx])) (drop_app e)]
    congr 2
    · simp
    · simp; omega
theorem hexc_hex (d : Nat) (h : d < 16) : hexB (hexc d) = true := by
  have : ∀ q : Fin 16, hexB (hexc q.val) = true := by decide
  exact this ⟨d, h⟩
theorem hexN_hex (u : Nat) : ∀ c ∈ hexN u, hexB c = true := by
  induction u using Nat.strongRecOn with
  | _ u ih =>
    by_cases h : u < 16
    · rw [hexN_small h]; intro c hc; rw [List.mem_singleton] at hc; subst hc; exact hexc_hex u h
    · rw [hexN_big h]
      intro c hc
      rcases List.mem_append.1 hc with q | q
      · exact ih (u / 16) (by omega) c q
      · rw [List.mem_singleton] at q; subst q; exact hexc_hex _ (by omega)
theorem hex16_hex (u : Nat) : ∀ c ∈ hex16 u, hexB c = true := by
  intro c hc
  unfold hex16 at hc
  rcases List.mem_append.1 hc with q | q
  · rw [List.eq_of_mem_replicate q]; decide
  · exact hexN_hex u c q
theorem hexP_yes {s t ds : List UInt8} {a : Nat} (h : s.drop a = ds ++ t) (hd : ∀ c ∈ ds, hexB c = true) : hexP s ds.length a = .ok (a + ds.length) := by
  induction ds generalizing a with
  | nil => rfl
  | cons c ds ih =>
    obtain ⟨h1, h2⟩ := drop_head h
    rw [List.length_cons, hexP_s h1 (hd c (by simp)), ih h2 fun x hx => hd x (by simp [hx])]
    congr 1; omega
/-- The text behind a body. -/
def tailT (b : List UInt8) : List UInt8 := sumW ++ hex16 (fnv b) ++ [10]
theorem textOf_tail (ls : List (List (List Int))) : textOf ls = bodyOf ls ++ tailT (bodyOf ls) := by unfold textOf tailT; simp
theorem tailT_len (b : List UInt8) : (tailT b).length = 21 := by
  unfold tailT
  simp only [List.length_append, List.length_cons, List.length_nil, hex16_len (fnv_lt b)]; rfl
theorem tailP_yes {b : List UInt8} : tailP (b ++ tailT b) b.length = (0, 0) := by
  have e0 : (b ++ tailT b).drop b.length = sumW ++ (hex16 (fnv b) ++ [10]) := by rw [List.drop_left']; unfold tailT; simp; rfl
  have h1 := wordP_yes e0
  have e1 := drop_app e0
  have h2 := hexP_yes e1 (hex16_hex _)
  have hl : (hex16 (fnv b)).length = 16 := hex16_len (fnv_lt b)
  rw [hl] at h2
  have e2 := drop_app e1
  rw [hl] at e2
  have h3 := wordP_yes (w := [10]) (t := []) (by rw [e2]; rfl)
  have hL : (b ++ tailT b).length = b.length + 21 := by rw [List.length_append, tailT_len]
  have hs : sumW.length = 4 := rfl
  refine tailP_6 h1 h2 h3 (by rw [hL, hs, List.length_cons, List.length_nil]; omega) ?_
  unfold cutL
  rw [e1, show b.length + sumW.length + 16 - (b.length + sumW.length) = 16 by omega, List.take_left' hl, List.take_left' rfl]
theorem firstBad_zero {ls : List (List (List Int))} (h : firstBad ls = 0) : ∀ f ∈ ls, chk f = 0 := by
  induction ls with
  | nil => simp
  | cons r ls ih =>
    rw [firstBad] at h
    split at h
    · rename_i hc
      intro f hf
      rcases List.mem_cons.1 hf with rfl | hf
      · exact hc
      · exact ih h f hf
    · rename_i hc; exact absurd h hc
theorem codeW_zero {ls : List (List (List Int))} (h : codeW ls = 0) : ls.length ≤ 64 ∧ ∀ f ∈ ls, chk f = 0 := by
  unfold codeW at h
  split at h
  · cases h
  · exact ⟨by omega, firstBad_zero h⟩
theorem lines_len {ls : List (List (List Int))} (hc : ∀ f ∈ ls, chk f = 0) (hf : ∀ f ∈ ls, Fit64 f) : (ls.flatMap lineOf).length ≤ 1440 * ls.length := by
  induction ls with
  | nil => simp
  | cons f ls ih =>
    have ih := ih (fun x hx => hc x (by simp [hx])) (fun x hx => hf x (by simp [hx]))
    have h1 : (lineOf f).length ≤ 1440 := by
      unfold lineOf
      have h8 := (chk_ok (hc f (by simp))).2.1
      have q1 := rowsText_len f f.length (hf f (by simp)) h8
      have q2 := Lib.itoa_length_le (f.length : Int) (by omega) (by omega)
      simp only [List.length_append, List.length_cons, List.length_nil]; omega
    simp only [List.flatMap_cons, List.length_append, List.length_cons]; omega
theorem readP_yes {ls : List (List (List Int))} (hf : FitForms ls) (h : codeW ls = 0) : readP (textOf ls) = .ok ls := by
  obtain ⟨hn, hc⟩ := codeW_zero h
  have hbl : (bodyOf ls).length ≤ 100000 := by
    unfold bodyOf bodyTo
    rw [List.take_of_length_le (Nat.le_refl _)]
    have q1 := lines_len hc hf.2
    have q2 := Lib.itoa_length_le (ls.length : Int) (by omega) (by omega)
    have q3 : headW.length = 8 := rfl
    simp only [List.length_append, List.length_cons, List.length_nil]; omega
  have hL : (textOf ls).length = (bodyOf ls).length + 21 := by rw [textOf_tail, List.length_append, tailT_len]
  have h0 : ¬ 1048576 < (textOf ls).length := by omega
  have e0 : (textOf ls).drop 0 = headW ++ (Lib.itoa ls.length ++ ([10] ++ (ls.flatMap lineOf ++ tailT (bodyOf ls)))) := by
    rw [textOf_tail, List.drop_zero]
    conv => lhs; unfold bodyOf bodyTo
    rw [List.take_of_length_le (Nat.le_refl _)]
    have e : headW ++ Lib.itoa ↑ls.length ++ [10] ++ List.flatMap lineOf ls = bodyOf ls := by unfold bodyOf bodyTo; rw [List.take_of_length_le (Nat.le_refl _)]
    rw [e, ← e]; simp
  have h1 := wordP_yes e0
  have e1 := drop_app e0
  have h2 := numP_yes' (lo := 0) (hi := 64) e1 (stop_10 _) (by omega) (by omega) (by omega) (by omega)
  have e2 := drop_app e1
  have h3 := wordP_yes e2
  have e3 := drop_app e2
  have h4 := formsP_yes (acc := []) ls hc e3
  rw [readP_4 h0 h1 h2 h3, Int.toNat_natCast, h4, List.nil_append]
  have hp : 0 + headW.length + (Lib.itoa (ls.length : Int)).length + ([10] : List UInt8).length + (ls.flatMap lineOf).length = (bodyOf ls).length := by
    unfold bodyOf bodyTo
    rw [List.take_of_length_le (Nat.le_refl _)]
    simp only [List.length_append]; omega
  rw [hp]
  unfold afterP
  have ht : tailP (textOf ls) (bodyOf ls).length = (0, 0) := by rw [textOf_tail]; exact tailP_yes
  simp only [ht, if_true]
end Go.Proofs.YtiihnoelclnahaaGreatDoor
namespace Go.Proofs.YtiihnoelclnahaaGreatDoor
open Go.RowKit Go.Extern.Stop Go.Stop Go.Extern
set_option linter.unusedVariables false
theorem Tryz.valueOf27 (t : Addr) (w : World) : (ReflectliteValue.unpack (.iface 45 (.pointer (some t)))).run Tryz.prog w
    = .ok (.agg #[.pointer (some ⟨7, 45, none⟩), .pointer (some ⟨w.heap.size, 0, none⟩), .int .u64 150]) (w.alloc (.cells #[.pointer (some t)] 45)) := by kernel_rfl
theorem Tryz.type27 (a : Addr) (w : World) : (ReflectliteValue.methodAny (ReflectliteValue.valueError "reflectlite.Value.Type" 0) (fun t _ _ _ => ReflectliteType.toType t) #[.agg #[.pointer (some ⟨7, 45, none⟩), .pointer (some a), .int .u64 150]]).run Tryz.prog w
    = .ok (.iface 86 (.agg #[.pointer (some ⟨7, 45, none⟩)])) w := by kernel_rfl
theorem Tryz.methodKind (h : Value) (w : World) : (Go.method 323 86 (.agg #[h]) "Kind").run Tryz.prog w = .ok (143, h) w := by kernel_rfl
theorem Tryz.kind27 (w : World) : ((ReflectliteType.abiMethod fun t => (fun a : Nat => Value.int IntKind.u8 (a : Int)) <$> Rtype.kind t) #[.pointer (some ⟨7, 45, none⟩)]).run Tryz.prog w = .ok (.int .u8 22) w := by kernel_rfl
theorem Tryz.kind25 (w : World) : ((ReflectliteType.abiMethod fun t => (fun a : Nat => Value.int IntKind.u8 (a : Int)) <$> Rtype.kind t) #[.pointer (some ⟨7, 43, none⟩)]).run Tryz.prog w = .ok (.int .u8 22) w := by kernel_rfl
theorem rlm (z : Sem Value) (f : TypeId → Addr → Nat → Nat → Sem Value) (v : Value) :
    ReflectliteValue.method z f #[v] = (do match ← ReflectliteValue.parts v with | none => z | some (t, a, fl) => f t a fl (fl % 32)) := rfl
theorem Tryz.parts27 (a : Addr) (w : World) : (ReflectliteValue.parts (.agg #[.pointer (some ⟨7, 45, none⟩), .pointer (some a), .int .u64 150])).run Tryz.prog w = .ok (some (45, a, 150)) w := by kernel_rfl
/-- (Value).IsNil at the Value of a **p.E that is not nil. -/
theorem Tryz.isNil27 (a p : Addr) (W : World) (ha : W.cell? a = some (.pointer (some p))) :
    (ReflectliteValue.method (ReflectliteValue.valueError "reflectlite.Value.IsNil" 0) ReflectliteValue.isNil #[.agg #[.pointer (some ⟨7, 45, none⟩), .pointer (some a), .int .u64 150]]).run Tryz.prog W = .ok (.bool false) W := by
  rw [rlm]
  simp only [Sem.run_bind, Tryz.parts27, Result.andThen]
  simp [ReflectliteValue.isNil, loadVar, isAgg, underlying, Tryz.underlying45, ha, Result.andThen]
theorem Tryz.methodElem (h : Value) (w : World) : (Go.method 323 86 (.agg #[h]) "Elem").run Tryz.prog w = .ok (155, .agg #[h]) w := by kernel_rfl
theorem Tryz.methodImplements (h : Value) (w : World) : (Go.method 323 86 (.agg #[h]) "Implements").run Tryz.prog w = .ok (156, .agg #[h]) w := by kernel_rfl
theorem Tryz.methodAssignableTo (h : Value) (w : World) : (Go.method 323 86 (.agg #[h]) "AssignableTo").run Tryz.prog w = .ok (153, .agg #[h]) w := by kernel_rfl
theorem Tryz.elem27 (w : World) : (ReflectliteType.method ReflectliteType.elem #[.agg #[.pointer (some ⟨7, 45, none⟩)]]).run Tryz.prog w = .ok (.iface 86 (.agg #[.pointer (some ⟨7, 43, none⟩)])) w := by kernel_rfl
theorem Tryz.implements25 (w : World) : (ReflectliteType.relation "Implements" ReflectliteType.implements_ #[.agg #[.pointer (some ⟨7, 43, none⟩)], .iface 86 (.agg #[.pointer (some ⟨7, 32, none⟩)])]).run Tryz.prog w = .ok (.bool true) w := by kernel_rfl
theorem Tryz.typeOf25 (v : Value) (w : World) : (ReflectliteType.typeOf #[.iface 43 v]).run Tryz.prog w = .ok (.iface 86 (.agg #[.pointer (some ⟨7, 43, none⟩)])) w := by kernel_rfl
theorem Tryz.assignable25 (w : World) : (ReflectliteType.relation "AssignableTo" ReflectliteType.assignableTo #[.agg #[.pointer (some ⟨7, 43, none⟩)], .iface 86 (.agg #[.pointer (some ⟨7, 43, none⟩)])]).run Tryz.prog w = .ok (.bool true) w := by kernel_rfl
theorem Tryz.valueOf25 (e : Addr) (w : World) : (ReflectliteValue.unpack (.iface 43 (.pointer (some e)))).run Tryz.prog w
    = .ok (.agg #[.pointer (some ⟨7, 43, none⟩), .pointer (some ⟨w.heap.size, 0, none⟩), .int .u64 150]) (w.alloc (.cells #[.pointer (some e)] 43)) := by kernel_rfl
theorem Tryz.elemOf27 (w : World) : (Rtype.elem? 45).run Tryz.prog w = .ok (some 43) w := by kernel_rfl
theorem Tryz.mk25 (p : Addr) (w : World) : (ReflectliteValue.mk 43 p ReflectliteValue.flagAddr).run Tryz.prog w = .ok (.agg #[.pointer (some ⟨7, 43, none⟩), .pointer (some p), .int .u64 406]) w := by kernel_rfl
/-- (Value).Elem at the Value of a **p.E that is not nil: the Value of the *p.E variable that it points to, addressable. -/
theorem Tryz.elemV27 (a p : Addr) (W : World) (ha : W.cell? a = some (.pointer (some p))) :
    (ReflectliteValue.method (ReflectliteValue.valueError "reflectlite.Value.Elem" 0) ReflectliteValue.elem #[.agg #[.pointer (some ⟨7, 45, none⟩), .pointer (some a), .int .u64 150]]).run Tryz.prog W
      = .ok (.agg #[.pointer (some ⟨7, 43, none⟩), .pointer (some p), .int .u64 406]) W := by
  rw [rlm]
  simp only [Sem.run_bind, Tryz.parts27, Result.andThen]
  simp [ReflectliteValue.elem, loadVar, isAgg, underlying, Tryz.underlying45, ha, Result.andThen, Tryz.elemOf27, Tryz.mk25]
theorem rls (v x : Value) : ReflectliteValue.set #[v, x] = (do
    let (some (dst, a, fl), some (src, b, _)) := (← ReflectliteValue.parts v, ← ReflectliteValue.parts x)
      | unsupported (.noEntry "extern/(internal/reflectlite.Value).Set.zeroValue")
    if fl / ReflectliteValue.flagAddr % 2 == 0 then unsupported (.noEntry "extern/(internal/reflectlite.Value).Set.unaddressable")
    let val ← loadVar src b
    if ← Rtype.directlyAssignable dst src then storeVar dst a val
    else if ← Rtype.implements dst src then
      if (← Rtype.kind src) == 20 then
        match val with
        | .nilIface => unsupported (.noEntry "extern/reflectlite: a nil value of one interface type handed on as a value of another")
        | _ => storeVar dst a val
      else storeVar dst a (.iface src val)
    else panicString ("reflectlite.Set: value of type " ++ (← Rtype.spelt src) ++ " is not assignable to type " ++ (← Rtype.spelt dst))
    pure (.tuple #[])) := rfl
theorem Tryz.parts25a (a : Addr) (w : World) : (ReflectliteValue.parts (.agg #[.pointer (some ⟨7, 43, none⟩), .pointer (some a), .int .u64 406])).run Tryz.prog w = .ok (some (43, a, 406)) w := by kernel_rfl
theorem Tryz.parts25 (a : Addr) (w : World) : (ReflectliteValue.parts (.agg #[.pointer (some ⟨7, 43, none⟩), .pointer (some a), .int .u64 150])).run Tryz.prog w = .ok (some (43, a, 150)) w := by kernel_rfl
theorem Tryz.direct25 (w : World) : (Rtype.directlyAssignable 43 43).run Tryz.prog w = .ok true w := by kernel_rfl
/-- (Value).Set: the *p.E variable at 'ta' gets what the Value's own variable 'b' holds. -/
theorem Tryz.set25 (ta b e : Addr) (old : Value) (W : World) (hb : W.cell? b = some (.pointer (some e))) (ht : W.cell? ta = some old) (hf : W.frozen? ta = false) :
    (ReflectliteValue.set #[.agg #[.pointer (some ⟨7, 43, none⟩), .pointer (some ta), .int .u64 406], .agg #[.pointer (some ⟨7, 43, none⟩), .pointer (some b), .int .u64 150]]).run Tryz.prog W
      = .ok (.tuple #[]) (W.setCell ta (.pointer (some e))) := by
  rw [rls]
  simp only [Sem.run_bind, Tryz.parts25a, Tryz.parts25, Result.andThen]
  simp [ReflectliteValue.flagAddr, loadVar, isAgg, underlying, Tryz.underlying43, hb, Result.andThen, Tryz.direct25, storeVar, Value.cells, storeCells, Addr.add]
  rw [run_store Tryz.prog W ta _ _ (by rfl)]
  simp [ht, hf]
set_option maxHeartbeats 4000000 in
set_option maxRecDepth 100000 in
theorem as_hit (e t : Addr) (old : Value) (w : World) (hg : w.cell? ⟨0, 0, none⟩ = some (.iface 86 (.agg #[.pointer (some ⟨7, 32, none⟩)]))) (ht0 : w.cell? t = some old) (hf0 : w.frozen? t = false) :
    Calls Tryz.prog 13 #[.iface 43 (.pointer (some e)), .iface 45 (.pointer (some t))] w fun ev w' => ev = .returned (.bool true) ∧ w' = ((((w.alloc (.cells #[.pointer (some t)] 45)).alloc (.cells #[.pointer (some ⟨7, 45, none⟩), .pointer (some ⟨w.heap.size, 0, none⟩), .int .u64 150] 64)).alloc (.cells #[.pointer (some ⟨7, 45, none⟩), .pointer (some ⟨w.heap.size, 0, none⟩), .int .u64 150] 64)).alloc (.cells #[.pointer (some e)] 43)).setCell t (.pointer (some e)) := by
  have h6 := @run_callFunc_extern Tryz.prog 28 _ (fun args => ReflectliteValue.unpack (args.getD 0 (.tuple #[]))) Tryz.func28 (by kernel_rfl) (by kernel_rfl) (by kernel_rfl) (by kernel_rfl)
  have h7 := @run_callFunc_extern Tryz.prog 29 _ (ReflectliteValue.methodAny (ReflectliteValue.valueError "reflectlite.Value.Type" 0) (fun t _ _ _ => ReflectliteType.toType t)) Tryz.func29 (by kernel_rfl) (by kernel_rfl) (by kernel_rfl) (by kernel_rfl)
  have h8 := @run_callFunc_extern Tryz.prog 30 _ (ReflectliteValue.method (ReflectliteValue.valueError "reflectlite.Value.IsNil" 0) ReflectliteValue.isNil) Tryz.func30 (by kernel_rfl) (by kernel_rfl) (by kernel_rfl) (by kernel_rfl)
  have h27 := @run_callFunc_extern Tryz.prog 143 _ (ReflectliteType.abiMethod fun t => do pure (.int .u8 (← Rtype.kind t))) Tryz.func143 (by kernel_rfl) (by kernel_rfl) (by kernel_rfl) (by kernel_rfl)
  have h37 := @run_callFunc_extern Tryz.prog 155 _ (ReflectliteType.method ReflectliteType.elem) Tryz.func155 (by kernel_rfl) (by kernel_rfl) (by kernel_rfl) (by kernel_rfl)
  have h38 := @run_callFunc_extern Tryz.prog 156 _ (ReflectliteType.relation "Implements" ReflectliteType.implements_) Tryz.func156 (by kernel_rfl) (by kernel_rfl) (by kernel_rfl) (by kernel_rfl)
  have h10 := @run_callFunc_extern Tryz.prog 45 _ ReflectliteType.typeOf Tryz.func45 (by kernel_rfl) (by kernel_rfl) (by kernel_rfl) (by kernel_rfl)
  have h35 := @run_callFunc_extern Tryz.prog 153 _ (ReflectliteType.relation "AssignableTo" ReflectliteType.assignableTo) Tryz.func153 (by kernel_rfl) (by kernel_rfl) (by kernel_rfl) (by kernel_rfl)
  have h11 := @run_callFunc_extern Tryz.prog 46 _ (ReflectliteValue.method (ReflectliteValue.valueError "reflectlite.Value.Elem" 0) ReflectliteValue.elem) Tryz.func46 (by kernel_rfl) (by kernel_rfl) (by kernel_rfl) (by kernel_rfl)
  have h12 := @run_callFunc_extern Tryz.prog 47 _ ReflectliteValue.set Tryz.func47 (by kernel_rfl) (by kernel_rfl) (by kernel_rfl) (by kernel_rfl)
  have tO := Tryz.typeOf25
  have mA := Tryz.methodAssignableTo
  have a25 := Tryz.assignable25
  have v25 := Tryz.valueOf25
  have f6 := Tryz.valueOf27
  have f7 := Tryz.type27
  have mK := Tryz.methodKind
  have mE := Tryz.methodElem
  have mI := Tryz.methodImplements
  have k27 := Tryz.kind27
  have k25 := Tryz.kind25
  have e27 := Tryz.elem27
  have i25 := Tryz.implements25
  have n8 := Tryz.isNil27 ⟨w.heap.size, 0, none⟩ t ((w.alloc (.cells #[.pointer (some t)] 45)).alloc (.cells #[.pointer (some ⟨7, 45, none⟩), .pointer (some ⟨w.heap.size, 0, none⟩), .int .u64 150] 64)) (by simp)
  have hlt : 0 < w.heap.size := by
    rcases Nat.eq_zero_or_pos w.heap.size with h0 | h
    · simp [World.cell?, h0] at hg
    · exact h
  have hg2 : ((w.alloc (.cells #[.pointer (some t)] 45)).alloc (.cells #[.pointer (some ⟨7, 45, none⟩), .pointer (some ⟨w.heap.size, 0, none⟩), .int .u64 150] 64)).cell? ⟨0, 0, none⟩ = some (.iface 86 (.agg #[.pointer (some ⟨7, 32, none⟩)])) := by
    rw [World.cell?_alloc_lt _ _ ⟨0, 0, none⟩ (by simp), World.cell?_alloc_lt _ _ ⟨0, 0, none⟩ hlt]; exact hg
  have htl : t.block < w.heap.size := by
    rcases Nat.lt_or_ge t.block w.heap.size with h | h
    · exact h
    · simp [World.cell?, Array.getElem?_eq_none h] at ht0
  have el := Tryz.elemV27 ⟨w.heap.size, 0, none⟩ t (((w.alloc (.cells #[.pointer (some t)] 45)).alloc (.cells #[.pointer (some ⟨7, 45, none⟩), .pointer (some ⟨w.heap.size, 0, none⟩), .int .u64 150] 64)).alloc (.cells #[.pointer (some ⟨7, 45, none⟩), .pointer (some ⟨w.heap.size, 0, none⟩), .int .u64 150] 64)) (by rw [World.cell?_alloc_lt _ _ ⟨w.heap.size, 0, none⟩ (by simp; omega)]; simp)
  have st := Tryz.set25 t ⟨w.heap.size + 1 + 1 + 1, 0, none⟩ e old ((((w.alloc (.cells #[.pointer (some t)] 45)).alloc (.cells #[.pointer (some ⟨7, 45, none⟩), .pointer (some ⟨w.heap.size, 0, none⟩), .int .u64 150] 64)).alloc (.cells #[.pointer (some ⟨7, 45, none⟩), .pointer (some ⟨w.heap.size, 0, none⟩), .int .u64 150] 64)).alloc (.cells #[.pointer (some e)] 43))
    (by rw [World.cell?_alloc_at _ _ _ _ (by simp)]; rfl)
    (by rw [World.cell?_alloc_lt _ _ t (by simp; omega), World.cell?_alloc_lt _ _ t (by simp; omega), World.cell?_alloc_lt _ _ t (by simp; omega), World.cell?_alloc_lt _ _ t htl]; exact ht0)
    (by rw [World.frozen?_alloc_old _ _ t (by simp; omega), World.frozen?_alloc_old _ _ t (by simp; omega), World.frozen?_alloc_old _ _ t (by simp; omega), World.frozen?_alloc_old _ _ t (Nat.ne_of_lt htl)]; exact hf0)
  go_enter Tryz.func13, Tryz.ntmps13
  go_wp2
  refine wp_loop_rounds 1 ?_
  rw [rounds_succ]
  go_wp2
  go_ret
  exact ⟨rfl, rfl⟩
end Go.Proofs.YtiihnoelclnahaaGreatDoor
namespace Go.Proofs.YtiihnoelclnahaaGreatDoor
open Go.RowKit
set_option linter.unusedVariables false
theorem itoa_one {n : Nat} (h : n < 10) : Lib.itoa (n : Int) = [UInt8.ofNat (48 + n)] := by
  unfold Lib.itoa
  rw [if_neg (by omega), Int.toNat_natCast, Lib.decDigits_one h]
def exL : List (List (List Int)) := [[[2, 1], [1, 3]]]
theorem exL_code : codeW exL = 0 := by decide +kernel
theorem exL_body : bodyOf exL = [112, 97, 114, 113, 117, 101, 116, 32, 49, 10, 50, 32, 50, 32, 49, 32, 51, 10] := by
  have i1 : Lib.itoa 1 = [49] := itoa_one (n := 1) (by decide)
  have i2 : Lib.itoa 2 = [50] := itoa_one (n := 2) (by decide)
  have i3 : Lib.itoa 3 = [51] := itoa_one (n := 3) (by decide)
  simp [bodyOf, bodyTo, exL, headW, lineOf, rowsText, rowText, i1, i2, i3, List.range_succ]
theorem exL_fit : FitForms exL := by
  refine ⟨by decide, ?_⟩
  intro rows hr
  simp [exL] at hr
  subst hr
  refine ⟨by decide, ?_⟩
  intro l hl
  simp at hl
  rcases hl with rfl | rfl <;> refine ⟨by decide, ?_⟩ <;> intro z hz <;> simp at hz <;> omega
theorem read65 : readP [112, 97, 114, 113, 117, 101, 116, 32, 54, 53] = .error (280, 8) := by
  have h1 : wordP [112, 97, 114, 113, 117, 101, 116, 32, 54, 53] headW 0 = .ok 8 := rfl
  have h2 : numP [112, 97, 114, 113, 117, 101, 116, 32, 54, 53] 0 64 8 = .error 8 := numP_no (v := 65) (E := 10) rfl rfl (by omega)
  exact readP_2 (by decide) h1 h2
/-- The list of the example, as wakes makes it. -/
theorem exL_mem (w : World) : IsForms ((((w.alloc (.cells #[.int .i64 2, .int .i64 1] 2)).alloc (.cells #[.int .i64 1, .int .i64 3] 2)).alloc (.cells #[.slice (some ⟨w.heap.size, 0, none⟩) 2 2, .slice (some ⟨w.heap.size + 1, 0, none⟩) 2 2] 38)).alloc (.cells #[.slice (some ⟨w.heap.size + 1 + 1, 0, none⟩) 2 2] 39)) (some ⟨w.heap.size + 1 + 1 + 1, 0, none⟩) exL := by
  intro _
  refine ⟨w.heap.size + 1 + 1 + 1, 0, rfl, by simp, fun i rows hi => ?_⟩
  match i, hi with
  | 0, hi =>
    simp [exL] at hi
    subst hi
    refine ⟨some ⟨w.heap.size + 1 + 1, 0, none⟩, 2, by simp [go_sem], by simp, fun _ => ⟨w.heap.size + 1 + 1, 0, rfl, by simp, fun j l hj => ?_⟩⟩
    match j, hj with
    | 0, hj =>
      simp at hj; subst hj
      refine ⟨some ⟨w.heap.size, 0, none⟩, 2, by simp [go_sem], by simp, fun _ => ⟨w.heap.size, 0, rfl, by simp; try omega, fun k z hk => ?_⟩⟩
      match k, hk with
      | 0, hk => simp at hk; subst hk; simp [go_sem]
      | 1, hk => simp at hk; subst hk; simp [go_sem]
    | 1, hj =>
      simp at hj; subst hj
      refine ⟨some ⟨w.heap.size + 1, 0, none⟩, 2, by simp [go_sem], by simp, fun _ => ⟨w.heap.size + 1, 0, rfl, by simp, fun k z hk => ?_⟩⟩
      match k, hk with
      | 0, hk => simp at hk; subst hk; simp [go_sem]
      | 1, hk => simp at hk; subst hk; simp [go_sem]
set_option maxHeartbeats 2000000 in
set_option maxRecDepth 100000 in
theorem wakes_any (w : World) (hv : Vars w) :
    Calls Tryz.prog 10 #[] w fun e w' => e = .returned (.bool true) ∧ Ext w w' := by
  have HV := Lib.hid hv
  clear hv
  obtain ⟨sx, hsx⟩ : ∃ sx : ByteArray, (⟨(textW exL).toArray⟩ : ByteArray) = sx := ⟨_, rfl⟩
  have hsl : sx.data.toList = textOf exL := by rw [← hsx]; unfold textW; rw [exL_code]; simp
  have hsz : sx.size = 39 := by
    rw [← hsx]
    unfold textW
    rw [exL_code, if_pos rfl, textOf_tail]
    simp [ByteArray.size, tailT_len, exL_body]
  obtain ⟨hx, hhx⟩ : ∃ hx, hex16 (fnv (bodyOf exL)) = hx := ⟨_, rfl⟩
  have H19 : Hid (((sx.extract 0 19).toList == [112, 97, 114, 113, 117, 101, 116, 32, 49, 10, 50, 32, 50, 32, 49, 32, 51, 10, 115]) = true) := by
    unfold Hid
    rw [beq_iff_eq, ByteArray.toList_eq, Lib.extract_data, hsl, textOf_tail, exL_body]
    unfold tailT sumW
    simp
  have HW := Lib.hid (fun W (h : IsForms W (some ⟨w.heap.size + 1 + 1 + 1, 0, none⟩) exL) (hv : Vars W) => Write_any (some ⟨w.heap.size + 1 + 1 + 1, 0, none⟩) 1 1 exL W rfl h exL_fit hv)
  rw [hsx, exL_code] at HW
  have HR1 := Lib.hid (fun W (hv : Vars W) => Read_any sx W (by omega) hv)
  rw [hsl, readP_yes exL_fit exL_code] at HR1
  have HR2 := Lib.hid (fun W (hv : Vars W) => Read_any ⟨#[112, 97, 114, 113, 117, 101, 116, 32, 54, 53]⟩ W (by decide) hv)
  rw [show (⟨#[112, 97, 114, 113, 117, 101, 116, 32, 54, 53]⟩ : ByteArray).data.toList = [112, 97, 114, 113, 117, 101, 116, 32, 54, 53] from rfl, read65] at HR2
  have HM := Lib.hid (exL_mem w)
  clear hsx hsl hhx
  go_enter Tryz.func10, Tryz.ntmps10
  go_wp2_with fail
  obtain ⟨W0, hW0⟩ : ∃ W0, (((w.alloc (.cells #[.int .i64 2, .int .i64 1] 2)).alloc (.cells #[.int .i64 1, .int .i64 3] 2)).alloc (.cells #[.slice (some ⟨w.heap.size, 0, none⟩) 2 2, .slice (some ⟨w.heap.size + 1, 0, none⟩) 2 2] 38)).alloc (.cells #[.slice (some ⟨w.heap.size + 1 + 1, 0, none⟩) 2 2] 39) = W0 := ⟨_, rfl⟩
  have hx0 : Ext w W0 := by rw [← hW0]; exact ((((Ext.refl w).alloc _).alloc _).alloc _).alloc _
  rw [hW0] at HM ⊢
  have HX0 := Lib.hid hx0
  clear hW0 hx0
  refine (HW.out _ HM.out (HV.out.ext HX0.out)).mono ?_
  rintro e w1 ⟨rfl, hx⟩
  have HX1 := Lib.hid (HX0.out.trans hx)
  clear hx HX0 HW HM
  go_wp2_with fail
  refine (HR1.out _ (HV.out.ext HX1.out)).mono ?_
  rintro e w2 ⟨hx, hr⟩
  rcases hr with ⟨ls, A, c, he, rfl, hf⟩ | ⟨code, a, N, he, _⟩
  case inr => cases he
  injection he with he
  subst he
  have HX2 := Lib.hid (HX1.out.trans hx)
  obtain ⟨b, off, R, c1, rfl, hb, q1, q2, q3⟩ := hf.at_ (i := 0) (rows := [[2, 1], [1, 3]]) rfl
  obtain ⟨b2, off2, R2, c2, rfl, hb2, q4, q5, q6⟩ := q3.at_ (i := 1) (l := [1, 3]) rfl
  obtain ⟨b3, off3, rfl, hb3, q7⟩ := q6.at_ (j := 1) (z := 3) rfl
  rw [Nat.add_zero] at q1
  have hl1 : exL.length = 1 := rfl
  rw [hl1]
  have Q1 := Lib.hid q1
  have Q4 := Lib.hid q4
  have Q7 := Lib.hid q7
  clear hx HX1 HR1 hf q1 q2 q3 q4 q5 q6 q7 hl1 hb hb2 hb3
  go_wp2_with fail
  refine (HR2.out _ (HV.out.ext HX2.out)).mono ?_
  rintro e w3 ⟨hx, hr⟩
  rcases hr with ⟨ls, A, c5, he, _⟩ | ⟨code, a, N, he, rfl, hN, hF⟩
  case inl => cases he
  injection he with he
  injection he with he1 he2
  subst he1
  subst he2
  have HX3 := Lib.hid (HX2.out.trans hx)
  obtain ⟨W4, hWW4⟩ : ∃ W4 : World, w3.alloc (.cells #[.pointer none] 43) = W4 := ⟨_, rfl⟩
  have hXW4 : Ext w3 W4 := by rw [← hWW4]; exact ((Ext.refl w3).alloc _)
  have hsW4 : w3.heap.size + 1 ≤ W4.heap.size := by rw [← hWW4]; simp only [World.size_alloc]; omega
  have cx0 : W4.cell? ⟨w3.heap.size, 0, none⟩ = some (.pointer none) := by rw [← hWW4]; simp [go_sem]
  have fx0 : W4.frozen? ⟨w3.heap.size, 0, none⟩ = false := by rw [← hWW4]; simp [go_sem]
  have HWW4 := Lib.hid hWW4
  clear hWW4
  have q1 := hXW4.cell (hx.cell Q1.out)
  have q4 := hXW4.cell (hx.cell Q4.out)
  have q7 := hXW4.cell (hx.cell Q7.out)
  have HX4 := Lib.hid (HX3.out.trans hXW4)
  have hNs : N < w3.heap.size := lt_of_row hF
  have hX3s : w.heap.size ≤ w3.heap.size := HX3.out.size
  have hF4 : W4.heap[N]? = some (.cells #[.int .i64 280, .int .i64 8, .string ⟨#[]⟩] 47 (0, 0)) := by rw [Below.block hXW4 N hNs]; exact hF
  have HF4 := Lib.hid hF4
  have HAs := Lib.hid (as_hit ⟨N, 0, none⟩ ⟨w3.heap.size, 0, none⟩ (.pointer none) W4 (HV.out.ext HX4.out).ety cx0 fx0)
  clear hx HX2 HR2 hF Q1 Q4 Q7 hXW4 HX3 hF4
  rw [show ([[2, 1], [1, 3]] : List (List Int)).length = 2 from rfl] at q1
  rw [show ([1, 3] : List Int).length = 2 from rfl] at q4
  go_upto_region 5 with fail
  rw [HWW4.out]
  go_wp2_with fail
  refine HAs.out.mono ?_
  rintro e w5 ⟨rfl, hw5⟩
  obtain ⟨W5, hW5⟩ : ∃ W5, (((W4.alloc (.cells #[.pointer (some ⟨w3.heap.size, 0, none⟩)] 45)).alloc (.cells #[.pointer (some ⟨7, 45, none⟩), .pointer (some ⟨W4.heap.size, 0, none⟩), .int .u64 150] 64)).alloc (.cells #[.pointer (some ⟨7, 45, none⟩), .pointer (some ⟨W4.heap.size, 0, none⟩), .int .u64 150] 64)).alloc (.cells #[.pointer (some ⟨N, 0, none⟩)] 43) = W5 := ⟨_, rfl⟩
  have hx5 : Ext W4 W5 := by rw [← hW5]; exact ((((Ext.refl W4).alloc _).alloc _).alloc _).alloc _
  rw [hW5] at hw5
  have c1 : w5.cell? ⟨w3.heap.size, 0, none⟩ = some (.pointer (some ⟨N, 0, none⟩)) := by rw [hw5]; exact setc (hx5.cell cx0)
  have hF5 : w5.heap[N]? = some (.cells #[.int .i64 280, .int .i64 8, .string ⟨#[]⟩] 47 (0, 0)) := by
    rw [hw5, Below.heap_setCell _ _ _ _ (by show N ≠ w3.heap.size; omega), Below.block hx5 N (by omega)]; exact HF4.out
  have c2 : w5.cell? ⟨N, 0, none⟩ = some (.int .i64 280) := by rw [cell_of_row _ _ _ _ _ _ hF5]; rfl
  have c3 : w5.cell? ⟨N, 1, none⟩ = some (.int .i64 8) := by rw [cell_of_row _ _ _ _ _ _ hF5]; rfl
  have HX5 : Hid (Ext w w5) := by
    rw [hw5]
    exact (HX4.out.trans hx5).setCell (p := ⟨w3.heap.size, 0, none⟩) (by have := HX4.out.size; have := hX3s; show w.heap.size ≤ w3.heap.size; omega) _
  clear hW5 hx5 hw5 hF5 HWW4 HAs
  go_wp2
  go_ret
  rw [H19.out]
  exact ⟨rfl, HX5.out⟩
end Go.Proofs.YtiihnoelclnahaaGreatDoor
namespace Go.Proofs.YtiihnoelclnahaaGreatDoor
open Go.RowKit
set_option linter.unusedVariables false
set_option linter.unusedSimpArgs false
set_option maxHeartbeats 2000000 in
set_option maxRecDepth 100000 in
theorem writes_any (A : Option Addr) (n c : Nat) (ls : List (List (List Int))) (s : ByteArray) (w : World) (hn : n = ls.length) (hr : IsForms w A ls) (hf : FitForms ls) (hs : s.size ≤ 140737488355328) (hv : Vars w) :
    Calls Tryz.prog 3 #[.slice A n c, .string s] w fun e w' => e = .returned (.bool true) ∧ Ext w w' := by
  have HW := Lib.hid (Write_any A n c ls w hn hr hf hv)
  have HRW := Lib.hid (fun W (hx : Ext w W) => rWrite_any A n c ls W hn (hr.ext hx) hf (hv.ext hx))
  obtain ⟨t, ht⟩ : ∃ t : ByteArray, ⟨(textW ls).toArray⟩ = t := ⟨_, rfl⟩
  obtain ⟨q, hq⟩ : ∃ q, codeW ls = q := ⟨_, rfl⟩
  rw [ht, hq] at HW
  rw [ht, hq] at HRW
  have HS1 := Lib.hid (fun W => Sum_any s W hs)
  have HS2 := Lib.hid (fun W => rSum_any s W hs)
  obtain ⟨u, hu⟩ : ∃ u, fnv s.data.toList = u := ⟨_, rfl⟩
  rw [hu] at HS1 HS2
  have HV := Lib.hid hv
  clear hn hr hf hs hv ht hq hu
  go_enter Tryz.func3, Tryz.ntmps3
  go_wp2_with fail
  refine HW.out.mono ?_
  rintro e w1 ⟨rfl, hx⟩
  have HX1 := Lib.hid hx
  clear hx HW
  go_wp2_with fail
  refine (HRW.out _ HX1.out).mono ?_
  rintro e w2 ⟨rfl, hx⟩
  have HX2 := Lib.hid (HX1.out.trans hx)
  clear hx HX1 HRW
  go_wp2_with fail
  refine (HS1.out _).mono ?_
  rintro e w3 ⟨rfl, rfl⟩
  go_wp2_with fail
  refine (HS2.out _).mono ?_
  rintro e w3 ⟨rfl, rfl⟩
  clear HS1 HS2
  go_wp2_with fail
  refine (wakes_any _ (HV.out.ext HX2.out)).mono ?_
  rintro e w4 ⟨rfl, hx⟩
  have HX4 := Lib.hid (HX2.out.trans hx)
  clear hx HX2
  go_wp2
  go_ret
  exact ⟨rfl, HX4.out⟩
end Go.Proofs.YtiihnoelclnahaaGreatDoor
namespace Go.Proofs.YtiihnoelclnahaaGreatDoor
open Go.ChangeShapes Go.WideShapes Go.ChangeAt Go.RowKit
set_option linter.unusedVariables false
/-- What weighs an element, weighs the slice. -/
theorem weightsAll_mem {H : Type} {P : Program} {e : TypeId} {d : DataW H} {n : Nat} : ∀ {l : List (DataW H)}, d ∈ l → n ∈ d.weights P e → n ∈ DataW.weightsAll P e l
  | d0 :: l, hd, hn => by
    simp only [DataW.weightsAll, List.mem_append]
    rcases List.mem_cons.1 hd with rfl | hd
    · exact .inl hn
    · exact .inr (weightsAll_mem hd hn)
  | [], hd, _ => by cases hd
theorem weights_elem {H : Type} {P : Program} {t e : TypeId} {d : DataW H} {elems spare : List (DataW H)} {n : Nat} (hu : P.underlying t = some (.slice e)) (hd : d ∈ elems) (hn : n ∈ d.weights P e) : n ∈ (DataW.slice elems spare).weights P t := by
  have := weightsAll_mem hd hn
  simp only [DataW.weights, hu, List.mem_cons, List.mem_append]
  exact .inr (.inl this)
theorem weights_self {H : Type} {P : Program} {t e : TypeId} {elems spare : List (DataW H)} (hu : P.underlying t = some (.slice e)) : (elems.length + spare.length) * P.bytesOf e ∈ (DataW.slice elems spare).weights P t := by
  simp only [DataW.weights, hu, List.mem_cons]
  exact .inl trivial
theorem bytes1 : Tryz.prog.bytesOf 2 = 8 := by kernel_rfl
theorem bytes2 : Tryz.prog.bytesOf 38 = 24 := by kernel_rfl
theorem bytes3 : Tryz.prog.bytesOf 39 = 24 := by kernel_rfl
theorem reach_eq : reachBytes = 140737488351232 := rfl
theorem addr_at {w : World} {a : Addr} {v : Value} (h : w.cell? (a.add 0) = some v) : ∃ b off, a = ⟨b, off, none⟩ ∧ b < w.heap.size := by
  rw [Addr.add_zero'] at h
  have h1 := lt_of_cell h
  have h2 := World.cell?_spot h
  obtain ⟨b, off, spot⟩ := a
  exact ⟨b, off, by rw [show spot = none from h2], h1⟩
set_option maxRecDepth 10000 in
theorem rows_open {H : Type} {enc : TypeId × Value → H} {W : World} {fuel : Nat} {v : Value} {d : DataW H} {ps : List MemPlace} (hd : DataW.trod enc Tryz.prog W 0 (fun _ => true) true fuel 39 [v] = some (d, ps)) (hw : ∀ n ∈ d.weights Tryz.prog 39, n ≤ reachBytes) :
    ∃ (A : Option Addr) (c : Nat) (rows : List (List Int)), v = .slice A rows.length c ∧ rows.length ≤ c ∧ IsRows W A rows ∧ Fit64 rows := by
  rcases Deep.open_int_rows Tryz.underlying39 Tryz.underlying38 Tryz.underlying2 (by kernel_rfl) (by kernel_rfl) hd with ⟨hc, _⟩ | ⟨a, len, cap, A, L, C, Z, hcs, _, hl, hm, hx, hr⟩
  · injection hc with hc _
    exact ⟨none, 0, [], hc, by simp, fun h => by simp at h, by decide, by simp⟩
  · injection hcs with hcs _
    injection hx with hx _
    subst hx
    have hzl : ∀ r, r < cap → ((Z r).take (L r)).length = L r := fun r h => by
      obtain ⟨_, h1, _, h2, _⟩ := hr r h
      rw [List.length_take]; omega
    refine ⟨some a, cap, (List.range len).map fun r => (Z r).take (L r), by rw [hcs]; simp, by simpa using hl, fun hl0 => ?_, ?_, ?_⟩
    · have hl1 : 0 < len := by simpa using hl0
      obtain ⟨b, off, rfl, hb⟩ := addr_at (hr 0 (by omega)).1
      refine ⟨b, off, rfl, hb, fun i l hi => ?_⟩
      obtain ⟨hil, rfl⟩ := List.getElem?_eq_some_iff.1 hi
      have hil' : i < len := by simpa using hil
      simp only [List.getElem_map, List.getElem_range]
      obtain ⟨q1, q2, q3, q4, q5, q6, q7⟩ := hr i (by omega)
      rw [Addr.add_lit] at q1
      refine ⟨A i, C i, by rw [hzl i (by omega)]; exact q1, by rw [hzl i (by omega)]; exact q2, fun hl0 => ?_⟩
      rw [hzl i (by omega)] at hl0
      cases hA : A i with
      | none => have := q6 hA; omega
      | some a' =>
        obtain ⟨_, q8⟩ := q7 a' hA
        obtain ⟨b', off', rfl, hb'⟩ := addr_at (q8 0 (by omega))
        refine ⟨b', off', rfl, hb', fun j z hj => ?_⟩
        obtain ⟨hjl, rfl⟩ := List.getElem?_eq_some_iff.1 hj
        rw [List.length_take] at hjl
        have := q8 j (by omega)
        rw [Addr.add_lit] at this
        rw [this, List.getElem_take]
        simp [List.getD, show j < (Z i).length by omega]
    · have := hw _ (weights_self Tryz.underlying39)
      rw [bytes2, reach_eq] at this
      simp only [List.length_map, List.length_range] at this ⊢
      omega
    · intro l hl'
      obtain ⟨r, hr1, rfl⟩ := List.mem_map.1 hl'
      rw [List.mem_range] at hr1
      obtain ⟨q1, q2, q3, q4, q5, q6, q7⟩ := hr r (by omega)
      constructor
      · rw [hzl r (by omega)]
        cases hA : A r with
        | none => have := q6 hA; omega
        | some a' =>
          have h1 : Deep.intRow (H := H) .i64 (A r) (L r) (Z r) ∈ (List.range len).map fun r => Deep.intRow (H := H) .i64 (A r) (L r) (Z r) := List.mem_map.2 ⟨r, List.mem_range.2 hr1, rfl⟩
          have h2 : ((Z r).take (L r)).length * 8 ≤ reachBytes := by
            refine Nat.le_trans ?_ (hw _ (weights_elem Tryz.underlying39 h1 (n := ((lits (H := H) .i64 ((Z r).take (L r))).length + (lits (H := H) .i64 ((Z r).drop (L r))).length) * Tryz.prog.bytesOf 2) ?_))
            · rw [bytes1]; unfold lits; simp only [List.length_map]; omega
            · unfold Deep.intRow; rw [hA]
              exact weights_self Tryz.underlying38
          rw [reach_eq, hzl r (by omega)] at h2
          omega
      · intro z hz
        have := q5 z (List.mem_of_mem_take hz)
        simp only [Lit.wf, Bool.and_eq_true, decide_eq_true_eq] at this
        exact this
set_option maxRecDepth 10000 in
theorem forms_open {H : Type} {enc : TypeId × Value → H} {W : World} {fuel : Nat} {v : Value} {d : DataW H} {ps : List MemPlace} (hd : DataW.trod enc Tryz.prog W 0 (fun _ => true) true fuel 22 [v] = some (d, ps)) (hw : ∀ n ∈ d.weights Tryz.prog 22, n ≤ reachBytes) :
    ∃ (A : Option Addr) (c : Nat) (ls : List (List (List Int))), v = .slice A ls.length c ∧ IsForms W A ls ∧ FitForms ls := by
  rcases Deep.open_slice1 Tryz.underlying22 (by kernel_rfl) hd with ⟨hc, _⟩ | ⟨a, len, cap, m, n, V, D, Pl, hcs, _, hl, hm, hmm, hx, hr⟩
  · injection hc with hc _
    exact ⟨none, 0, [], hc, fun h => by simp at h, by decide, by simp⟩
  · injection hcs with hcs _
    injection hx with hx _
    subst hx
    simp only [if_true] at hmm
    subst hmm
    have hR : ∀ i, i < len → ∃ x : Option Addr × Nat × List (List Int), V i = .slice x.1 x.2.2.length x.2.1 ∧ x.2.2.length ≤ x.2.1 ∧ IsRows W x.1 x.2.2 ∧ Fit64 x.2.2 := fun i hi => by
      obtain ⟨A, c, rows, h⟩ := rows_open (hr i (by omega)).2 fun n hn => hw n (weights_elem Tryz.underlying22 (List.mem_map.2 ⟨i, List.mem_range.2 hi, rfl⟩) hn)
      exact ⟨(A, c, rows), h⟩
    obtain ⟨X, hX⟩ := Deep.choose_lt hR
    refine ⟨some a, m, (List.range len).map fun i => (X i).2.2, by rw [hcs]; simp, fun hl0 => ?_, ?_, ?_⟩
    · have hl1 : 0 < len := by simpa using hl0
      obtain ⟨b, off, rfl, hb⟩ := addr_at (hr 0 (by omega)).1
      refine ⟨b, off, rfl, hb, fun i l hi => ?_⟩
      obtain ⟨hil, rfl⟩ := List.getElem?_eq_some_iff.1 hi
      have hil' : i < len := by simpa using hil
      simp only [List.getElem_map, List.getElem_range]
      have q1 := (hr i (by omega)).1
      obtain ⟨q2, q3, q4, _⟩ := hX i hil'
      rw [Addr.add_lit, q2] at q1
      exact ⟨_, _, q1, q3, q4⟩
    · have := hw _ (weights_self Tryz.underlying22)
      rw [bytes3, reach_eq] at this
      simp only [List.length_map, List.length_range] at this ⊢
      omega
    · intro l hl'
      obtain ⟨r, hr1, rfl⟩ := List.mem_map.1 hl'
      exact (hX r (List.mem_range.1 hr1)).2.2.2
end Go.Proofs.YtiihnoelclnahaaGreatDoor
namespace Go.Proofs.YtiihnoelclnahaaGreatDoor
open Go.ChangeShapes Go.WideShapes Go.ChangeAt Go.RowKit
set_option linter.unusedVariables false
theorem Tryz.own : ownKnob Tryz.prog.godebug = none := by kernel_rfl
theorem Tryz.rt : (Tryz.prog.cutTypes.find? (·.1 == "internal/reflectlite.rtype")).map (·.2) = some 86 := by kernel_rfl
theorem Tryz.nTypes : Tryz.prog.types.size = 223 := by kernel_rfl
theorem Tryz.oneError : ((List.range 223).filter fun t => Tryz.prog.rowNamed t [101, 114, 114, 111, 114]) = [32] := by kernel_rfl
/-- A table of numbers, out of what a row lists. -/
theorem tabIs_of_reads {P : Program} {W : World} {name : String} {k : IntKind} {zs : List Int} {g : Nat} {t e : TypeId} {n : Nat}
    (hg : P.globalNamed name = some g) (hty : (P.globals[g]?).map (·.type) = some t) (ht : P.underlying t = some (.array n e)) (he : P.underlying e = some (.int k)) (hce : P.cellsOf e = 1) (hct : P.cellsOf t = n)
    (h : Lib.VarReads P W name (Lib.tabData k zs)) : Lib.TabIs P W name k zs := by
  obtain ⟨g', t', cs, fuel, p, hg', ht', hvar, hd⟩ := h
  obtain rfl := Option.some.inj (hg.symm.trans hg')
  obtain rfl := Option.some.inj (hty.symm.trans ht')
  unfold Lib.TabIs
  rw [hvar, ← Lib.cells_of_tab ht he hce hct hd]
/-- An error variable. -/
theorem iface_of_reads {P : Program} {W : World} {name nm : String} {d : DataW Unit} {g : Nat} {t : TypeId} {ms : Array (String × TypeId)}
    (hg : P.globalNamed name = some g) (hty : (P.globals[g]?).map (·.type) = some t) (ht : P.underlying t = some (.interface ms))
    (h : Lib.VarReads P W name (.iface nm d)) : ∃ tp p, W.var? P name = some #[.iface tp p] := by
  obtain ⟨g', t', cs, fuel, p, hg', ht', hvar, hd⟩ := h
  obtain rfl := Option.some.inj (hg.symm.trans hg')
  obtain rfl := Option.some.inj (hty.symm.trans ht')
  obtain ⟨f', u, v, hc, _⟩ := iface_of_trod ht hd
  exact ⟨u, v, by rw [hvar, Array.eq_one_of_toList hc]⟩
theorem vars_of_laid {W : World} (h : laidMetH Tryz.prog Rows.saveKnownRow.laid W) : Vars W := by
  have h' : laidMet Tryz.prog [("math/bits.deBruijn32tab", Rows.laid_math_bits_deBruijn32tab), ("math/bits.deBruijn64tab", Rows.laid_math_bits_deBruijn64tab), ("internal/strconv.uint64pow10", Rows.laid_internal_strconv_uint64pow10), ("strconv.ErrRange", Rows.laid_strconv_ErrRange), ("strconv.ErrSyntax", Rows.laid_strconv_ErrSyntax)] W ∧ handlesMet Tryz.prog [("errors.errorType", Rows.laid_errors_errorType)] W := h
  refine ⟨?_, ?_, ?_, ?_, ?_⟩
  · exact tabIs_of_reads (g := 3) (t := 163) (n := 20) (by kernel_rfl) (by kernel_rfl) Tryz.underlying163 Tryz.underlying26 (by kernel_rfl) (by kernel_rfl) (Lib.laidMet.reads h'.1 (.tail _ (.tail _ (.head _))))
  · exact tabIs_of_reads (g := 6) (t := 192) (n := 64) (by kernel_rfl) (by kernel_rfl) Tryz.underlying192 Tryz.underlying5 (by kernel_rfl) (by kernel_rfl) (Lib.laidMet.reads h'.1 (.tail _ (.head _)))
  · exact iface_of_reads (g := 1) (t := 32) (by kernel_rfl) (by kernel_rfl) Tryz.underlying32 (Lib.laidMet.reads h'.1 (.tail _ (.tail _ (.tail _ (.tail _ (.head _))))))
  · exact iface_of_reads (g := 2) (t := 32) (by kernel_rfl) (by kernel_rfl) Tryz.underlying32 (Lib.laidMet.reads h'.1 (.tail _ (.tail _ (.tail _ (.head _)))))
  · obtain ⟨name, u, ty, e1, e2, e3, e4, e5⟩ := h'.2 _ (List.mem_singleton.2 rfl)
    have en : name = [101, 114, 114, 111, 114] := (Option.some.inj e1).symm
    subst en
    obtain rfl := Option.some.inj (Tryz.rt.symm.trans e2)
    have hm : ty ∈ (List.range 223).filter fun t => Tryz.prog.rowNamed t [101, 114, 114, 111, 114] := List.mem_filter.2 ⟨List.mem_range.2 (by rw [← Tryz.nTypes]; exact e3), e4⟩
    rw [Tryz.oneError] at hm
    obtain rfl := List.mem_singleton.1 hm
    have hh : typeHandle Tryz.prog 32 = .pointer (some ⟨7, 32, none⟩) := by kernel_rfl
    rw [hh] at e5
    simpa using World.var?_cell (show Tryz.prog.globalNamed "errors.errorType" = some 0 by kernel_rfl) e5 0
/-- The witness: the settled world, two blocks for the errors' texts, the variables holding what their initialisers lay. -/
noncomputable def laidWorld (os : Os) : World :=
  let N := (World.settled Tryz.prog os).heap.size
  let w0 := World.holding Tryz.prog os ⟨#[.cells #[.string ⟨#[118, 97, 108, 117, 101, 32, 111, 117, 116, 32, 111, 102, 32, 114, 97, 110, 103, 101]⟩] 182, .cells #[.string ⟨#[105, 110, 118, 97, 108, 105, 100, 32, 115, 121, 110, 116, 97, 120]⟩] 182], #[], []⟩
  let put (h : Array Obj) (g : Nat) (cs : Array Value) : Array Obj := h.modify g fun
    | .cells _ t frozen => .cells cs t frozen
    | o => o
  let h0 := put w0.heap 2 #[.iface 180 (.pointer (some ⟨N, 0, none⟩))]
  let h1 := put h0 1 #[.iface 180 (.pointer (some ⟨N + 1, 0, none⟩))]
  let h2 := put h1 0 #[.iface 86 (.agg #[.pointer (some ⟨7, 32, none⟩)])]
  let h3 := put h2 3 (Lib.pow10Tab.map fun z => Value.int .u64 z).toArray
  let h4 := put h3 6 (deb64.map fun z => Value.int .u8 z).toArray
  let h5 := put h4 5 #[.int .u8 0, .int .u8 1, .int .u8 28, .int .u8 2, .int .u8 29, .int .u8 14, .int .u8 24, .int .u8 3, .int .u8 30, .int .u8 22, .int .u8 20, .int .u8 15, .int .u8 25, .int .u8 17, .int .u8 4, .int .u8 8, .int .u8 31, .int .u8 27, .int .u8 13, .int .u8 23, .int .u8 21, .int .u8 19, .int .u8 16, .int .u8 7, .int .u8 26, .int .u8 12, .int .u8 18, .int .u8 6, .int .u8 11, .int .u8 5, .int .u8 10, .int .u8 9]
  { w0 with heap := h5 }
theorem laid_met (os : Os) (args : Array Value) : laidMetH Tryz.prog Rows.saveKnownRow.laid ((laidWorld os).forCall (fun _ _ => 0) ⟨#[], args, []⟩).memory :=
  laidMetH_of_parts (laidMet_of_run' 8 (by kernel_rfl) (by kernel_rfl)) (by kernel_rfl)
/-- The row's last step where the call froze something new: the frozen marks of what was there are kept. -/
theorem post_of_ext {H : Type} {enc : TypeId × Value → H} {P : Program} {f : Func} {s : ChangeSpec} {apart fresh handsOn again : Bool} {W W' : World} {args : Array Value} {v : Value} {ds gs : List (DataW H)} {before pa pv : List MemPlace}
    (hW : DataW.Whole enc P f.params.toList s.vars apart W args.toList ds gs before)
    (hres : ∀ (b : Nat) (sp : Nat → Bool) (hd : Bool), DataW.TrodAll enc P W' b sp hd f.resultTypes.toList (v.resultList f.resultTypes.size) (s.fn H (ds ++ gs)).results [])
    (hargs : ∀ sp : Nat → Bool, (∀ p ∈ before, sp p.block = true) → DataW.TrodAll enc P W' 0 sp true f.params.toList args.toList (s.fn H (ds ++ gs)).args pa)
    (hvars : ∀ sp : Nat → Bool, (∀ p ∈ before, sp p.block = true) → DataW.TrodVars enc P W' sp s.vars (s.fn H (ds ++ gs)).vars pv)
    (hps : before = pa ++ pv) (hb : Below W.heap.size W W')
    (hok : ∀ (j : Nat) (t : TypeId) (r : Value), f.resultTypes[j]? = some t → (v.resultList f.resultTypes.size)[j]? = some r → Value.okWide P W' .any 0 t r) :
    s.post enc P f apart fresh handsOn again W args v W' := by
  have hlt : ∀ p ∈ before, p.block < W.heap.size := fun p hp => hW.lt p hp
  have hold : ∀ p ∈ before, (fun b => decide (b < W.heap.size)) p.block = true := fun p hp => by simpa using hlt p hp
  refine ⟨ds, gs, before, [], pa, pv, hW, hres _ _ _, hargs _ hold, hvars _ hold, World.keptBut_mono (fun p hp => ⟨hp, ?_⟩) (hb.frame (· ∈ before)), fun _ => ?_⟩
  · rw [hps, List.mem_append] at hp
    exact Or.inr hp
  · obtain ⟨_, _, _, _, _, hz, hn⟩ := hW
    refine ⟨hok, _, _, ([] ++ pa) ++ pv, ⟨[] ++ pa, pv, trodAll_append (hargs _ (fun _ _ => rfl)) (hres _ _ _), hvars _ (fun _ _ => rfl), rfl, ?_, ?_⟩, ?_⟩
    · intro b off hp
      have hin : MemPlace.cell b off ∈ before := by rw [hps]; simpa using hp
      rw [hb.frozen (hlt _ hin)]
      exact hz b off hin
    · intro ha
      have := hn ha
      rw [hps] at this
      simpa using this
    · intro p hp _
      rw [hps]
      simpa using hp
theorem Tryz.laidOutB : laidOutB Tryz.prog = true := by kernel_rfl
end Go.Proofs.YtiihnoelclnahaaGreatDoor
namespace Go.Proofs.YtiihnoelclnahaaGreatDoor
open Go.ChangeShapes Go.WideShapes Go.ChangeAt Go.RowKit
set_option linter.unusedVariables false
set_option maxRecDepth 100000 in
theorem writes_contract (H : Type) (enc : TypeId × Value → H) (W : World) (base : Nat) (args : Array Value) (ds gs : List (DataW H)) (before : List MemPlace)
    (hval : ∀ (j : Nat) t v, Tryz.f3.params[j]? = some t → args[j]? = some v → Value.okWide Tryz.prog W .any base t v)
    (hW : DataW.Whole enc Tryz.prog Tryz.f3.params.toList Rows.saveWritesSpec.vars false W args.toList ds gs before)
    (hsz : (DataW.weightsEach Tryz.prog (Tryz.f3.params.toList ++ (OpenSpec.ofChange Rows.saveWritesSpec).bare.plain.varTypes Tryz.prog) (ds ++ gs)).all (· ≤ reachBytes) = true)
    (hL : laidMetH Tryz.prog Rows.saveWritesRow.laid W) :
    Calls Tryz.prog 3 args W fun e W' => ∃ v, e = .returned v ∧ Rows.saveWritesSpec.post enc Tryz.prog Tryz.f3 false true false false W args v W' := by
  have hW' := hW
  obtain ⟨p, q, hA0, hV, rfl, hfz, hnd⟩ := hW
  have hA : DataW.TrodAll enc Tryz.prog W 0 (fun _ => true) true Tryz.f3.params.toList args.toList ds p := hA0
  rw [Tryz.params3] at hA hval hsz
  obtain ⟨v0, vs0, d0, ds0, p0, q0, hargs, rfl, rfl, h0, r0⟩ := trodAll_cons hA
  obtain ⟨v1, vs1, d1, ds1, p1, q1, rfl, rfl, rfl, h1, r1⟩ := trodAll_cons r0
  obtain ⟨rfl, rfl, rfl⟩ := trodAll_nil r1
  obtain rfl : args = #[v0, v1] := by cases args; simp_all
  obtain ⟨rfl, rfl⟩ := trodVars_none hV
  obtain ⟨s, rfl, rfl, rfl, hs⟩ := Go.ChangeMaps.open_string Tryz.underlying9 (hval 1 9 v1 rfl rfl) h1
  obtain ⟨a0, l0, c0, rfl⟩ := okWide_slice Tryz.underlying22 (hval 0 22 v0 rfl rfl)
  obtain ⟨fuel, hf⟩ := h0
  obtain ⟨A, c, ls, hv0, hF, hFit⟩ := forms_open hf fun n hn => by
    have := List.all_eq_true.1 hsz n (DataW.weights_mem_each (j := 0) rfl rfl n hn)
    simpa using this
  have hs2 : s.size ≤ reachBytes := by
    have := sized_string hsz (j := 1) rfl rfl
    rw [Array.length_toList] at this
    exact this
  injection hv0 with e1 e2 e3
  subst e1; subst e2; subst e3
  refine (writes_any a0 _ c0 ls s W rfl hF hFit (by rw [reach_eq] at hs2; omega) (vars_of_laid hL)).mono fun e W' ⟨he, hx⟩ => ?_
  subst he
  simp only [List.append_nil] at hW'
  have hlt : ∀ x ∈ p0, x.block < W.heap.size := fun x hx => hW'.lt x hx
  exact ⟨_, rfl, post_of_ext (pa := p0) (pv := []) hW'
    (fun _ _ _ => trodAll_cons_mk (shut_bool Tryz.underlying4 _) trodAll_mk0)
    (fun sp hsp => by
      have ha : DataW.TrodAll enc Tryz.prog W' 0 sp true [22, 9] [.slice a0 ls.length c0, .string s] [d0, .lit (.string s.data.toList)] (p0 ++ ([] ++ [])) :=
        trodAll_cons_mk (WideElems.Trod_stays (P := Tryz.prog) Tryz.laidOutB (by kernel_rfl) (of_decide_eq_true (by kernel_rfl)) (⟨fuel, hf⟩ : DataW.Trod enc Tryz.prog W 0 (fun _ => true) true 22 (.slice a0 ls.length c0) d0 p0) (fun x hx' => hx.same (hlt x hx')) hsp)
          (trodAll_cons_mk (Go.ChangeMaps.shut_string Tryz.underlying9 hs) trodAll_mk0)
      simp only [List.append_nil] at ha
      exact ha)
    (fun _ _ => rfl) (by simp) hx (ok_one (by kernel_rfl) rfl (okWide_bool_mk Tryz.underlying4 _))⟩
/-- The input of the witness. -/
abbrev writesArgs : Array Value := #[.slice none 0 0, .string ⟨#[]⟩]
theorem writes_witness (os : Os) {H : Type} (enc : TypeId × Value → H) :
    (OpenSpec.ofChange Rows.saveWritesSpec).preRow enc Tryz.prog Tryz.f3 Rows.saveWritesRow.domain false Rows.saveWritesRow.laid ((laidWorld os).forCall (fun _ _ => 0) ⟨#[], writesArgs, []⟩).memory writesArgs := by
  have hw : (DataW.whole enc Tryz.prog ((laidWorld os).forCall (fun _ _ => 0) ⟨#[], writesArgs, []⟩).memory Tryz.f3.params.toList Rows.saveWritesSpec.vars false writesArgs.toList 8).map (fun x => (x.1, x.2.1)) =
      some ([.nil, .lit (.string [])], []) := by kernel_rfl
  obtain ⟨⟨x1, x2, x3⟩, hx, hx1⟩ := Option.map_eq_some_iff.1 hw
  simp only [Prod.mk.injEq] at hx1
  obtain ⟨rfl, rfl⟩ := hx1
  exact OpenSpec.preRow_of_cond 8 hx (by kernel_rfl) (fun k hk => by cases hk) (by kernel_rfl) (laid_met os _)
set_option maxRecDepth 100000 in
set_option maxHeartbeats 2000000 in
theorem writes_lifted (os : Os) (started : os.Started) (H : Type) (enc : TypeId × Value → H) (F : Stop.Interp) :
    ReturnsInHanded {} Tryz.checked os 3 .any ((OpenSpec.ofChange Rows.saveWritesSpec).preRow enc Tryz.prog Tryz.f3 Rows.saveWritesRow.domain false Rows.saveWritesRow.laid) (((OpenSpec.ofChange Rows.saveWritesSpec).at F).post enc Tryz.prog Tryz.f3 false true false false) := by
  refine returnsInHanded_of_row (C := Tryz.checked) (s := OpenSpec.ofChange Rows.saveWritesSpec) Tryz.own started (by kernel_rfl) Tryz.func3
    (witness_row_atRef (enc := enc) (C := Tryz.checked) false (laidWorld os) writesArgs rfl (by kernel_rfl) (by kernel_rfl) (by kernel_rfl) (writes_witness os enc)) ?_
  intro W base args ds gs before hval hW _ _ hsz hL _ _
  exact writes_contract H enc W base args ds gs before hval hW hsz hL
set_option maxRecDepth 100000 in
theorem writes_said : Rows.SaveWritesSaid :=
  OpenClaim.holds_of_cond 3 Tryz.f3 rfl rfl rfl rfl rfl rfl rfl ⟨rfl, rfl, rfl, rfl, rfl⟩ rfl rfl rfl rfl rfl (by kernel_rfl) Tryz.func3 (by kernel_rfl)
    (of_decide_eq_true (by kernel_rfl)) (by unfold Func.isWrapper; first | (rw [if_pos (by decide +kernel)]; kernel_rfl) | (rw [if_neg (by decide +kernel)]; exact ⟨rfl, rfl⟩))
    (fun os started H enc _ F => by rw [OpenClaim.pre_eq_preRow]; exact writes_lifted os started H enc F)
/-- No parameter wants a stand-in; the program's own looks are on. -/
theorem writes_plain (f : FuncId) (fn : Func) (hf : Tryz.pinned.checked.prog.funcNamed "parquet/parquetlaw28.SaveWrites" = some f) (hfn : Tryz.pinned.checked.prog.funcs[f]? = some fn) :
    true = Tryz.pinned.checked.prog.looks [] ∧ ∀ (j : Nat) t, fn.params[j]? = some t → Tryz.pinned.checked.prog.wantsStandIn t = false := by
  obtain rfl : f = 3 := Option.some.inj ((show Tryz.prog.funcNamed "parquet/parquetlaw28.SaveWrites" = some 3 by kernel_rfl).symm.trans hf) |>.symm
  obtain rfl : fn = Tryz.f3 := (Option.some.inj (Tryz.func3.symm.trans hfn)).symm
  refine ⟨by kernel_rfl, fun j t ht => ?_⟩
  rw [Tryz.params3] at ht
  have hm := Array.mem_of_getElem? ht
  simp only [List.mem_toArray, List.mem_cons, List.not_mem_nil, or_false] at hm
  rcases hm with rfl | rfl
  · exact (show Tryz.prog.wantsStandIn 22 = false by kernel_rfl)
  · exact (show Tryz.prog.wantsStandIn 9 = false by kernel_rfl)
/-- THE CARD. -/
theorem writes_card : Rows.SaveWritesCardSaid :=
  Claim7.holds_tied_plain_at .later [] _ _ _ _ writes_said (fun _ h => by cases h) (by kernel_rfl) (fun _ h => by cases h) saveWrites_row_tie rfl ⟨rfl, rfl⟩ (by kernel_rfl) rfl writes_plain (by kernel_rfl)
end Go.Proofs.YtiihnoelclnahaaGreatDoor
