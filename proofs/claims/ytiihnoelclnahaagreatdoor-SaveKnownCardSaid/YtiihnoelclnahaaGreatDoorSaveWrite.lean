/- save.Write: the text of a list of forms. -/
import Derived.Test.YtiihnoelclnahaaGreatDoorSaveBuf
import Derived.Deep.RegionWith
namespace Go.Proofs.YtiihnoelclnahaaGreatDoor
open Go.RowKit
set_option linter.unusedVariables false

theorem line_len (rows : List (List Int)) (hf : Fit64 rows) (h8 : rows.length ≤ 8) : (lineOf rows).length ≤ 1440 := by
  unfold lineOf
  have h1 := rowsText_len rows rows.length hf h8
  have h2 := Lib.itoa_length_le (rows.length : Int) (by omega) (by omega)
  simp only [List.length_append, List.length_cons, List.length_nil]; omega
theorem bodyTo_len (ls : List (List (List Int))) (k : Nat) (hf : FitForms ls) (hg : ∀ (i : Nat) (rows : List (List Int)), i < k → ls[i]? = some rows → chk rows = 0) : (bodyTo ls k).length ≤ 30 + 1440 * k := by
  induction k with
  | zero =>
    unfold bodyTo headW
    have h2 := Lib.itoa_length_le (ls.length : Int) (by omega) (by have := hf.1; omega)
    simp only [List.length_append, List.length_cons, List.length_nil, List.take_zero, List.flatMap_nil]; omega
  | succ k ih =>
    have ih := ih fun i rows hi => hg i rows (by omega)
    cases hx : ls[k]? with
    | none =>
      have h1 := List.getElem?_eq_none_iff.1 hx
      have e : bodyTo ls (k + 1) = bodyTo ls k := by unfold bodyTo; rw [List.take_of_length_le (by omega), List.take_of_length_le (by omega)]
      rw [e]; omega
    | some rows =>
      rw [bodyTo_succ ls k rows hx, List.length_append]
      have h8 := (chk_ok (hg k rows (by omega) hx)).2.1
      have := line_len rows (hf.2 _ (by obtain ⟨q, rfl⟩ := List.getElem?_eq_some_iff.1 hx; exact List.getElem_mem q)) h8
      omega

theorem Ext.trans' {a b c : World} (h : Ext a b) (k : Below a.heap.size b c) : Ext a c := Below.trans h k

theorem write_many (A : Option Addr) (n c : Nat) (w : World) (hn : 64 < n) (hm : n ≤ 140737488351232) :
    Calls Tryz.prog 6 #[.slice A n c] w fun e w' => e = .returned (.tuple #[.string ⟨#[]⟩, .int .i64 9]) ∧ Ext w w' := by
  have d1 : decide ((64 : Int) < n) = true := by simp; omega
  go_enter Tryz.func6, Tryz.ntmps6
  go_wp2
  go_ret2
  exact ⟨rfl, Ext.refl w⟩

set_option maxHeartbeats 2000000 in
set_option maxRecDepth 100000 in
theorem write_rest (A : Option Addr) (n c : Nat) (ls : List (List (List Int))) (w : World) (hn : n = ls.length) (hn64 : n ≤ 64) (hr : IsForms w A ls) (hf : FitForms ls) (hv : Vars w) :
    Calls Tryz.prog 6 #[.slice A n c] w fun e w' => e = .returned (.tuple #[.string ⟨(textW ls).toArray⟩, .int .i64 (codeW ls)]) ∧ Ext w w' := by
  have d1 : decide ((64 : Int) < n) = false := by simp; omega
  have HN := Lib.hid hn
  have HR := Lib.hid hr
  have HF := Lib.hid hf
  have HV := Lib.hid hv
  have kc := fun (w : World) (C : Array Value) (n c : Nat) => Lib.run_convert_bytes_const (P := Tryz.prog) w 36 5 C n c Tryz.underlying36 Tryz.underlying5
  obtain ⟨il, hil⟩ : ∃ il, Lib.itoa (n : Int) = il := ⟨_, rfl⟩
  have hil0 : 0 < il.length := by rw [← hil]; exact itoa_pos _
  have hil1 : il.length ≤ 21 := by rw [← hil]; exact Lib.itoa_length_le _ (by omega) (by omega)
  have HIt := Lib.hid (fun W (hV : Vars W) => Itoa_any (n : Int) W (by omega) (by omega) hV)
  rw [hil] at HIt
  have HIL := Lib.hid hil
  clear hn hr hf hv hil
  go_enter Tryz.func6, Tryz.ntmps6
  go_wp2_with fail
  obtain ⟨W0, hW0⟩ : ∃ W0, w.alloc (.cells #[.int .u8 112, .int .u8 97, .int .u8 114, .int .u8 113, .int .u8 117, .int .u8 101, .int .u8 116, .int .u8 32] 5 (8, 9)) = W0 := ⟨_, rfl⟩
  have hX0 : Ext w W0 := by rw [← hW0]; exact (Ext.refl w).alloc _
  have hh := heap_new w (.cells #[.int .u8 112, .int .u8 97, .int .u8 114, .int .u8 113, .int .u8 117, .int .u8 101, .int .u8 116, .int .u8 32] 5 (8, 9))
  rw [hW0] at hh ⊢
  have HC0 : Hid (∀ (j : Nat) (u : UInt8), headW[j]? = some u → W0.cell? ⟨w.heap.size, j, none⟩ = some (.int .u8 u.toNat)) := by
    intro j u hj
    rw [cell_of_row _ _ _ _ _ _ hh]
    match j, hj with
    | 0, hj => simp [headW] at hj; subst hj; rfl
    | 1, hj => simp [headW] at hj; subst hj; rfl
    | 2, hj => simp [headW] at hj; subst hj; rfl
    | 3, hj => simp [headW] at hj; subst hj; rfl
    | 4, hj => simp [headW] at hj; subst hj; rfl
    | 5, hj => simp [headW] at hj; subst hj; rfl
    | 6, hj => simp [headW] at hj; subst hj; rfl
    | 7, hj => simp [headW] at hj; subst hj; rfl
    | j + 8, hj => simp [headW] at hj
  have HX0 := Lib.hid hX0
  clear hW0 hX0 hh
  refine (HIt.out _ (HV.out.ext HX0.out)).mono ?_
  rintro e w1 ⟨rfl, hx⟩
  have HX1 := Lib.hid (HX0.out.trans hx)
  have HC1 : Hid (∀ (j : Nat) (u : UInt8), headW[j]? = some u → w1.cell? ⟨w.heap.size, j, none⟩ = some (.int .u8 u.toNat)) := fun j u hj => hx.cell (HC0.out j u hj)
  have hz1 : w.heap.size ≤ w1.heap.size := HX1.out.size
  clear hx HX0 HC0 HIt
  have HK8 : Hid (8 = headW.length) := rfl
  have hsum : headW.length + il.length ≤ 1099511627776 := by have : headW.length = 8 := rfl; omega
  go_wp2_with (with_reducible refine wpList_append_first rfl (.tmp 15) (.tmp 18) rfl w.heap.size w.heap.size headW il 8 rfl HK8.out HC1.out rfl hil0 hsum hz1 ?_)
  intro v2 w2 HB2 HX12
  have HX2 := Lib.hid (HX1.out.trans HX12.out)
  have hz2 : w.heap.size ≤ w2.heap.size := HX2.out.size
  clear HC1 HX1 HX12
  have hlen2 : (headW ++ il).length ≤ 1099511627776 := by rw [List.length_append]; exact hsum
  have hq10 : Hid ((10 : Int) = (10 : UInt8).toNat) := rfl
  have hq32 : Hid ((32 : Int) = (32 : UInt8).toNat) := rfl
  go_wp2_with (with_reducible refine wpList_append_lit rfl (.tmp 20) (.tmp 21) rfl w.heap.size v2 (headW ++ il) rfl HB2.out 10 10 hq10.out rfl hlen2 hz2 ?_)
  intro v3 w3 HB3 HX23
  have HX3 : Hid (Ext w w3) := HX2.out.trans' HX23.out
  have HB3' : Hid (Buf w3 w.heap.size v3 (bodyTo ls 0)) := by
    have e : bodyTo ls 0 = headW ++ il ++ [10] := by unfold bodyTo; rw [← HIL.out, HN.out]; simp
    unfold Hid; rw [e]; exact HB3.out
  clear HB2 HX2 HB3 HX23 hlen2 hsum
  go_wp2
  go_loopg [4, 25] n (fun kk bv iv wr => ∃ k : Nat, kk + k = n ∧ iv = .int .i64 k ∧ Hid (Buf wr w.heap.size bv (bodyTo ls k)) ∧ Hid (∀ (i : Nat) (rows : List (List Int)), i < k → ls[i]? = some rows → chk rows = 0) ∧ Hid (Ext w wr))
  case atStart => exact ⟨0, by omega, rfl, HB3', fun i rows h => by omega, HX3⟩
  case round =>
    clear HB3' HX3
    obtain ⟨k, hkk, rfl, HB, HG, HX⟩ := hrel
    have hzr : w.heap.size ≤ wr.heap.size := HX.out.size
    have hlk : (bodyTo ls k).length ≤ 30 + 1440 * k := bodyTo_len ls k HF.out HG.out
    by_cases hkn : k < n
    · obtain ⟨rows, hrows⟩ : ∃ rows, ls[k]? = some rows := ⟨_, List.getElem?_eq_getElem (by have := HN.out; omega)⟩
      obtain ⟨b, off, R, c', rfl, hb, h1, h2, h3⟩ := HR.out.at_ hrows
      replace h1 := HX.out.cell h1
      have HRw := Lib.hid hrows
      have H3 := Lib.hid h3
      have hfr : Fit64 rows := HF.out.2 _ (by obtain ⟨q, rfl⟩ := List.getElem?_eq_some_iff.1 hrows; exact List.getElem_mem q)
      have HFr := Lib.hid hfr
      obtain ⟨m, hm⟩ : ∃ m, rows.length = m := ⟨_, rfl⟩
      have hm64 : m ≤ 140737488351232 := by rw [← hm]; exact hfr.1
      rw [hm] at h1 h2
      have HCk := Lib.hid (check_any R m c' rows wr hm.symm (h3.ext HX.out) hfr)
      obtain ⟨cc, hcc⟩ : ∃ cc, chk rows = cc := ⟨_, rfl⟩
      rw [hcc] at HCk
      have HM := Lib.hid hm
      have HCC := Lib.hid hcc
      clear hrows h3 hfr hm hcc
      by_cases hc0 : cc = 0
      · subst hc0
        have hck := chk_ok HCC.out
        have hm8 : m ≤ 8 := by rw [← HM.out]; exact hck.2.1
        have HSq := Lib.hid hck.2.2.1
        clear hck
        go_wp2_with fail
        refine HCk.out.mono ?_
        rintro e w3 ⟨rfl, hx3⟩
        have HX3 := Lib.hid (HX.out.trans hx3)
        have HB3 := Lib.hid (HB.out.ext hx3)
        have hz3 : w.heap.size ≤ w3.heap.size := HX3.out.size
        clear hx3 HCk HB HX hzr h1
        go_wp2_with fail
        refine (Tryz.strconv_AppendInt_10 w.heap.size _ (m : Int) (by omega) (by omega) _ _ w3 HB3.out hz3 (by omega) (HV.out.below.on HX3.out)).mono ?_
        rintro e w4 ⟨v4, rfl, hown, hbel, _⟩
        have HB4 : Hid (Buf w4 w.heap.size v4 (bodyTo ls k ++ Lib.itoa m)) := by unfold Buf Hid; rw [List.length_append, byteCells_append]; exact hown
        have HX4 := Lib.hid (HX3.out.trans' hbel)
        have hlm : (Lib.itoa (m : Int)).length ≤ 21 := Lib.itoa_length_le _ (by omega) (by omega)
        clear hown hbel HB3 HX3 hz3
        go_wp2
        go_loopg [4, 40] m (fun kk bv iv wi => ∃ i : Nat, kk + i = m ∧ iv = .int .i64 i ∧ Hid (Buf wi w.heap.size bv (bodyTo ls k ++ Lib.itoa m ++ rowsText rows i)) ∧ Hid (Ext w wi))
        case atStart => exact ⟨0, by omega, rfl, by unfold rowsText; simpa using HB4, HX4⟩
        case round =>
          clear HB4 HX4
          obtain ⟨i, hki, rfl, HBi, HXi⟩ := hrel
          by_cases him : i < m
          · obtain ⟨l, hl⟩ : ∃ l, rows[i]? = some l := ⟨_, List.getElem?_eq_getElem (by have := HM.out; omega)⟩
            have hll : l.length = m := by
              obtain ⟨q, rfl⟩ := List.getElem?_eq_some_iff.1 hl
              rw [← HM.out]; exact HSq.out _ (List.getElem_mem q)
            obtain ⟨b2, off2, R2, c2, rfl, hb2, g1, g2, g3⟩ := H3.out.at_ hl
            replace g1 := HXi.out.cell g1
            have G3 := Lib.hid g3
            have HLf := Lib.hid (HFr.out.row hl).2
            have hrl : (rowsText rows i).length ≤ 176 * i := rowsText_len rows i HFr.out (by omega)
            rw [hll] at g1 g2
            have HL := Lib.hid hl
            have HLL := Lib.hid hll
            have hic : i + 1 ≤ c2 := by omega
            clear hl hll g3
            go_wp2
            go_loopg [4, 51] (i + 1) (fun kk bv jv wj => ∃ j : Nat, kk + j = i + 1 ∧ jv = .int .i64 j ∧ Hid (Buf wj w.heap.size bv (bodyTo ls k ++ Lib.itoa m ++ rowsText rows i ++ rowText l j)) ∧ Hid (Ext w wj))
            case atStart => exact ⟨0, by omega, rfl, by unfold rowText; simpa using HBi, HXi⟩
            case round =>
              clear HBi HXi g1
              obtain ⟨j, hkj, rfl, HBj, HXj⟩ := hrel
              by_cases hji : j < i + 1
              · obtain ⟨x, hx⟩ : ∃ x, l[j]? = some x := ⟨_, List.getElem?_eq_getElem (by have := HLL.out; omega)⟩
                obtain ⟨b3, off3, rfl, hb3, q1⟩ := G3.out.at_ hx
                replace q1 := HXj.out.cell q1
                have hxb : -9223372036854775808 ≤ x ∧ x ≤ 9223372036854775807 := HLf.out x (by obtain ⟨q, rfl⟩ := List.getElem?_eq_some_iff.1 hx; exact List.getElem_mem q)
                obtain ⟨hx0, hx1⟩ := hxb
                have hzj : w.heap.size ≤ wr.heap.size := HXj.out.size
                have hrj : (rowText l j).length ≤ 22 * j := rowText_len l j HLf.out
                have hlj : (bodyTo ls k ++ Lib.itoa (m : Int) ++ rowsText rows i ++ rowText l j).length ≤ 1000000 := by simp only [List.length_append]; omega
                have hlj2 : (bodyTo ls k ++ Lib.itoa (m : Int) ++ rowsText rows i ++ rowText l j).length ≤ 1099511627776 := by omega
                have HXx := Lib.hid hx
                obtain ⟨bf, hbf⟩ : ∃ bf, bodyTo ls k ++ Lib.itoa (m : Int) ++ rowsText rows i ++ rowText l j = bf := ⟨_, rfl⟩
                rw [hbf] at HBj hlj hlj2
                have HBF := Lib.hid hbf
                clear hx hbf
                go_wp2_with (with_reducible refine wpList_append_lit rfl (.tmp 55) (.tmp 56) rfl w.heap.size _ _ rfl HBj.out 32 32 hq32.out rfl hlj2 hzj ?_)
                intro v5 w5 HB5 HX5
                have HX5' := Lib.hid (HXj.out.trans' HX5.out)
                have hz5 : w.heap.size ≤ w5.heap.size := HX5'.out.size
                clear HX5 HBj HXj hzj q1
                go_wp2_with fail
                refine (Tryz.strconv_AppendInt_10 w.heap.size _ x hx0 hx1 _ _ w5 HB5.out hz5 (by rw [List.length_append, List.length_cons, List.length_nil]; omega) (HV.out.below.on HX5'.out)).mono ?_
                rintro e w6 ⟨v6, rfl, hown, hbel, _⟩
                have HB6 : Hid (Buf w6 w.heap.size v6 (bodyTo ls k ++ Lib.itoa m ++ rowsText rows i ++ rowText l (j + 1))) := by
                  have e : bodyTo ls k ++ Lib.itoa (m : Int) ++ rowsText rows i ++ rowText l (j + 1) = bodyTo ls k ++ Lib.itoa (m : Int) ++ rowsText rows i ++ rowText l j ++ [32] ++ Lib.itoa x := by rw [rowText_succ l j x HXx.out]; simp
                  unfold Buf Hid; rw [e, HBF.out, List.length_append (bs := Lib.itoa x), byteCells_append _ (Lib.itoa x)]; exact hown
                have HX6 := Lib.hid (HX5'.out.trans' hbel)
                clear hown hbel HB5 HX5'
                go_wp2
                go_roundg (i - j)
                case measure => omega
                case rel => exact ⟨j + 1, by omega, by go_num, HB6, HX6⟩
              · obtain rfl : j = i + 1 := by omega
                go_wp2
                go_roundg (m - (i + 1))
                case measure => omega
                case rel => exact ⟨i + 1, by omega, by go_num, by
                  have e : bodyTo ls k ++ Lib.itoa (m : Int) ++ rowsText rows (i + 1) = bodyTo ls k ++ Lib.itoa (m : Int) ++ rowsText rows i ++ rowText l (i + 1) := by rw [rowsText_succ rows i l HL.out, List.append_assoc _ (rowsText rows i)]
                  rw [e]; exact HBj, HXj⟩
          · obtain rfl : i = m := by omega
            have hzi : w.heap.size ≤ wr.heap.size := HXi.out.size
            have hrl : (rowsText rows i).length ≤ 176 * i := rowsText_len rows i HFr.out (by omega)
            have hli : (bodyTo ls k ++ Lib.itoa (i : Int) ++ rowsText rows i).length ≤ 1099511627776 := by simp only [List.length_append]; omega
            obtain ⟨bf, hbf⟩ : ∃ bf, bodyTo ls k ++ Lib.itoa (i : Int) ++ rowsText rows i = bf := ⟨_, rfl⟩
            rw [hbf] at HBi hli
            have HBF := Lib.hid hbf
            clear hbf
            go_wp2_with (with_reducible refine wpList_append_lit rfl (.tmp 63) (.tmp 64) rfl w.heap.size _ _ rfl HBi.out 10 10 hq10.out rfl hli hzi ?_)
            intro v5 w5 HB5 HX5
            have HX5' := Lib.hid (HXi.out.trans' HX5.out)
            have HB5' : Hid (Buf w5 w.heap.size v5 (bodyTo ls (k + 1))) := by
              have e : bodyTo ls (k + 1) = bodyTo ls k ++ Lib.itoa (i : Int) ++ rowsText rows i ++ [10] := by
                rw [bodyTo_succ ls k rows HRw.out]; unfold lineOf; rw [HM.out]; simp
              rw [e, HBF.out]; exact HB5
            clear HX5 HB5 HBi HXi
            go_wp2
            go_roundg (n - (k + 1))
            case measure => omega
            case rel => exact ⟨k + 1, by omega, by go_num, HB5', fun i' r hi' hr' => by
              rcases Nat.lt_or_ge i' k with h | h
              · exact HG.out i' r h hr'
              · obtain rfl : i' = k := by omega
                have e : r = rows := by have := HRw.out; rw [hr'] at this; exact Option.some.inj this
                rw [e]; exact HCC.out, HX5'⟩
      · have hcb : (cc != 0) = true := by rw [bne_iff_ne]; exact hc0
        have HCd : Hid (codeW ls = cc ∧ textW ls = []) := by
          have e : codeW ls = cc := by
            unfold codeW
            rw [if_neg (by have := HN.out; omega), firstBad_at HRw.out HG.out (by rw [HCC.out]; exact hc0), HCC.out]
          refine ⟨e, ?_⟩
          unfold textW
          rw [e, if_neg hc0]
        clear hc0
        go_wp2_with fail
        refine HCk.out.mono ?_
        rintro e w3 ⟨rfl, hx3⟩
        have HX3 := Lib.hid (HX.out.trans hx3)
        clear hx3
        go_wp2
        go_ret2
        rw [HCd.out.1, HCd.out.2]
        exact ⟨rfl, HX3.out⟩
    · obtain rfl : k = n := by omega
      have hcd : codeW ls = 0 ∧ textW ls = textOf ls := by
        have e : codeW ls = 0 := by
          unfold codeW
          rw [if_neg (by have := HN.out; omega)]
          exact firstBad_ok fun i rows hi => HG.out i rows (by have := HN.out; have := (List.getElem?_eq_some_iff.1 hi).1; omega) hi
        refine ⟨e, ?_⟩
        unfold textW
        rw [if_pos e]
      have e1 : bodyTo ls k = bodyOf ls := by unfold bodyOf; rw [← HN.out]
      have h0 : 0 < (bodyOf ls).length := by rw [← e1]; unfold bodyTo headW; simp
      rw [e1] at HB hlk
      obtain ⟨bl, hbl⟩ : ∃ bl, bodyOf ls = bl := ⟨_, rfl⟩
      have e2 : textOf ls = bl ++ sumW ++ hex16 (fnv bl) ++ [10] := by unfold textOf; rw [hbl]
      rw [hbl] at HB hlk h0
      have HRes := hcd
      rw [e2] at HRes
      obtain ⟨hx, hhx⟩ : ∃ hx, hex16 (fnv bl) = hx := ⟨_, rfl⟩
      have HSm : Hid (∀ W, Calls Tryz.prog 8 #[.string ⟨bl.toArray⟩] W fun e w' => e = .returned (.int .u64 (fnv bl : Nat)) ∧ W = w') := fun W => by
        have h := Sum_any ⟨bl.toArray⟩ W (by have : (⟨bl.toArray⟩ : ByteArray).size = bl.length := by simp [ByteArray.size]
                                             omega)
        have e : (⟨bl.toArray⟩ : ByteArray).data.toList = bl := by simp
        rw [e] at h; exact h
      have HDg := Lib.hid (fun W (h : Ext w W) => digits_any (fnv bl) W (fnv_lt bl) (HV.out.ext h).deb)
      rw [hhx] at HDg HRes
      replace HRes := Lib.hid HRes
      have hhl : hx.length ≤ 16 := by rw [← hhx, hex16_len (fnv_lt bl)]; omega
      obtain ⟨fn, hfn⟩ : ∃ fn, fnv bl = fn := ⟨_, rfl⟩
      rw [hfn] at HDg HSm
      have hc0 := (HB.out.ext (Ext.refl wr).drew).text h0
      clear hcd e1 hbl e2 hhx hfn kc
      go_wp2_with fail
      go_region_with (first
        | (go_at_call 8; refine (HSm.out _).mono ?_; rintro e w' ⟨rfl, rfl⟩)
        | (go_at_call 17; refine (HDg.out _ HX.out.drew).mono ?_; rintro e w2 ⟨rfl, hx2⟩; have hc2 := (HB.out.ext (Ext.drew (Ext.refl wr) |>.trans hx2)).text h0; have HX2 := Lib.hid (HX.out.drew.trans hx2); clear hx2))
      all_goals
        go_wp2
        go_ret2
        rw [HRes.out.1, HRes.out.2]
        refine ⟨?_, HX2.out⟩
        have e : ((⟨bl.toArray⟩ : ByteArray) ++ ⟨#[115, 117, 109, 32]⟩ ++ ⟨hx.toArray⟩ ++ ⟨#[10]⟩) = ⟨(bl ++ sumW ++ hx ++ [10]).toArray⟩ := by
          apply ByteArray.ext; simp [sumW]
        rw [e]
        rfl

theorem Write_any (A : Option Addr) (n c : Nat) (ls : List (List (List Int))) (w : World) (hn : n = ls.length) (hr : IsForms w A ls) (hf : FitForms ls) (hv : Vars w) :
    Calls Tryz.prog 6 #[.slice A n c] w fun e w' => e = .returned (.tuple #[.string ⟨(textW ls).toArray⟩, .int .i64 (codeW ls)]) ∧ Ext w w' := by
  by_cases h : n ≤ 64
  · exact write_rest A n c ls w hn h hr hf hv
  · have e : codeW ls = 9 := by unfold codeW; rw [if_pos (by omega)]
    have e2 : textW ls = [] := by unfold textW; rw [e, if_neg (by decide)]
    rw [e, e2]; exact write_many A n c w (by omega) (by rw [hn]; exact hf.1)
end Go.Proofs.YtiihnoelclnahaaGreatDoor
