/-
  No cell of these rows narrows 'for every input' (looked for: loops, veiled, ifaces, maps, wideKeys, modest, calm, conditions, laid).
  DERIVED. THE GIVEN ROWS OF THIS SEAT. 12 by the template 'for every input the law returns true; each argument reads behind the call as it read before'; 0 by the template 'total and deterministic' (their statements: YtdkgilioejdmeaaGreatTotals.lean).
  GIVEN WITH THE SEED: the statements are not yours to turn. If you find one false, say at which input.
  Laid BY PROGRAM, IN A SANDBOX (cutbox-rows.mjs): the forced cells as the released guide's own fill.sh prints them over the translation f8fe9b2ffe044e73… (all of the seat's roots in one cut). By AI agents, Wed Nov 11 2026. No macro, syntax, notation, axiom, sorry.
-/
import Derived.Test.YtdkgilioejdmeaaGreatChecked
import GoSem.Claim
import GoSem.ClaimJoined
import GoSem.ClaimMapViews
import Derived.JoinedTies
import Derived.KernelRfl
namespace Go.Proofs.YtdkgilioejdmeaaGreat
/- THE CELL 'sum', in the pinned program and in every row, IS THE sha256 OF THE DUMP (.gsa) THAT YtdkgilioejdmeaaGreatProg.lean LOADS. Nothing in Lean hashes anything: it is a label: what it is worth is what the hold of that sum in a sandbox is worth. -/
noncomputable def Tryz.pinned : Pinned := { name := "ytdkgilioejdmeaagreat", sum := "f8fe9b2ffe044e73fed6cd58e9ba79512c76f1a0925b39f5d10e3c3275f4c8c7", checked := Tryz.checked }
namespace Rows
def none {H : Type} : Left H := { results := [], args := [] }

/-- 'parquetlaw15.ShortSums': WHATEVER THE INPUT: true; the input reads as it did. -/
def shortSumsSpec : ChangeSpec := { name := "shortSums", fn := fun _ => fun
  | [d1, d2, d3] => { results := [.lit (.bool true)], args := [d1, d2, d3] }
  | _ => none }
def shortSumsRow : OpenClaim := { program := "ytdkgilioejdmeaagreat", sum := "f8fe9b2ffe044e73fed6cd58e9ba79512c76f1a0925b39f5d10e3c3275f4c8c7", func := "parquet/parquetlaw15.ShortSums", spec := "shortSums", unfollowed := true, recurses := true, plainKeys := false, apart := false }
def ShortSumsSaid : Prop := shortSumsRow.holds Tryz.pinned (OpenSpec.ofChange shortSumsSpec)

/-- ITS FALSE NEIGHBOUR: 'it returns false'. Refute it at one input. -/
def shortSumsWrong : ChangeSpec := { name := "shortSums", fn := fun _ => fun
  | [d1, d2, d3] => { results := [.lit (.bool false)], args := [d1, d2, d3] }
  | _ => none }
def ShortSumsWrongFalsely : Prop := shortSumsRow.holds Tryz.pinned (OpenSpec.ofChange shortSumsWrong)

/-- 'parquetlaw15.ShortWhole': WHATEVER THE INPUT: true; the input reads as it did. -/
def shortWholeSpec : ChangeSpec := { name := "shortWhole", fn := fun _ => fun
  | [d1, d2, d3] => { results := [.lit (.bool true)], args := [d1, d2, d3] }
  | _ => none }
def shortWholeRow : OpenClaim := { program := "ytdkgilioejdmeaagreat", sum := "f8fe9b2ffe044e73fed6cd58e9ba79512c76f1a0925b39f5d10e3c3275f4c8c7", func := "parquet/parquetlaw15.ShortWhole", spec := "shortWhole", unfollowed := true, recurses := true, plainKeys := false, apart := false }
def ShortWholeSaid : Prop := shortWholeRow.holds Tryz.pinned (OpenSpec.ofChange shortWholeSpec)

/-- ITS FALSE NEIGHBOUR: 'it returns false'. Refute it at one input. -/
def shortWholeWrong : ChangeSpec := { name := "shortWhole", fn := fun _ => fun
  | [d1, d2, d3] => { results := [.lit (.bool false)], args := [d1, d2, d3] }
  | _ => none }
def ShortWholeWrongFalsely : Prop := shortWholeRow.holds Tryz.pinned (OpenSpec.ofChange shortWholeWrong)

/-- 'parquetlaw25.ThetaJacobi': WHATEVER THE INPUT: true; the input reads as it did. -/
def thetaJacobiSpec : ChangeSpec := { name := "thetaJacobi", fn := fun _ => fun
  | [d] => { results := [.lit (.bool true)], args := [d] }
  | _ => none }
def thetaJacobiRow : OpenClaim := { program := "ytdkgilioejdmeaagreat", sum := "f8fe9b2ffe044e73fed6cd58e9ba79512c76f1a0925b39f5d10e3c3275f4c8c7", func := "parquet/parquetlaw25.ThetaJacobi", spec := "thetaJacobi", unfollowed := true, recurses := true, plainKeys := false, apart := false }
def ThetaJacobiSaid : Prop := thetaJacobiRow.holds Tryz.pinned (OpenSpec.ofChange thetaJacobiSpec)

/-- ITS FALSE NEIGHBOUR: 'it returns false'. Refute it at one input. -/
def thetaJacobiWrong : ChangeSpec := { name := "thetaJacobi", fn := fun _ => fun
  | [d] => { results := [.lit (.bool false)], args := [d] }
  | _ => none }
def ThetaJacobiWrongFalsely : Prop := thetaJacobiRow.holds Tryz.pinned (OpenSpec.ofChange thetaJacobiWrong)

/-- 'parquetlaw25.ThetaScaled': WHATEVER THE INPUT: true; the input reads as it did. -/
def thetaScaledSpec : ChangeSpec := { name := "thetaScaled", fn := fun _ => fun
  | [d1, d2, d3] => { results := [.lit (.bool true)], args := [d1, d2, d3] }
  | _ => none }
def thetaScaledRow : OpenClaim := { program := "ytdkgilioejdmeaagreat", sum := "f8fe9b2ffe044e73fed6cd58e9ba79512c76f1a0925b39f5d10e3c3275f4c8c7", func := "parquet/parquetlaw25.ThetaScaled", spec := "thetaScaled", unfollowed := true, recurses := true, plainKeys := false, apart := false }
def ThetaScaledSaid : Prop := thetaScaledRow.holds Tryz.pinned (OpenSpec.ofChange thetaScaledSpec)

/-- ITS FALSE NEIGHBOUR: 'it returns false'. Refute it at one input. -/
def thetaScaledWrong : ChangeSpec := { name := "thetaScaled", fn := fun _ => fun
  | [d1, d2, d3] => { results := [.lit (.bool false)], args := [d1, d2, d3] }
  | _ => none }
def ThetaScaledWrongFalsely : Prop := thetaScaledRow.holds Tryz.pinned (OpenSpec.ofChange thetaScaledWrong)

/-- 'parquetlaw25.ThetaSquares': WHATEVER THE INPUT: true; the input reads as it did. -/
def thetaSquaresSpec : ChangeSpec := { name := "thetaSquares", fn := fun _ => fun
  | [d1, d2] => { results := [.lit (.bool true)], args := [d1, d2] }
  | _ => none }
def thetaSquaresRow : OpenClaim := { program := "ytdkgilioejdmeaagreat", sum := "f8fe9b2ffe044e73fed6cd58e9ba79512c76f1a0925b39f5d10e3c3275f4c8c7", func := "parquet/parquetlaw25.ThetaSquares", spec := "thetaSquares", unfollowed := true, recurses := true, plainKeys := false, apart := false }
def ThetaSquaresSaid : Prop := thetaSquaresRow.holds Tryz.pinned (OpenSpec.ofChange thetaSquaresSpec)

/-- ITS FALSE NEIGHBOUR: 'it returns false'. Refute it at one input. -/
def thetaSquaresWrong : ChangeSpec := { name := "thetaSquares", fn := fun _ => fun
  | [d1, d2] => { results := [.lit (.bool false)], args := [d1, d2] }
  | _ => none }
def ThetaSquaresWrongFalsely : Prop := thetaSquaresRow.holds Tryz.pinned (OpenSpec.ofChange thetaSquaresWrong)

/-- 'parquetlaw25.ThetaKnown': WHATEVER THE INPUT: true; the input reads as it did. -/
def thetaKnownSpec : ChangeSpec := { name := "thetaKnown", fn := fun _ => fun
  | [] => { results := [.lit (.bool true)], args := [] }
  | _ => none }
def thetaKnownRow : OpenClaim := { program := "ytdkgilioejdmeaagreat", sum := "f8fe9b2ffe044e73fed6cd58e9ba79512c76f1a0925b39f5d10e3c3275f4c8c7", func := "parquet/parquetlaw25.ThetaKnown", spec := "thetaKnown", unfollowed := true, recurses := true, plainKeys := false, apart := false }
def ThetaKnownSaid : Prop := thetaKnownRow.holds Tryz.pinned (OpenSpec.ofChange thetaKnownSpec)

/-- ITS FALSE NEIGHBOUR: 'it returns false'. Refute it at one input. -/
def thetaKnownWrong : ChangeSpec := { name := "thetaKnown", fn := fun _ => fun
  | [] => { results := [.lit (.bool false)], args := [] }
  | _ => none }
def ThetaKnownWrongFalsely : Prop := thetaKnownRow.holds Tryz.pinned (OpenSpec.ofChange thetaKnownWrong)

/-- 'parquetlaw25.ThetaSums': WHATEVER THE INPUT: true; the input reads as it did. -/
def thetaSumsSpec : ChangeSpec := { name := "thetaSums", fn := fun _ => fun
  | [d1, d2, d3] => { results := [.lit (.bool true)], args := [d1, d2, d3] }
  | _ => none }
def thetaSumsRow : OpenClaim := { program := "ytdkgilioejdmeaagreat", sum := "f8fe9b2ffe044e73fed6cd58e9ba79512c76f1a0925b39f5d10e3c3275f4c8c7", func := "parquet/parquetlaw25.ThetaSums", spec := "thetaSums", unfollowed := true, recurses := true, plainKeys := false, apart := false }
def ThetaSumsSaid : Prop := thetaSumsRow.holds Tryz.pinned (OpenSpec.ofChange thetaSumsSpec)

/-- ITS FALSE NEIGHBOUR: 'it returns false'. Refute it at one input. -/
def thetaSumsWrong : ChangeSpec := { name := "thetaSums", fn := fun _ => fun
  | [d1, d2, d3] => { results := [.lit (.bool false)], args := [d1, d2, d3] }
  | _ => none }
def ThetaSumsWrongFalsely : Prop := thetaSumsRow.holds Tryz.pinned (OpenSpec.ofChange thetaSumsWrong)

/-- 'parquetlaw25.ThetaCounts': WHATEVER THE INPUT: true; the input reads as it did. -/
def thetaCountsSpec : ChangeSpec := { name := "thetaCounts", fn := fun _ => fun
  | [d1, d2, d3] => { results := [.lit (.bool true)], args := [d1, d2, d3] }
  | _ => none }
def thetaCountsRow : OpenClaim := { program := "ytdkgilioejdmeaagreat", sum := "f8fe9b2ffe044e73fed6cd58e9ba79512c76f1a0925b39f5d10e3c3275f4c8c7", func := "parquet/parquetlaw25.ThetaCounts", spec := "thetaCounts", unfollowed := true, recurses := true, plainKeys := false, apart := false }
def ThetaCountsSaid : Prop := thetaCountsRow.holds Tryz.pinned (OpenSpec.ofChange thetaCountsSpec)

/-- ITS FALSE NEIGHBOUR: 'it returns false'. Refute it at one input. -/
def thetaCountsWrong : ChangeSpec := { name := "thetaCounts", fn := fun _ => fun
  | [d1, d2, d3] => { results := [.lit (.bool false)], args := [d1, d2, d3] }
  | _ => none }
def ThetaCountsWrongFalsely : Prop := thetaCountsRow.holds Tryz.pinned (OpenSpec.ofChange thetaCountsWrong)

/-- 'parquetlaw15.ShortLess': WHATEVER THE INPUT: true; the input reads as it did. -/
def shortLessSpec : ChangeSpec := { name := "shortLess", fn := fun _ => fun
  | [d1, d2, d3] => { results := [.lit (.bool true)], args := [d1, d2, d3] }
  | _ => none }
def shortLessRow : OpenClaim := { program := "ytdkgilioejdmeaagreat", sum := "f8fe9b2ffe044e73fed6cd58e9ba79512c76f1a0925b39f5d10e3c3275f4c8c7", func := "parquet/parquetlaw15.ShortLess", spec := "shortLess", unfollowed := true, recurses := true, plainKeys := false, apart := false }
def ShortLessSaid : Prop := shortLessRow.holds Tryz.pinned (OpenSpec.ofChange shortLessSpec)

/-- ITS FALSE NEIGHBOUR: 'it returns false'. Refute it at one input. -/
def shortLessWrong : ChangeSpec := { name := "shortLess", fn := fun _ => fun
  | [d1, d2, d3] => { results := [.lit (.bool false)], args := [d1, d2, d3] }
  | _ => none }
def ShortLessWrongFalsely : Prop := shortLessRow.holds Tryz.pinned (OpenSpec.ofChange shortLessWrong)

/-- 'parquetlaw15.ShortKnown': WHATEVER THE INPUT: true; the input reads as it did. -/
def shortKnownSpec : ChangeSpec := { name := "shortKnown", fn := fun _ => fun
  | [] => { results := [.lit (.bool true)], args := [] }
  | _ => none }
def shortKnownRow : OpenClaim := { program := "ytdkgilioejdmeaagreat", sum := "f8fe9b2ffe044e73fed6cd58e9ba79512c76f1a0925b39f5d10e3c3275f4c8c7", func := "parquet/parquetlaw15.ShortKnown", spec := "shortKnown", unfollowed := true, recurses := true, plainKeys := false, apart := false }
def ShortKnownSaid : Prop := shortKnownRow.holds Tryz.pinned (OpenSpec.ofChange shortKnownSpec)

/-- ITS FALSE NEIGHBOUR: 'it returns false'. Refute it at one input. -/
def shortKnownWrong : ChangeSpec := { name := "shortKnown", fn := fun _ => fun
  | [] => { results := [.lit (.bool false)], args := [] }
  | _ => none }
def ShortKnownWrongFalsely : Prop := shortKnownRow.holds Tryz.pinned (OpenSpec.ofChange shortKnownWrong)

/-- 'parquetlaw15.ShortLists': WHATEVER THE INPUT: true; the input reads as it did. -/
def shortListsSpec : ChangeSpec := { name := "shortLists", fn := fun _ => fun
  | [d1, d2] => { results := [.lit (.bool true)], args := [d1, d2] }
  | _ => none }
def shortListsRow : OpenClaim := { program := "ytdkgilioejdmeaagreat", sum := "f8fe9b2ffe044e73fed6cd58e9ba79512c76f1a0925b39f5d10e3c3275f4c8c7", func := "parquet/parquetlaw15.ShortLists", spec := "shortLists", unfollowed := true, recurses := true, plainKeys := false, apart := false }
def ShortListsSaid : Prop := shortListsRow.holds Tryz.pinned (OpenSpec.ofChange shortListsSpec)

/-- ITS FALSE NEIGHBOUR: 'it returns false'. Refute it at one input. -/
def shortListsWrong : ChangeSpec := { name := "shortLists", fn := fun _ => fun
  | [d1, d2] => { results := [.lit (.bool false)], args := [d1, d2] }
  | _ => none }
def ShortListsWrongFalsely : Prop := shortListsRow.holds Tryz.pinned (OpenSpec.ofChange shortListsWrong)

/-- 'parquetlaw15.ShortChanged': WHATEVER THE INPUT: true; the input reads as it did. -/
def shortChangedSpec : ChangeSpec := { name := "shortChanged", fn := fun _ => fun
  | [d1, d2, d3] => { results := [.lit (.bool true)], args := [d1, d2, d3] }
  | _ => none }
def shortChangedRow : OpenClaim := { program := "ytdkgilioejdmeaagreat", sum := "f8fe9b2ffe044e73fed6cd58e9ba79512c76f1a0925b39f5d10e3c3275f4c8c7", func := "parquet/parquetlaw15.ShortChanged", spec := "shortChanged", unfollowed := true, recurses := true, plainKeys := false, apart := false }
def ShortChangedSaid : Prop := shortChangedRow.holds Tryz.pinned (OpenSpec.ofChange shortChangedSpec)

/-- ITS FALSE NEIGHBOUR: 'it returns false'. Refute it at one input. -/
def shortChangedWrong : ChangeSpec := { name := "shortChanged", fn := fun _ => fun
  | [d1, d2, d3] => { results := [.lit (.bool false)], args := [d1, d2, d3] }
  | _ => none }
def ShortChangedWrongFalsely : Prop := shortChangedRow.holds Tryz.pinned (OpenSpec.ofChange shortChangedWrong)

/- THE SECOND FORM. 'bulk': how many values and letters a reading holds, each counted each time it is reached (what is shared counts as often as it is met; a slice's spare places count too). A statement '..UptoSaid' is the law's where the arguments, and the package variables that the reading takes, are together of bulk at most 1048576: NARROWER than '..Said'. Prove '..Said' where nothing that the law and all that it calls make is longer than what came in: it says more and counts as full. Else prove '..UptoSaid'. A law counts once. -/
mutual
def uptoBulk {H : Type} : DataW H → Nat
  | .lit (.string bytes) => bytes.length + 1
  | .lit _ => 1
  | .nil => 1
  | .ptr d => uptoBulk d + 1
  | .slice elems spare => uptoBulkAll elems + uptoBulkAll spare + 1
  | .agg parts => uptoBulkAll parts + 1
  | .iface _ d => uptoBulk d + 1
  | .map entries => uptoBulkEntries entries + 1
  | .held _ => 1
def uptoBulkAll {H : Type} : List (DataW H) → Nat
  | [] => 0
  | d :: r => uptoBulk d + uptoBulkAll r
def uptoBulkEntries {H : Type} : List (Lit × DataW H) → Nat
  | [] => 0
  | x :: r => uptoBulkEntry x + uptoBulkEntries r
def uptoBulkEntry {H : Type} : Lit × DataW H → Nat
  | (.string bytes, d) => bytes.length + uptoBulk d + 1
  | (_, d) => uptoBulk d + 1
 end
def uptoSmall : (H : Type) → List (DataW H) → Bool := fun _ ds => decide (uptoBulkAll ds ≤ 1048576)
def OpenSpec.upto (s : _root_.Go.ChangeSpec) : _root_.Go.OpenSpec := { _root_.Go.OpenSpec.ofChange s with cond := some uptoSmall }

/-- 'parquetlaw15.ShortSums', WHERE WHAT IT READS IS OF BULK AT MOST 1048576: true; the input reads as it did. -/
def shortSumsUptoRow : OpenClaim := { program := "ytdkgilioejdmeaagreat", sum := "f8fe9b2ffe044e73fed6cd58e9ba79512c76f1a0925b39f5d10e3c3275f4c8c7", func := "parquet/parquetlaw15.ShortSums", spec := "shortSums", unfollowed := true, recurses := true, plainKeys := false, apart := false, narrowed := true }
def ShortSumsUptoSaid : Prop := shortSumsUptoRow.holds Tryz.pinned (OpenSpec.upto shortSumsSpec)

/-- 'parquetlaw15.ShortWhole', WHERE WHAT IT READS IS OF BULK AT MOST 1048576: true; the input reads as it did. -/
def shortWholeUptoRow : OpenClaim := { program := "ytdkgilioejdmeaagreat", sum := "f8fe9b2ffe044e73fed6cd58e9ba79512c76f1a0925b39f5d10e3c3275f4c8c7", func := "parquet/parquetlaw15.ShortWhole", spec := "shortWhole", unfollowed := true, recurses := true, plainKeys := false, apart := false, narrowed := true }
def ShortWholeUptoSaid : Prop := shortWholeUptoRow.holds Tryz.pinned (OpenSpec.upto shortWholeSpec)

/-- 'parquetlaw25.ThetaJacobi', WHERE WHAT IT READS IS OF BULK AT MOST 1048576: true; the input reads as it did. -/
def thetaJacobiUptoRow : OpenClaim := { program := "ytdkgilioejdmeaagreat", sum := "f8fe9b2ffe044e73fed6cd58e9ba79512c76f1a0925b39f5d10e3c3275f4c8c7", func := "parquet/parquetlaw25.ThetaJacobi", spec := "thetaJacobi", unfollowed := true, recurses := true, plainKeys := false, apart := false, narrowed := true }
def ThetaJacobiUptoSaid : Prop := thetaJacobiUptoRow.holds Tryz.pinned (OpenSpec.upto thetaJacobiSpec)

/-- 'parquetlaw25.ThetaScaled', WHERE WHAT IT READS IS OF BULK AT MOST 1048576: true; the input reads as it did. -/
def thetaScaledUptoRow : OpenClaim := { program := "ytdkgilioejdmeaagreat", sum := "f8fe9b2ffe044e73fed6cd58e9ba79512c76f1a0925b39f5d10e3c3275f4c8c7", func := "parquet/parquetlaw25.ThetaScaled", spec := "thetaScaled", unfollowed := true, recurses := true, plainKeys := false, apart := false, narrowed := true }
def ThetaScaledUptoSaid : Prop := thetaScaledUptoRow.holds Tryz.pinned (OpenSpec.upto thetaScaledSpec)

/-- 'parquetlaw25.ThetaSquares', WHERE WHAT IT READS IS OF BULK AT MOST 1048576: true; the input reads as it did. -/
def thetaSquaresUptoRow : OpenClaim := { program := "ytdkgilioejdmeaagreat", sum := "f8fe9b2ffe044e73fed6cd58e9ba79512c76f1a0925b39f5d10e3c3275f4c8c7", func := "parquet/parquetlaw25.ThetaSquares", spec := "thetaSquares", unfollowed := true, recurses := true, plainKeys := false, apart := false, narrowed := true }
def ThetaSquaresUptoSaid : Prop := thetaSquaresUptoRow.holds Tryz.pinned (OpenSpec.upto thetaSquaresSpec)

/-- 'parquetlaw25.ThetaKnown', WHERE WHAT IT READS IS OF BULK AT MOST 1048576: true; the input reads as it did. -/
def thetaKnownUptoRow : OpenClaim := { program := "ytdkgilioejdmeaagreat", sum := "f8fe9b2ffe044e73fed6cd58e9ba79512c76f1a0925b39f5d10e3c3275f4c8c7", func := "parquet/parquetlaw25.ThetaKnown", spec := "thetaKnown", unfollowed := true, recurses := true, plainKeys := false, apart := false, narrowed := true }
def ThetaKnownUptoSaid : Prop := thetaKnownUptoRow.holds Tryz.pinned (OpenSpec.upto thetaKnownSpec)

/-- 'parquetlaw25.ThetaSums', WHERE WHAT IT READS IS OF BULK AT MOST 1048576: true; the input reads as it did. -/
def thetaSumsUptoRow : OpenClaim := { program := "ytdkgilioejdmeaagreat", sum := "f8fe9b2ffe044e73fed6cd58e9ba79512c76f1a0925b39f5d10e3c3275f4c8c7", func := "parquet/parquetlaw25.ThetaSums", spec := "thetaSums", unfollowed := true, recurses := true, plainKeys := false, apart := false, narrowed := true }
def ThetaSumsUptoSaid : Prop := thetaSumsUptoRow.holds Tryz.pinned (OpenSpec.upto thetaSumsSpec)

/-- 'parquetlaw25.ThetaCounts', WHERE WHAT IT READS IS OF BULK AT MOST 1048576: true; the input reads as it did. -/
def thetaCountsUptoRow : OpenClaim := { program := "ytdkgilioejdmeaagreat", sum := "f8fe9b2ffe044e73fed6cd58e9ba79512c76f1a0925b39f5d10e3c3275f4c8c7", func := "parquet/parquetlaw25.ThetaCounts", spec := "thetaCounts", unfollowed := true, recurses := true, plainKeys := false, apart := false, narrowed := true }
def ThetaCountsUptoSaid : Prop := thetaCountsUptoRow.holds Tryz.pinned (OpenSpec.upto thetaCountsSpec)

/-- 'parquetlaw15.ShortLess', WHERE WHAT IT READS IS OF BULK AT MOST 1048576: true; the input reads as it did. -/
def shortLessUptoRow : OpenClaim := { program := "ytdkgilioejdmeaagreat", sum := "f8fe9b2ffe044e73fed6cd58e9ba79512c76f1a0925b39f5d10e3c3275f4c8c7", func := "parquet/parquetlaw15.ShortLess", spec := "shortLess", unfollowed := true, recurses := true, plainKeys := false, apart := false, narrowed := true }
def ShortLessUptoSaid : Prop := shortLessUptoRow.holds Tryz.pinned (OpenSpec.upto shortLessSpec)

/-- 'parquetlaw15.ShortKnown', WHERE WHAT IT READS IS OF BULK AT MOST 1048576: true; the input reads as it did. -/
def shortKnownUptoRow : OpenClaim := { program := "ytdkgilioejdmeaagreat", sum := "f8fe9b2ffe044e73fed6cd58e9ba79512c76f1a0925b39f5d10e3c3275f4c8c7", func := "parquet/parquetlaw15.ShortKnown", spec := "shortKnown", unfollowed := true, recurses := true, plainKeys := false, apart := false, narrowed := true }
def ShortKnownUptoSaid : Prop := shortKnownUptoRow.holds Tryz.pinned (OpenSpec.upto shortKnownSpec)

/-- 'parquetlaw15.ShortLists', WHERE WHAT IT READS IS OF BULK AT MOST 1048576: true; the input reads as it did. -/
def shortListsUptoRow : OpenClaim := { program := "ytdkgilioejdmeaagreat", sum := "f8fe9b2ffe044e73fed6cd58e9ba79512c76f1a0925b39f5d10e3c3275f4c8c7", func := "parquet/parquetlaw15.ShortLists", spec := "shortLists", unfollowed := true, recurses := true, plainKeys := false, apart := false, narrowed := true }
def ShortListsUptoSaid : Prop := shortListsUptoRow.holds Tryz.pinned (OpenSpec.upto shortListsSpec)

/-- 'parquetlaw15.ShortChanged', WHERE WHAT IT READS IS OF BULK AT MOST 1048576: true; the input reads as it did. -/
def shortChangedUptoRow : OpenClaim := { program := "ytdkgilioejdmeaagreat", sum := "f8fe9b2ffe044e73fed6cd58e9ba79512c76f1a0925b39f5d10e3c3275f4c8c7", func := "parquet/parquetlaw15.ShortChanged", spec := "shortChanged", unfollowed := true, recurses := true, plainKeys := false, apart := false, narrowed := true }
def ShortChangedUptoSaid : Prop := shortChangedUptoRow.holds Tryz.pinned (OpenSpec.upto shortChangedSpec)

end Rows
end Go.Proofs.YtdkgilioejdmeaaGreat
