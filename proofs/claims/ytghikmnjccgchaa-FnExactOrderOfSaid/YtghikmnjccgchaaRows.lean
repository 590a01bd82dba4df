/-
  No cell of these rows narrows 'for every input' (looked for: loops, veiled, ifaces, maps, wideKeys, modest, calm, conditions, laid).
  DERIVED. THE GIVEN ROWS OF THIS SEAT. 10 by the template 'for every input the law returns true; each argument reads behind the call as it read before'; 0 by the template 'total and deterministic' (their statements: YtghikmnjccgchaaTotals.lean).
  GIVEN WITH THE SEED: the statements are not yours to turn. If you find one false, say at which input.
  Laid BY PROGRAM, IN A SANDBOX (cutbox-rows.mjs): the forced cells as the released guide's own fill.sh prints them over the translation b590f702e2bf5851… (all of the seat's roots in one cut). By AI agents, Wed Nov 11 2026. No macro, syntax, notation, axiom, sorry.
-/
import Derived.Test.YtghikmnjccgchaaChecked
import GoSem.Claim
import GoSem.ClaimJoined
import GoSem.ClaimMapViews
import Derived.JoinedTies
import Derived.KernelRfl
namespace Go.Proofs.Ytghikmnjccgchaa
/- THE CELL 'sum', in the pinned program and in every row, IS THE sha256 OF THE DUMP (.gsa) THAT YtghikmnjccgchaaProg.lean LOADS. Nothing in Lean hashes anything: it is a label: what it is worth is what the hold of that sum in a sandbox is worth. -/
noncomputable def Try.pinned : Pinned := { name := "ytghikmnjccgchaa", sum := "b590f702e2bf5851d554d8e870ff53369d29543a2670e22ef74c85fa6e3eb7ec", checked := Try.checked }
namespace Rows
def none {H : Type} : Left H := { results := [], args := [] }

/-- 'laws.FnExactGoodCurve': WHATEVER THE INPUT: true; the input reads as it did. -/
def fnExactGoodCurveSpec : ChangeSpec := { name := "fnExactGoodCurve", fn := fun _ => fun
  | [d] => { results := [.lit (.bool true)], args := [d] }
  | _ => none }
def fnExactGoodCurveRow : OpenClaim := { program := "ytghikmnjccgchaa", sum := "b590f702e2bf5851d554d8e870ff53369d29543a2670e22ef74c85fa6e3eb7ec", func := "loop.example/g00532/laws.FnExactGoodCurve", spec := "fnExactGoodCurve", apart := false }
def FnExactGoodCurveSaid : Prop := fnExactGoodCurveRow.holds Try.pinned (OpenSpec.ofChange fnExactGoodCurveSpec)

/-- ITS FALSE NEIGHBOUR: 'it returns false'. Refute it at one input. -/
def fnExactGoodCurveWrong : ChangeSpec := { name := "fnExactGoodCurve", fn := fun _ => fun
  | [d] => { results := [.lit (.bool false)], args := [d] }
  | _ => none }
def FnExactGoodCurveWrongFalsely : Prop := fnExactGoodCurveRow.holds Try.pinned (OpenSpec.ofChange fnExactGoodCurveWrong)

/-- 'laws.FnExactZeroPoint': WHATEVER THE INPUT: true; the input reads as it did. -/
def fnExactZeroPointSpec : ChangeSpec := { name := "fnExactZeroPoint", fn := fun _ => fun
  | [d] => { results := [.lit (.bool true)], args := [d] }
  | _ => none }
def fnExactZeroPointRow : OpenClaim := { program := "ytghikmnjccgchaa", sum := "b590f702e2bf5851d554d8e870ff53369d29543a2670e22ef74c85fa6e3eb7ec", func := "loop.example/g00532/laws.FnExactZeroPoint", spec := "fnExactZeroPoint", apart := false }
def FnExactZeroPointSaid : Prop := fnExactZeroPointRow.holds Try.pinned (OpenSpec.ofChange fnExactZeroPointSpec)

/-- ITS FALSE NEIGHBOUR: 'it returns false'. Refute it at one input. -/
def fnExactZeroPointWrong : ChangeSpec := { name := "fnExactZeroPoint", fn := fun _ => fun
  | [d] => { results := [.lit (.bool false)], args := [d] }
  | _ => none }
def FnExactZeroPointWrongFalsely : Prop := fnExactZeroPointRow.holds Try.pinned (OpenSpec.ofChange fnExactZeroPointWrong)

/-- 'laws.FnExactOnCurve': WHATEVER THE INPUT: true; the input reads as it did. -/
def fnExactOnCurveSpec : ChangeSpec := { name := "fnExactOnCurve", fn := fun _ => fun
  | [d1, d2] => { results := [.lit (.bool true)], args := [d1, d2] }
  | _ => none }
def fnExactOnCurveRow : OpenClaim := { program := "ytghikmnjccgchaa", sum := "b590f702e2bf5851d554d8e870ff53369d29543a2670e22ef74c85fa6e3eb7ec", func := "loop.example/g00532/laws.FnExactOnCurve", spec := "fnExactOnCurve", apart := false }
def FnExactOnCurveSaid : Prop := fnExactOnCurveRow.holds Try.pinned (OpenSpec.ofChange fnExactOnCurveSpec)

/-- ITS FALSE NEIGHBOUR: 'it returns false'. Refute it at one input. -/
def fnExactOnCurveWrong : ChangeSpec := { name := "fnExactOnCurve", fn := fun _ => fun
  | [d1, d2] => { results := [.lit (.bool false)], args := [d1, d2] }
  | _ => none }
def FnExactOnCurveWrongFalsely : Prop := fnExactOnCurveRow.holds Try.pinned (OpenSpec.ofChange fnExactOnCurveWrong)

/-- 'laws.FnExactCountPoints': WHATEVER THE INPUT: true; the input reads as it did. -/
def fnExactCountPointsSpec : ChangeSpec := { name := "fnExactCountPoints", fn := fun _ => fun
  | [d] => { results := [.lit (.bool true)], args := [d] }
  | _ => none }
def fnExactCountPointsRow : OpenClaim := { program := "ytghikmnjccgchaa", sum := "b590f702e2bf5851d554d8e870ff53369d29543a2670e22ef74c85fa6e3eb7ec", func := "loop.example/g00532/laws.FnExactCountPoints", spec := "fnExactCountPoints", apart := false }
def FnExactCountPointsSaid : Prop := fnExactCountPointsRow.holds Try.pinned (OpenSpec.ofChange fnExactCountPointsSpec)

/-- ITS FALSE NEIGHBOUR: 'it returns false'. Refute it at one input. -/
def fnExactCountPointsWrong : ChangeSpec := { name := "fnExactCountPoints", fn := fun _ => fun
  | [d] => { results := [.lit (.bool false)], args := [d] }
  | _ => none }
def FnExactCountPointsWrongFalsely : Prop := fnExactCountPointsRow.holds Try.pinned (OpenSpec.ofChange fnExactCountPointsWrong)

/-- 'laws.FnExactOfShort': WHATEVER THE INPUT: true; the input reads as it did. -/
def fnExactOfShortSpec : ChangeSpec := { name := "fnExactOfShort", fn := fun _ => fun
  | [d1, d2] => { results := [.lit (.bool true)], args := [d1, d2] }
  | _ => none }
def fnExactOfShortRow : OpenClaim := { program := "ytghikmnjccgchaa", sum := "b590f702e2bf5851d554d8e870ff53369d29543a2670e22ef74c85fa6e3eb7ec", func := "loop.example/g00532/laws.FnExactOfShort", spec := "fnExactOfShort", apart := false }
def FnExactOfShortSaid : Prop := fnExactOfShortRow.holds Try.pinned (OpenSpec.ofChange fnExactOfShortSpec)

/-- ITS FALSE NEIGHBOUR: 'it returns false'. Refute it at one input. -/
def fnExactOfShortWrong : ChangeSpec := { name := "fnExactOfShort", fn := fun _ => fun
  | [d1, d2] => { results := [.lit (.bool false)], args := [d1, d2] }
  | _ => none }
def FnExactOfShortWrongFalsely : Prop := fnExactOfShortRow.holds Try.pinned (OpenSpec.ofChange fnExactOfShortWrong)

/-- 'laws.FnExactShortPoint': WHATEVER THE INPUT: true; the input reads as it did. -/
def fnExactShortPointSpec : ChangeSpec := { name := "fnExactShortPoint", fn := fun _ => fun
  | [d1, d2] => { results := [.lit (.bool true)], args := [d1, d2] }
  | _ => none }
def fnExactShortPointRow : OpenClaim := { program := "ytghikmnjccgchaa", sum := "b590f702e2bf5851d554d8e870ff53369d29543a2670e22ef74c85fa6e3eb7ec", func := "loop.example/g00532/laws.FnExactShortPoint", spec := "fnExactShortPoint", unfollowed := true, recurses := true, apart := false }
def FnExactShortPointSaid : Prop := fnExactShortPointRow.holds Try.pinned (OpenSpec.ofChange fnExactShortPointSpec)

/-- ITS FALSE NEIGHBOUR: 'it returns false'. Refute it at one input. -/
def fnExactShortPointWrong : ChangeSpec := { name := "fnExactShortPoint", fn := fun _ => fun
  | [d1, d2] => { results := [.lit (.bool false)], args := [d1, d2] }
  | _ => none }
def FnExactShortPointWrongFalsely : Prop := fnExactShortPointRow.holds Try.pinned (OpenSpec.ofChange fnExactShortPointWrong)

/-- 'laws.FnExactNegPoint': WHATEVER THE INPUT: true; the input reads as it did. -/
def fnExactNegPointSpec : ChangeSpec := { name := "fnExactNegPoint", fn := fun _ => fun
  | [d1, d2] => { results := [.lit (.bool true)], args := [d1, d2] }
  | _ => none }
def fnExactNegPointRow : OpenClaim := { program := "ytghikmnjccgchaa", sum := "b590f702e2bf5851d554d8e870ff53369d29543a2670e22ef74c85fa6e3eb7ec", func := "loop.example/g00532/laws.FnExactNegPoint", spec := "fnExactNegPoint", unfollowed := true, recurses := true, apart := false }
def FnExactNegPointSaid : Prop := fnExactNegPointRow.holds Try.pinned (OpenSpec.ofChange fnExactNegPointSpec)

/-- ITS FALSE NEIGHBOUR: 'it returns false'. Refute it at one input. -/
def fnExactNegPointWrong : ChangeSpec := { name := "fnExactNegPoint", fn := fun _ => fun
  | [d1, d2] => { results := [.lit (.bool false)], args := [d1, d2] }
  | _ => none }
def FnExactNegPointWrongFalsely : Prop := fnExactNegPointRow.holds Try.pinned (OpenSpec.ofChange fnExactNegPointWrong)

/-- 'laws.FnExactAddPoints': WHATEVER THE INPUT: true; the input reads as it did. -/
def fnExactAddPointsSpec : ChangeSpec := { name := "fnExactAddPoints", fn := fun _ => fun
  | [d1, d2, d3] => { results := [.lit (.bool true)], args := [d1, d2, d3] }
  | _ => none }
def fnExactAddPointsRow : OpenClaim := { program := "ytghikmnjccgchaa", sum := "b590f702e2bf5851d554d8e870ff53369d29543a2670e22ef74c85fa6e3eb7ec", func := "loop.example/g00532/laws.FnExactAddPoints", spec := "fnExactAddPoints", unfollowed := true, recurses := true, apart := false }
def FnExactAddPointsSaid : Prop := fnExactAddPointsRow.holds Try.pinned (OpenSpec.ofChange fnExactAddPointsSpec)

/-- ITS FALSE NEIGHBOUR: 'it returns false'. Refute it at one input. -/
def fnExactAddPointsWrong : ChangeSpec := { name := "fnExactAddPoints", fn := fun _ => fun
  | [d1, d2, d3] => { results := [.lit (.bool false)], args := [d1, d2, d3] }
  | _ => none }
def FnExactAddPointsWrongFalsely : Prop := fnExactAddPointsRow.holds Try.pinned (OpenSpec.ofChange fnExactAddPointsWrong)

/-- 'laws.FnExactTimesPoint': WHATEVER THE INPUT: true; the input reads as it did. -/
def fnExactTimesPointSpec : ChangeSpec := { name := "fnExactTimesPoint", fn := fun _ => fun
  | [d1, d2, d3] => { results := [.lit (.bool true)], args := [d1, d2, d3] }
  | _ => none }
def fnExactTimesPointRow : OpenClaim := { program := "ytghikmnjccgchaa", sum := "b590f702e2bf5851d554d8e870ff53369d29543a2670e22ef74c85fa6e3eb7ec", func := "loop.example/g00532/laws.FnExactTimesPoint", spec := "fnExactTimesPoint", unfollowed := true, recurses := true, apart := false }
def FnExactTimesPointSaid : Prop := fnExactTimesPointRow.holds Try.pinned (OpenSpec.ofChange fnExactTimesPointSpec)

/-- ITS FALSE NEIGHBOUR: 'it returns false'. Refute it at one input. -/
def fnExactTimesPointWrong : ChangeSpec := { name := "fnExactTimesPoint", fn := fun _ => fun
  | [d1, d2, d3] => { results := [.lit (.bool false)], args := [d1, d2, d3] }
  | _ => none }
def FnExactTimesPointWrongFalsely : Prop := fnExactTimesPointRow.holds Try.pinned (OpenSpec.ofChange fnExactTimesPointWrong)

/-- 'laws.FnExactOrderOf': WHATEVER THE INPUT: true; the input reads as it did. -/
def fnExactOrderOfSpec : ChangeSpec := { name := "fnExactOrderOf", fn := fun _ => fun
  | [d1, d2] => { results := [.lit (.bool true)], args := [d1, d2] }
  | _ => none }
def fnExactOrderOfRow : OpenClaim := { program := "ytghikmnjccgchaa", sum := "b590f702e2bf5851d554d8e870ff53369d29543a2670e22ef74c85fa6e3eb7ec", func := "loop.example/g00532/laws.FnExactOrderOf", spec := "fnExactOrderOf", unfollowed := true, recurses := true, apart := false }
def FnExactOrderOfSaid : Prop := fnExactOrderOfRow.holds Try.pinned (OpenSpec.ofChange fnExactOrderOfSpec)

/-- ITS FALSE NEIGHBOUR: 'it returns false'. Refute it at one input. -/
def fnExactOrderOfWrong : ChangeSpec := { name := "fnExactOrderOf", fn := fun _ => fun
  | [d1, d2] => { results := [.lit (.bool false)], args := [d1, d2] }
  | _ => none }
def FnExactOrderOfWrongFalsely : Prop := fnExactOrderOfRow.holds Try.pinned (OpenSpec.ofChange fnExactOrderOfWrong)

/- THE SECOND FORM. 'bulk': how many values and letters a reading holds, each counted each time it is reached (what is shared counts as often as it is met; a slice's spare places count too). A statement '..UptoSaid' is the law's where the arguments, and the package variables that the reading takes, are together of bulk at most 1048576: NARROWER than '..Said'. Prove '..Said' where nothing that the law and all that it calls make is longer than what came in: it says more and counts as full. Else prove '..UptoSaid'. A law counts once. -/
mutual
def uptoBulk {H : Type} : DataW H → Nat
  | .lit (.string bytes) => bytes.length + 1
  | .lit _ => 1
  | .nil => 1
  | .ptr d => uptoBulk d + 1
  | .slice elems spare => uptoBulkAll elems + uptoBulkAll spare + 1
  | .agg parts => uptoBulkAll parts + 1
  | .iface _ d => uptoBulk d + 1
  | .map entries => uptoBulkEntries entries + 1
  | .held _ => 1
def uptoBulkAll {H : Type} : List (DataW H) → Nat
  | [] => 0
  | d :: r => uptoBulk d + uptoBulkAll r
def uptoBulkEntries {H : Type} : List (Lit × DataW H) → Nat
  | [] => 0
  | x :: r => uptoBulkEntry x + uptoBulkEntries r
def uptoBulkEntry {H : Type} : Lit × DataW H → Nat
  | (.string bytes, d) => bytes.length + uptoBulk d + 1
  | (_, d) => uptoBulk d + 1
 end
def uptoSmall : (H : Type) → List (DataW H) → Bool := fun _ ds => decide (uptoBulkAll ds ≤ 1048576)
def OpenSpec.upto (s : _root_.Go.ChangeSpec) : _root_.Go.OpenSpec := { _root_.Go.OpenSpec.ofChange s with cond := some uptoSmall }

/-- 'laws.FnExactGoodCurve', WHERE WHAT IT READS IS OF BULK AT MOST 1048576: true; the input reads as it did. -/
def fnExactGoodCurveUptoRow : OpenClaim := { program := "ytghikmnjccgchaa", sum := "b590f702e2bf5851d554d8e870ff53369d29543a2670e22ef74c85fa6e3eb7ec", func := "loop.example/g00532/laws.FnExactGoodCurve", spec := "fnExactGoodCurve", apart := false, narrowed := true }
def FnExactGoodCurveUptoSaid : Prop := fnExactGoodCurveUptoRow.holds Try.pinned (OpenSpec.upto fnExactGoodCurveSpec)

/-- 'laws.FnExactZeroPoint', WHERE WHAT IT READS IS OF BULK AT MOST 1048576: true; the input reads as it did. -/
def fnExactZeroPointUptoRow : OpenClaim := { program := "ytghikmnjccgchaa", sum := "b590f702e2bf5851d554d8e870ff53369d29543a2670e22ef74c85fa6e3eb7ec", func := "loop.example/g00532/laws.FnExactZeroPoint", spec := "fnExactZeroPoint", apart := false, narrowed := true }
def FnExactZeroPointUptoSaid : Prop := fnExactZeroPointUptoRow.holds Try.pinned (OpenSpec.upto fnExactZeroPointSpec)

/-- 'laws.FnExactOnCurve', WHERE WHAT IT READS IS OF BULK AT MOST 1048576: true; the input reads as it did. -/
def fnExactOnCurveUptoRow : OpenClaim := { program := "ytghikmnjccgchaa", sum := "b590f702e2bf5851d554d8e870ff53369d29543a2670e22ef74c85fa6e3eb7ec", func := "loop.example/g00532/laws.FnExactOnCurve", spec := "fnExactOnCurve", apart := false, narrowed := true }
def FnExactOnCurveUptoSaid : Prop := fnExactOnCurveUptoRow.holds Try.pinned (OpenSpec.upto fnExactOnCurveSpec)

/-- 'laws.FnExactCountPoints', WHERE WHAT IT READS IS OF BULK AT MOST 1048576: true; the input reads as it did. -/
def fnExactCountPointsUptoRow : OpenClaim := { program := "ytghikmnjccgchaa", sum := "b590f702e2bf5851d554d8e870ff53369d29543a2670e22ef74c85fa6e3eb7ec", func := "loop.example/g00532/laws.FnExactCountPoints", spec := "fnExactCountPoints", apart := false, narrowed := true }
def FnExactCountPointsUptoSaid : Prop := fnExactCountPointsUptoRow.holds Try.pinned (OpenSpec.upto fnExactCountPointsSpec)

/-- 'laws.FnExactOfShort', WHERE WHAT IT READS IS OF BULK AT MOST 1048576: true; the input reads as it did. -/
def fnExactOfShortUptoRow : OpenClaim := { program := "ytghikmnjccgchaa", sum := "b590f702e2bf5851d554d8e870ff53369d29543a2670e22ef74c85fa6e3eb7ec", func := "loop.example/g00532/laws.FnExactOfShort", spec := "fnExactOfShort", apart := false, narrowed := true }
def FnExactOfShortUptoSaid : Prop := fnExactOfShortUptoRow.holds Try.pinned (OpenSpec.upto fnExactOfShortSpec)

/-- 'laws.FnExactShortPoint', WHERE WHAT IT READS IS OF BULK AT MOST 1048576: true; the input reads as it did. -/
def fnExactShortPointUptoRow : OpenClaim := { program := "ytghikmnjccgchaa", sum := "b590f702e2bf5851d554d8e870ff53369d29543a2670e22ef74c85fa6e3eb7ec", func := "loop.example/g00532/laws.FnExactShortPoint", spec := "fnExactShortPoint", unfollowed := true, recurses := true, apart := false, narrowed := true }
def FnExactShortPointUptoSaid : Prop := fnExactShortPointUptoRow.holds Try.pinned (OpenSpec.upto fnExactShortPointSpec)

/-- 'laws.FnExactNegPoint', WHERE WHAT IT READS IS OF BULK AT MOST 1048576: true; the input reads as it did. -/
def fnExactNegPointUptoRow : OpenClaim := { program := "ytghikmnjccgchaa", sum := "b590f702e2bf5851d554d8e870ff53369d29543a2670e22ef74c85fa6e3eb7ec", func := "loop.example/g00532/laws.FnExactNegPoint", spec := "fnExactNegPoint", unfollowed := true, recurses := true, apart := false, narrowed := true }
def FnExactNegPointUptoSaid : Prop := fnExactNegPointUptoRow.holds Try.pinned (OpenSpec.upto fnExactNegPointSpec)

/-- 'laws.FnExactAddPoints', WHERE WHAT IT READS IS OF BULK AT MOST 1048576: true; the input reads as it did. -/
def fnExactAddPointsUptoRow : OpenClaim := { program := "ytghikmnjccgchaa", sum := "b590f702e2bf5851d554d8e870ff53369d29543a2670e22ef74c85fa6e3eb7ec", func := "loop.example/g00532/laws.FnExactAddPoints", spec := "fnExactAddPoints", unfollowed := true, recurses := true, apart := false, narrowed := true }
def FnExactAddPointsUptoSaid : Prop := fnExactAddPointsUptoRow.holds Try.pinned (OpenSpec.upto fnExactAddPointsSpec)

/-- 'laws.FnExactTimesPoint', WHERE WHAT IT READS IS OF BULK AT MOST 1048576: true; the input reads as it did. -/
def fnExactTimesPointUptoRow : OpenClaim := { program := "ytghikmnjccgchaa", sum := "b590f702e2bf5851d554d8e870ff53369d29543a2670e22ef74c85fa6e3eb7ec", func := "loop.example/g00532/laws.FnExactTimesPoint", spec := "fnExactTimesPoint", unfollowed := true, recurses := true, apart := false, narrowed := true }
def FnExactTimesPointUptoSaid : Prop := fnExactTimesPointUptoRow.holds Try.pinned (OpenSpec.upto fnExactTimesPointSpec)

/-- 'laws.FnExactOrderOf', WHERE WHAT IT READS IS OF BULK AT MOST 1048576: true; the input reads as it did. -/
def fnExactOrderOfUptoRow : OpenClaim := { program := "ytghikmnjccgchaa", sum := "b590f702e2bf5851d554d8e870ff53369d29543a2670e22ef74c85fa6e3eb7ec", func := "loop.example/g00532/laws.FnExactOrderOf", spec := "fnExactOrderOf", unfollowed := true, recurses := true, apart := false, narrowed := true }
def FnExactOrderOfUptoSaid : Prop := fnExactOrderOfUptoRow.holds Try.pinned (OpenSpec.upto fnExactOrderOfSpec)

end Rows
end Go.Proofs.Ytghikmnjccgchaa
