/-
  No cell of these rows narrows 'for every input' (looked for: loops, veiled, ifaces, maps, wideKeys, modest, calm, conditions, laid).
  DERIVED. THE GIVEN ROWS OF THIS SEAT. 7 by the template 'for every input the law returns true; each argument reads behind the call as it read before'; 0 by the template 'total and deterministic' (their statements: YtmbfcnledgeddaaTotals.lean).
  GIVEN WITH THE SEED: the statements are not yours to turn. If you find one false, say at which input.
  Laid BY PROGRAM, IN A SANDBOX (cutbox-rows.mjs): the forced cells as the released guide's own fill.sh prints them over the translation 9d824999f042ba3c… (all of the seat's roots in one cut). By AI agents, Wed Nov 11 2026. No macro, syntax, notation, axiom, sorry.
-/
import Derived.Test.YtmbfcnledgeddaaChecked
import GoSem.Claim
import GoSem.ClaimJoined
import GoSem.ClaimMapViews
import Derived.JoinedTies
import Derived.KernelRfl
namespace Go.Proofs.Ytmbfcnledgeddaa
/- THE CELL 'sum', in the pinned program and in every row, IS THE sha256 OF THE DUMP (.gsa) THAT YtmbfcnledgeddaaProg.lean LOADS. Nothing in Lean hashes anything: it is a label: what it is worth is what the hold of that sum in a sandbox is worth. -/
noncomputable def Try.pinned : Pinned := { name := "ytmbfcnledgeddaa", sum := "9d824999f042ba3c1d10313ad0252835e9d10be1058ba84bb1aff4867e7c0b4d", checked := Try.checked }
namespace Rows
def none {H : Type} : Left H := { results := [], args := [] }

/-- 'laws.FnExactIsPrime': WHATEVER THE INPUT: true; the input reads as it did. -/
def fnExactIsPrimeSpec : ChangeSpec := { name := "fnExactIsPrime", fn := fun _ => fun
  | [d] => { results := [.lit (.bool true)], args := [d] }
  | _ => none }
def fnExactIsPrimeRow : OpenClaim := { program := "ytmbfcnledgeddaa", sum := "9d824999f042ba3c1d10313ad0252835e9d10be1058ba84bb1aff4867e7c0b4d", func := "loop.example/g00532/laws.FnExactIsPrime", spec := "fnExactIsPrime", apart := false }
def FnExactIsPrimeSaid : Prop := fnExactIsPrimeRow.holds Try.pinned (OpenSpec.ofChange fnExactIsPrimeSpec)

/-- ITS FALSE NEIGHBOUR: 'it returns false'. Refute it at one input. -/
def fnExactIsPrimeWrong : ChangeSpec := { name := "fnExactIsPrime", fn := fun _ => fun
  | [d] => { results := [.lit (.bool false)], args := [d] }
  | _ => none }
def FnExactIsPrimeWrongFalsely : Prop := fnExactIsPrimeRow.holds Try.pinned (OpenSpec.ofChange fnExactIsPrimeWrong)

/-- 'laws.FnExactPowerMod': WHATEVER THE INPUT: true; the input reads as it did. -/
def fnExactPowerModSpec : ChangeSpec := { name := "fnExactPowerMod", fn := fun _ => fun
  | [d1, d2, d3] => { results := [.lit (.bool true)], args := [d1, d2, d3] }
  | _ => none }
def fnExactPowerModRow : OpenClaim := { program := "ytmbfcnledgeddaa", sum := "9d824999f042ba3c1d10313ad0252835e9d10be1058ba84bb1aff4867e7c0b4d", func := "loop.example/g00532/laws.FnExactPowerMod", spec := "fnExactPowerMod", apart := false }
def FnExactPowerModSaid : Prop := fnExactPowerModRow.holds Try.pinned (OpenSpec.ofChange fnExactPowerModSpec)

/-- ITS FALSE NEIGHBOUR: 'it returns false'. Refute it at one input. -/
def fnExactPowerModWrong : ChangeSpec := { name := "fnExactPowerMod", fn := fun _ => fun
  | [d1, d2, d3] => { results := [.lit (.bool false)], args := [d1, d2, d3] }
  | _ => none }
def FnExactPowerModWrongFalsely : Prop := fnExactPowerModRow.holds Try.pinned (OpenSpec.ofChange fnExactPowerModWrong)

/-- 'laws.FnExactInverseMod': WHATEVER THE INPUT: true; the input reads as it did. -/
def fnExactInverseModSpec : ChangeSpec := { name := "fnExactInverseMod", fn := fun _ => fun
  | [d1, d2] => { results := [.lit (.bool true)], args := [d1, d2] }
  | _ => none }
def fnExactInverseModRow : OpenClaim := { program := "ytmbfcnledgeddaa", sum := "9d824999f042ba3c1d10313ad0252835e9d10be1058ba84bb1aff4867e7c0b4d", func := "loop.example/g00532/laws.FnExactInverseMod", spec := "fnExactInverseMod", apart := false }
def FnExactInverseModSaid : Prop := fnExactInverseModRow.holds Try.pinned (OpenSpec.ofChange fnExactInverseModSpec)

/-- ITS FALSE NEIGHBOUR: 'it returns false'. Refute it at one input. -/
def fnExactInverseModWrong : ChangeSpec := { name := "fnExactInverseMod", fn := fun _ => fun
  | [d1, d2] => { results := [.lit (.bool false)], args := [d1, d2] }
  | _ => none }
def FnExactInverseModWrongFalsely : Prop := fnExactInverseModRow.holds Try.pinned (OpenSpec.ofChange fnExactInverseModWrong)

/-- 'laws.FnExactSquareKind': WHATEVER THE INPUT: true; the input reads as it did. -/
def fnExactSquareKindSpec : ChangeSpec := { name := "fnExactSquareKind", fn := fun _ => fun
  | [d1, d2] => { results := [.lit (.bool true)], args := [d1, d2] }
  | _ => none }
def fnExactSquareKindRow : OpenClaim := { program := "ytmbfcnledgeddaa", sum := "9d824999f042ba3c1d10313ad0252835e9d10be1058ba84bb1aff4867e7c0b4d", func := "loop.example/g00532/laws.FnExactSquareKind", spec := "fnExactSquareKind", apart := false }
def FnExactSquareKindSaid : Prop := fnExactSquareKindRow.holds Try.pinned (OpenSpec.ofChange fnExactSquareKindSpec)

/-- ITS FALSE NEIGHBOUR: 'it returns false'. Refute it at one input. -/
def fnExactSquareKindWrong : ChangeSpec := { name := "fnExactSquareKind", fn := fun _ => fun
  | [d1, d2] => { results := [.lit (.bool false)], args := [d1, d2] }
  | _ => none }
def FnExactSquareKindWrongFalsely : Prop := fnExactSquareKindRow.holds Try.pinned (OpenSpec.ofChange fnExactSquareKindWrong)

/-- 'laws.FnExactRootMod': WHATEVER THE INPUT: true; the input reads as it did. -/
def fnExactRootModSpec : ChangeSpec := { name := "fnExactRootMod", fn := fun _ => fun
  | [d1, d2] => { results := [.lit (.bool true)], args := [d1, d2] }
  | _ => none }
def fnExactRootModRow : OpenClaim := { program := "ytmbfcnledgeddaa", sum := "9d824999f042ba3c1d10313ad0252835e9d10be1058ba84bb1aff4867e7c0b4d", func := "loop.example/g00532/laws.FnExactRootMod", spec := "fnExactRootMod", apart := false }
def FnExactRootModSaid : Prop := fnExactRootModRow.holds Try.pinned (OpenSpec.ofChange fnExactRootModSpec)

/-- ITS FALSE NEIGHBOUR: 'it returns false'. Refute it at one input. -/
def fnExactRootModWrong : ChangeSpec := { name := "fnExactRootMod", fn := fun _ => fun
  | [d1, d2] => { results := [.lit (.bool false)], args := [d1, d2] }
  | _ => none }
def FnExactRootModWrongFalsely : Prop := fnExactRootModRow.holds Try.pinned (OpenSpec.ofChange fnExactRootModWrong)

/-- 'laws.FnExactOrderMod': WHATEVER THE INPUT: true; the input reads as it did. -/
def fnExactOrderModSpec : ChangeSpec := { name := "fnExactOrderMod", fn := fun _ => fun
  | [d1, d2] => { results := [.lit (.bool true)], args := [d1, d2] }
  | _ => none }
def fnExactOrderModRow : OpenClaim := { program := "ytmbfcnledgeddaa", sum := "9d824999f042ba3c1d10313ad0252835e9d10be1058ba84bb1aff4867e7c0b4d", func := "loop.example/g00532/laws.FnExactOrderMod", spec := "fnExactOrderMod", apart := false }
def FnExactOrderModSaid : Prop := fnExactOrderModRow.holds Try.pinned (OpenSpec.ofChange fnExactOrderModSpec)

/-- ITS FALSE NEIGHBOUR: 'it returns false'. Refute it at one input. -/
def fnExactOrderModWrong : ChangeSpec := { name := "fnExactOrderMod", fn := fun _ => fun
  | [d1, d2] => { results := [.lit (.bool false)], args := [d1, d2] }
  | _ => none }
def FnExactOrderModWrongFalsely : Prop := fnExactOrderModRow.holds Try.pinned (OpenSpec.ofChange fnExactOrderModWrong)

/-- 'laws.FnExactFirstGenerator': WHATEVER THE INPUT: true; the input reads as it did. -/
def fnExactFirstGeneratorSpec : ChangeSpec := { name := "fnExactFirstGenerator", fn := fun _ => fun
  | [d] => { results := [.lit (.bool true)], args := [d] }
  | _ => none }
def fnExactFirstGeneratorRow : OpenClaim := { program := "ytmbfcnledgeddaa", sum := "9d824999f042ba3c1d10313ad0252835e9d10be1058ba84bb1aff4867e7c0b4d", func := "loop.example/g00532/laws.FnExactFirstGenerator", spec := "fnExactFirstGenerator", apart := false }
def FnExactFirstGeneratorSaid : Prop := fnExactFirstGeneratorRow.holds Try.pinned (OpenSpec.ofChange fnExactFirstGeneratorSpec)

/-- ITS FALSE NEIGHBOUR: 'it returns false'. Refute it at one input. -/
def fnExactFirstGeneratorWrong : ChangeSpec := { name := "fnExactFirstGenerator", fn := fun _ => fun
  | [d] => { results := [.lit (.bool false)], args := [d] }
  | _ => none }
def FnExactFirstGeneratorWrongFalsely : Prop := fnExactFirstGeneratorRow.holds Try.pinned (OpenSpec.ofChange fnExactFirstGeneratorWrong)

/- THE SECOND FORM. 'bulk': how many values and letters a reading holds, each counted each time it is reached (what is shared counts as often as it is met; a slice's spare places count too). A statement '..UptoSaid' is the law's where the arguments, and the package variables that the reading takes, are together of bulk at most 1048576: NARROWER than '..Said'. Prove '..Said' where nothing that the law and all that it calls make is longer than what came in: it says more and counts as full. Else prove '..UptoSaid'. A law counts once. -/
mutual
def uptoBulk {H : Type} : DataW H → Nat
  | .lit (.string bytes) => bytes.length + 1
  | .lit _ => 1
  | .nil => 1
  | .ptr d => uptoBulk d + 1
  | .slice elems spare => uptoBulkAll elems + uptoBulkAll spare + 1
  | .agg parts => uptoBulkAll parts + 1
  | .iface _ d => uptoBulk d + 1
  | .map entries => uptoBulkEntries entries + 1
  | .held _ => 1
def uptoBulkAll {H : Type} : List (DataW H) → Nat
  | [] => 0
  | d :: r => uptoBulk d + uptoBulkAll r
def uptoBulkEntries {H : Type} : List (Lit × DataW H) → Nat
  | [] => 0
  | x :: r => uptoBulkEntry x + uptoBulkEntries r
def uptoBulkEntry {H : Type} : Lit × DataW H → Nat
  | (.string bytes, d) => bytes.length + uptoBulk d + 1
  | (_, d) => uptoBulk d + 1
 end
def uptoSmall : (H : Type) → List (DataW H) → Bool := fun _ ds => decide (uptoBulkAll ds ≤ 1048576)
def OpenSpec.upto (s : _root_.Go.ChangeSpec) : _root_.Go.OpenSpec := { _root_.Go.OpenSpec.ofChange s with cond := some uptoSmall }

/-- 'laws.FnExactIsPrime', WHERE WHAT IT READS IS OF BULK AT MOST 1048576: true; the input reads as it did. -/
def fnExactIsPrimeUptoRow : OpenClaim := { program := "ytmbfcnledgeddaa", sum := "9d824999f042ba3c1d10313ad0252835e9d10be1058ba84bb1aff4867e7c0b4d", func := "loop.example/g00532/laws.FnExactIsPrime", spec := "fnExactIsPrime", apart := false, narrowed := true }
def FnExactIsPrimeUptoSaid : Prop := fnExactIsPrimeUptoRow.holds Try.pinned (OpenSpec.upto fnExactIsPrimeSpec)

/-- 'laws.FnExactPowerMod', WHERE WHAT IT READS IS OF BULK AT MOST 1048576: true; the input reads as it did. -/
def fnExactPowerModUptoRow : OpenClaim := { program := "ytmbfcnledgeddaa", sum := "9d824999f042ba3c1d10313ad0252835e9d10be1058ba84bb1aff4867e7c0b4d", func := "loop.example/g00532/laws.FnExactPowerMod", spec := "fnExactPowerMod", apart := false, narrowed := true }
def FnExactPowerModUptoSaid : Prop := fnExactPowerModUptoRow.holds Try.pinned (OpenSpec.upto fnExactPowerModSpec)

/-- 'laws.FnExactInverseMod', WHERE WHAT IT READS IS OF BULK AT MOST 1048576: true; the input reads as it did. -/
def fnExactInverseModUptoRow : OpenClaim := { program := "ytmbfcnledgeddaa", sum := "9d824999f042ba3c1d10313ad0252835e9d10be1058ba84bb1aff4867e7c0b4d", func := "loop.example/g00532/laws.FnExactInverseMod", spec := "fnExactInverseMod", apart := false, narrowed := true }
def FnExactInverseModUptoSaid : Prop := fnExactInverseModUptoRow.holds Try.pinned (OpenSpec.upto fnExactInverseModSpec)

/-- 'laws.FnExactSquareKind', WHERE WHAT IT READS IS OF BULK AT MOST 1048576: true; the input reads as it did. -/
def fnExactSquareKindUptoRow : OpenClaim := { program := "ytmbfcnledgeddaa", sum := "9d824999f042ba3c1d10313ad0252835e9d10be1058ba84bb1aff4867e7c0b4d", func := "loop.example/g00532/laws.FnExactSquareKind", spec := "fnExactSquareKind", apart := false, narrowed := true }
def FnExactSquareKindUptoSaid : Prop := fnExactSquareKindUptoRow.holds Try.pinned (OpenSpec.upto fnExactSquareKindSpec)

/-- 'laws.FnExactRootMod', WHERE WHAT IT READS IS OF BULK AT MOST 1048576: true; the input reads as it did. -/
def fnExactRootModUptoRow : OpenClaim := { program := "ytmbfcnledgeddaa", sum := "9d824999f042ba3c1d10313ad0252835e9d10be1058ba84bb1aff4867e7c0b4d", func := "loop.example/g00532/laws.FnExactRootMod", spec := "fnExactRootMod", apart := false, narrowed := true }
def FnExactRootModUptoSaid : Prop := fnExactRootModUptoRow.holds Try.pinned (OpenSpec.upto fnExactRootModSpec)

/-- 'laws.FnExactOrderMod', WHERE WHAT IT READS IS OF BULK AT MOST 1048576: true; the input reads as it did. -/
def fnExactOrderModUptoRow : OpenClaim := { program := "ytmbfcnledgeddaa", sum := "9d824999f042ba3c1d10313ad0252835e9d10be1058ba84bb1aff4867e7c0b4d", func := "loop.example/g00532/laws.FnExactOrderMod", spec := "fnExactOrderMod", apart := false, narrowed := true }
def FnExactOrderModUptoSaid : Prop := fnExactOrderModUptoRow.holds Try.pinned (OpenSpec.upto fnExactOrderModSpec)

/-- 'laws.FnExactFirstGenerator', WHERE WHAT IT READS IS OF BULK AT MOST 1048576: true; the input reads as it did. -/
def fnExactFirstGeneratorUptoRow : OpenClaim := { program := "ytmbfcnledgeddaa", sum := "9d824999f042ba3c1d10313ad0252835e9d10be1058ba84bb1aff4867e7c0b4d", func := "loop.example/g00532/laws.FnExactFirstGenerator", spec := "fnExactFirstGenerator", apart := false, narrowed := true }
def FnExactFirstGeneratorUptoSaid : Prop := fnExactFirstGeneratorUptoRow.holds Try.pinned (OpenSpec.upto fnExactFirstGeneratorSpec)

end Rows
end Go.Proofs.Ytmbfcnledgeddaa
