/-
  No cell of these rows narrows 'for every input' (looked for: loops, veiled, ifaces, maps, wideKeys, modest, calm, conditions, laid).
  DERIVED. THE GIVEN ROWS OF THIS SEAT. 12 by the template 'for every input the law returns true; each argument reads behind the call as it read before'; 0 by the template 'total and deterministic' (their statements: YtlikjclgpmalkaaTotals.lean).
  GIVEN WITH THE SEED: the statements are not yours to turn. If you find one false, say at which input.
  Laid BY PROGRAM, IN A SANDBOX (cutbox-rows.mjs): the forced cells as the released guide's own fill.sh prints them over the translation 6339068bad8d4ec7… (all of the seat's roots in one cut). By AI agents, Wed Nov 11 2026. No macro, syntax, notation, axiom, sorry.
-/
import Derived.Test.YtlikjclgpmalkaaChecked
import GoSem.Claim
import GoSem.ClaimJoined
import GoSem.ClaimMapViews
import Derived.JoinedTies
import Derived.KernelRfl
namespace Go.Proofs.Ytlikjclgpmalkaa
/- THE CELL 'sum', in the pinned program and in every row, IS THE sha256 OF THE DUMP (.gsa) THAT YtlikjclgpmalkaaProg.lean LOADS. Nothing in Lean hashes anything: it is a label: what it is worth is what the hold of that sum in a sandbox is worth. -/
noncomputable def Try.pinned : Pinned := { name := "ytlikjclgpmalkaa", sum := "6339068bad8d4ec778df30fc3e70dcb3e5f793ac8a3ed88f4d2745268394db57", checked := Try.checked }
namespace Rows
def none {H : Type} : Left H := { results := [], args := [] }

/-- 'laws.FnExactConstants': WHATEVER THE INPUT: true; the input reads as it did. -/
def fnExactConstantsSpec : ChangeSpec := { name := "fnExactConstants", fn := fun _ => fun
  | [] => { results := [.lit (.bool true)], args := [] }
  | _ => none }
def fnExactConstantsRow : OpenClaim := { program := "ytlikjclgpmalkaa", sum := "6339068bad8d4ec778df30fc3e70dcb3e5f793ac8a3ed88f4d2745268394db57", func := "loop.example/g00532/laws.FnExactConstants", spec := "fnExactConstants", apart := false }
def FnExactConstantsSaid : Prop := fnExactConstantsRow.holds Try.pinned (OpenSpec.ofChange fnExactConstantsSpec)

/-- ITS FALSE NEIGHBOUR: 'it returns false'. Refute it at one input. -/
def fnExactConstantsWrong : ChangeSpec := { name := "fnExactConstants", fn := fun _ => fun
  | [] => { results := [.lit (.bool false)], args := [] }
  | _ => none }
def FnExactConstantsWrongFalsely : Prop := fnExactConstantsRow.holds Try.pinned (OpenSpec.ofChange fnExactConstantsWrong)

/-- 'laws.FnExactIsStart': WHATEVER THE INPUT: true; the input reads as it did. -/
def fnExactIsStartSpec : ChangeSpec := { name := "fnExactIsStart", fn := fun _ => fun
  | [d] => { results := [.lit (.bool true)], args := [d] }
  | _ => none }
def fnExactIsStartRow : OpenClaim := { program := "ytlikjclgpmalkaa", sum := "6339068bad8d4ec778df30fc3e70dcb3e5f793ac8a3ed88f4d2745268394db57", func := "loop.example/g00532/laws.FnExactIsStart", spec := "fnExactIsStart", apart := false }
def FnExactIsStartSaid : Prop := fnExactIsStartRow.holds Try.pinned (OpenSpec.ofChange fnExactIsStartSpec)

/-- ITS FALSE NEIGHBOUR: 'it returns false'. Refute it at one input. -/
def fnExactIsStartWrong : ChangeSpec := { name := "fnExactIsStart", fn := fun _ => fun
  | [d] => { results := [.lit (.bool false)], args := [d] }
  | _ => none }
def FnExactIsStartWrongFalsely : Prop := fnExactIsStartRow.holds Try.pinned (OpenSpec.ofChange fnExactIsStartWrong)

/-- 'laws.FnExactGoodRune': WHATEVER THE INPUT: true; the input reads as it did. -/
def fnExactGoodRuneSpec : ChangeSpec := { name := "fnExactGoodRune", fn := fun _ => fun
  | [d] => { results := [.lit (.bool true)], args := [d] }
  | _ => none }
def fnExactGoodRuneRow : OpenClaim := { program := "ytlikjclgpmalkaa", sum := "6339068bad8d4ec778df30fc3e70dcb3e5f793ac8a3ed88f4d2745268394db57", func := "loop.example/g00532/laws.FnExactGoodRune", spec := "fnExactGoodRune", apart := false }
def FnExactGoodRuneSaid : Prop := fnExactGoodRuneRow.holds Try.pinned (OpenSpec.ofChange fnExactGoodRuneSpec)

/-- ITS FALSE NEIGHBOUR: 'it returns false'. Refute it at one input. -/
def fnExactGoodRuneWrong : ChangeSpec := { name := "fnExactGoodRune", fn := fun _ => fun
  | [d] => { results := [.lit (.bool false)], args := [d] }
  | _ => none }
def FnExactGoodRuneWrongFalsely : Prop := fnExactGoodRuneRow.holds Try.pinned (OpenSpec.ofChange fnExactGoodRuneWrong)

/-- 'laws.FnExactLengthAs': WHATEVER THE INPUT: true; the input reads as it did. -/
def fnExactLengthAsSpec : ChangeSpec := { name := "fnExactLengthAs", fn := fun _ => fun
  | [d] => { results := [.lit (.bool true)], args := [d] }
  | _ => none }
def fnExactLengthAsRow : OpenClaim := { program := "ytlikjclgpmalkaa", sum := "6339068bad8d4ec778df30fc3e70dcb3e5f793ac8a3ed88f4d2745268394db57", func := "loop.example/g00532/laws.FnExactLengthAs", spec := "fnExactLengthAs", apart := false }
def FnExactLengthAsSaid : Prop := fnExactLengthAsRow.holds Try.pinned (OpenSpec.ofChange fnExactLengthAsSpec)

/-- ITS FALSE NEIGHBOUR: 'it returns false'. Refute it at one input. -/
def fnExactLengthAsWrong : ChangeSpec := { name := "fnExactLengthAs", fn := fun _ => fun
  | [d] => { results := [.lit (.bool false)], args := [d] }
  | _ => none }
def FnExactLengthAsWrongFalsely : Prop := fnExactLengthAsRow.holds Try.pinned (OpenSpec.ofChange fnExactLengthAsWrong)

/-- 'laws.FnExactSignAt': WHATEVER THE INPUT: true; the input reads as it did. -/
def fnExactSignAtSpec : ChangeSpec := { name := "fnExactSignAt", fn := fun _ => fun
  | [d] => { results := [.lit (.bool true)], args := [d] }
  | _ => none }
def fnExactSignAtRow : OpenClaim := { program := "ytlikjclgpmalkaa", sum := "6339068bad8d4ec778df30fc3e70dcb3e5f793ac8a3ed88f4d2745268394db57", func := "loop.example/g00532/laws.FnExactSignAt", spec := "fnExactSignAt", apart := false }
def FnExactSignAtSaid : Prop := fnExactSignAtRow.holds Try.pinned (OpenSpec.ofChange fnExactSignAtSpec)

/-- ITS FALSE NEIGHBOUR: 'it returns false'. Refute it at one input. -/
def fnExactSignAtWrong : ChangeSpec := { name := "fnExactSignAt", fn := fun _ => fun
  | [d] => { results := [.lit (.bool false)], args := [d] }
  | _ => none }
def FnExactSignAtWrongFalsely : Prop := fnExactSignAtRow.holds Try.pinned (OpenSpec.ofChange fnExactSignAtWrong)

/-- 'laws.FnExactTurnWord': WHATEVER THE INPUT: true; the input reads as it did. -/
def fnExactTurnWordSpec : ChangeSpec := { name := "fnExactTurnWord", fn := fun _ => fun
  | [d1, d2] => { results := [.lit (.bool true)], args := [d1, d2] }
  | _ => none }
def fnExactTurnWordRow : OpenClaim := { program := "ytlikjclgpmalkaa", sum := "6339068bad8d4ec778df30fc3e70dcb3e5f793ac8a3ed88f4d2745268394db57", func := "loop.example/g00532/laws.FnExactTurnWord", spec := "fnExactTurnWord", apart := false }
def FnExactTurnWordSaid : Prop := fnExactTurnWordRow.holds Try.pinned (OpenSpec.ofChange fnExactTurnWordSpec)

/-- ITS FALSE NEIGHBOUR: 'it returns false'. Refute it at one input. -/
def fnExactTurnWordWrong : ChangeSpec := { name := "fnExactTurnWord", fn := fun _ => fun
  | [d1, d2] => { results := [.lit (.bool false)], args := [d1, d2] }
  | _ => none }
def FnExactTurnWordWrongFalsely : Prop := fnExactTurnWordRow.holds Try.pinned (OpenSpec.ofChange fnExactTurnWordWrong)

/-- 'laws.FnExactNextStart': WHATEVER THE INPUT: true; the input reads as it did. -/
def fnExactNextStartSpec : ChangeSpec := { name := "fnExactNextStart", fn := fun _ => fun
  | [d1, d2] => { results := [.lit (.bool true)], args := [d1, d2] }
  | _ => none }
def fnExactNextStartRow : OpenClaim := { program := "ytlikjclgpmalkaa", sum := "6339068bad8d4ec778df30fc3e70dcb3e5f793ac8a3ed88f4d2745268394db57", func := "loop.example/g00532/laws.FnExactNextStart", spec := "fnExactNextStart", apart := false }
def FnExactNextStartSaid : Prop := fnExactNextStartRow.holds Try.pinned (OpenSpec.ofChange fnExactNextStartSpec)

/-- ITS FALSE NEIGHBOUR: 'it returns false'. Refute it at one input. -/
def fnExactNextStartWrong : ChangeSpec := { name := "fnExactNextStart", fn := fun _ => fun
  | [d1, d2] => { results := [.lit (.bool false)], args := [d1, d2] }
  | _ => none }
def FnExactNextStartWrongFalsely : Prop := fnExactNextStartRow.holds Try.pinned (OpenSpec.ofChange fnExactNextStartWrong)

/-- 'laws.FnExactRuneBytes': WHATEVER THE INPUT: true; the input reads as it did. -/
def fnExactRuneBytesSpec : ChangeSpec := { name := "fnExactRuneBytes", fn := fun _ => fun
  | [d] => { results := [.lit (.bool true)], args := [d] }
  | _ => none }
def fnExactRuneBytesRow : OpenClaim := { program := "ytlikjclgpmalkaa", sum := "6339068bad8d4ec778df30fc3e70dcb3e5f793ac8a3ed88f4d2745268394db57", func := "loop.example/g00532/laws.FnExactRuneBytes", spec := "fnExactRuneBytes", apart := false }
def FnExactRuneBytesSaid : Prop := fnExactRuneBytesRow.holds Try.pinned (OpenSpec.ofChange fnExactRuneBytesSpec)

/-- ITS FALSE NEIGHBOUR: 'it returns false'. Refute it at one input. -/
def fnExactRuneBytesWrong : ChangeSpec := { name := "fnExactRuneBytes", fn := fun _ => fun
  | [d] => { results := [.lit (.bool false)], args := [d] }
  | _ => none }
def FnExactRuneBytesWrongFalsely : Prop := fnExactRuneBytesRow.holds Try.pinned (OpenSpec.ofChange fnExactRuneBytesWrong)

/-- 'laws.FnExactHexOf': WHATEVER THE INPUT: true; the input reads as it did. -/
def fnExactHexOfSpec : ChangeSpec := { name := "fnExactHexOf", fn := fun _ => fun
  | [d] => { results := [.lit (.bool true)], args := [d] }
  | _ => none }
def fnExactHexOfRow : OpenClaim := { program := "ytlikjclgpmalkaa", sum := "6339068bad8d4ec778df30fc3e70dcb3e5f793ac8a3ed88f4d2745268394db57", func := "loop.example/g00532/laws.FnExactHexOf", spec := "fnExactHexOf", inPlace := ["internal/abi.NoEscape"], apart := false }
def FnExactHexOfSaid : Prop := fnExactHexOfRow.holds Try.pinned (OpenSpec.ofChange fnExactHexOfSpec)

/-- ITS FALSE NEIGHBOUR: 'it returns false'. Refute it at one input. -/
def fnExactHexOfWrong : ChangeSpec := { name := "fnExactHexOf", fn := fun _ => fun
  | [d] => { results := [.lit (.bool false)], args := [d] }
  | _ => none }
def FnExactHexOfWrongFalsely : Prop := fnExactHexOfRow.holds Try.pinned (OpenSpec.ofChange fnExactHexOfWrong)

/-- 'laws.FnExactLinesOf': WHATEVER THE INPUT: true; the input reads as it did. -/
def fnExactLinesOfSpec : ChangeSpec := { name := "fnExactLinesOf", fn := fun _ => fun
  | [d1, d2] => { results := [.lit (.bool true)], args := [d1, d2] }
  | _ => none }
def fnExactLinesOfRow : OpenClaim := { program := "ytlikjclgpmalkaa", sum := "6339068bad8d4ec778df30fc3e70dcb3e5f793ac8a3ed88f4d2745268394db57", func := "loop.example/g00532/laws.FnExactLinesOf", spec := "fnExactLinesOf", apart := false }
def FnExactLinesOfSaid : Prop := fnExactLinesOfRow.holds Try.pinned (OpenSpec.ofChange fnExactLinesOfSpec)

/-- ITS FALSE NEIGHBOUR: 'it returns false'. Refute it at one input. -/
def fnExactLinesOfWrong : ChangeSpec := { name := "fnExactLinesOf", fn := fun _ => fun
  | [d1, d2] => { results := [.lit (.bool false)], args := [d1, d2] }
  | _ => none }
def FnExactLinesOfWrongFalsely : Prop := fnExactLinesOfRow.holds Try.pinned (OpenSpec.ofChange fnExactLinesOfWrong)

/-- 'laws.FnExactBothEuclid': WHATEVER THE INPUT: true; the input reads as it did. -/
def fnExactBothEuclidSpec : ChangeSpec := { name := "fnExactBothEuclid", fn := fun _ => fun
  | [d1, d2] => { results := [.lit (.bool true)], args := [d1, d2] }
  | _ => none }
def fnExactBothEuclidRow : OpenClaim := { program := "ytlikjclgpmalkaa", sum := "6339068bad8d4ec778df30fc3e70dcb3e5f793ac8a3ed88f4d2745268394db57", func := "loop.example/g00532/laws.FnExactBothEuclid", spec := "fnExactBothEuclid", apart := false }
def FnExactBothEuclidSaid : Prop := fnExactBothEuclidRow.holds Try.pinned (OpenSpec.ofChange fnExactBothEuclidSpec)

/-- ITS FALSE NEIGHBOUR: 'it returns false'. Refute it at one input. -/
def fnExactBothEuclidWrong : ChangeSpec := { name := "fnExactBothEuclid", fn := fun _ => fun
  | [d1, d2] => { results := [.lit (.bool false)], args := [d1, d2] }
  | _ => none }
def FnExactBothEuclidWrongFalsely : Prop := fnExactBothEuclidRow.holds Try.pinned (OpenSpec.ofChange fnExactBothEuclidWrong)

/-- 'laws.FnExactIsKey': WHATEVER THE INPUT: true; the input reads as it did. -/
def fnExactIsKeySpec : ChangeSpec := { name := "fnExactIsKey", fn := fun _ => fun
  | [d] => { results := [.lit (.bool true)], args := [d] }
  | _ => none }
def fnExactIsKeyRow : OpenClaim := { program := "ytlikjclgpmalkaa", sum := "6339068bad8d4ec778df30fc3e70dcb3e5f793ac8a3ed88f4d2745268394db57", func := "loop.example/g00532/laws.FnExactIsKey", spec := "fnExactIsKey", apart := false }
def FnExactIsKeySaid : Prop := fnExactIsKeyRow.holds Try.pinned (OpenSpec.ofChange fnExactIsKeySpec)

/-- ITS FALSE NEIGHBOUR: 'it returns false'. Refute it at one input. -/
def fnExactIsKeyWrong : ChangeSpec := { name := "fnExactIsKey", fn := fun _ => fun
  | [d] => { results := [.lit (.bool false)], args := [d] }
  | _ => none }
def FnExactIsKeyWrongFalsely : Prop := fnExactIsKeyRow.holds Try.pinned (OpenSpec.ofChange fnExactIsKeyWrong)

/- THE SECOND FORM. 'bulk': how many values and letters a reading holds, each counted each time it is reached (what is shared counts as often as it is met; a slice's spare places count too). A statement '..UptoSaid' is the law's where the arguments, and the package variables that the reading takes, are together of bulk at most 1048576: NARROWER than '..Said'. Prove '..Said' where nothing that the law and all that it calls make is longer than what came in: it says more and counts as full. Else prove '..UptoSaid'. A law counts once. -/
mutual
def uptoBulk {H : Type} : DataW H → Nat
  | .lit (.string bytes) => bytes.length + 1
  | .lit _ => 1
  | .nil => 1
  | .ptr d => uptoBulk d + 1
  | .slice elems spare => uptoBulkAll elems + uptoBulkAll spare + 1
  | .agg parts => uptoBulkAll parts + 1
  | .iface _ d => uptoBulk d + 1
  | .map entries => uptoBulkEntries entries + 1
  | .held _ => 1
def uptoBulkAll {H : Type} : List (DataW H) → Nat
  | [] => 0
  | d :: r => uptoBulk d + uptoBulkAll r
def uptoBulkEntries {H : Type} : List (Lit × DataW H) → Nat
  | [] => 0
  | x :: r => uptoBulkEntry x + uptoBulkEntries r
def uptoBulkEntry {H : Type} : Lit × DataW H → Nat
  | (.string bytes, d) => bytes.length + uptoBulk d + 1
  | (_, d) => uptoBulk d + 1
 end
def uptoSmall : (H : Type) → List (DataW H) → Bool := fun _ ds => decide (uptoBulkAll ds ≤ 1048576)
def OpenSpec.upto (s : _root_.Go.ChangeSpec) : _root_.Go.OpenSpec := { _root_.Go.OpenSpec.ofChange s with cond := some uptoSmall }

/-- 'laws.FnExactConstants', WHERE WHAT IT READS IS OF BULK AT MOST 1048576: true; the input reads as it did. -/
def fnExactConstantsUptoRow : OpenClaim := { program := "ytlikjclgpmalkaa", sum := "6339068bad8d4ec778df30fc3e70dcb3e5f793ac8a3ed88f4d2745268394db57", func := "loop.example/g00532/laws.FnExactConstants", spec := "fnExactConstants", apart := false, narrowed := true }
def FnExactConstantsUptoSaid : Prop := fnExactConstantsUptoRow.holds Try.pinned (OpenSpec.upto fnExactConstantsSpec)

/-- 'laws.FnExactIsStart', WHERE WHAT IT READS IS OF BULK AT MOST 1048576: true; the input reads as it did. -/
def fnExactIsStartUptoRow : OpenClaim := { program := "ytlikjclgpmalkaa", sum := "6339068bad8d4ec778df30fc3e70dcb3e5f793ac8a3ed88f4d2745268394db57", func := "loop.example/g00532/laws.FnExactIsStart", spec := "fnExactIsStart", apart := false, narrowed := true }
def FnExactIsStartUptoSaid : Prop := fnExactIsStartUptoRow.holds Try.pinned (OpenSpec.upto fnExactIsStartSpec)

/-- 'laws.FnExactGoodRune', WHERE WHAT IT READS IS OF BULK AT MOST 1048576: true; the input reads as it did. -/
def fnExactGoodRuneUptoRow : OpenClaim := { program := "ytlikjclgpmalkaa", sum := "6339068bad8d4ec778df30fc3e70dcb3e5f793ac8a3ed88f4d2745268394db57", func := "loop.example/g00532/laws.FnExactGoodRune", spec := "fnExactGoodRune", apart := false, narrowed := true }
def FnExactGoodRuneUptoSaid : Prop := fnExactGoodRuneUptoRow.holds Try.pinned (OpenSpec.upto fnExactGoodRuneSpec)

/-- 'laws.FnExactLengthAs', WHERE WHAT IT READS IS OF BULK AT MOST 1048576: true; the input reads as it did. -/
def fnExactLengthAsUptoRow : OpenClaim := { program := "ytlikjclgpmalkaa", sum := "6339068bad8d4ec778df30fc3e70dcb3e5f793ac8a3ed88f4d2745268394db57", func := "loop.example/g00532/laws.FnExactLengthAs", spec := "fnExactLengthAs", apart := false, narrowed := true }
def FnExactLengthAsUptoSaid : Prop := fnExactLengthAsUptoRow.holds Try.pinned (OpenSpec.upto fnExactLengthAsSpec)

/-- 'laws.FnExactSignAt', WHERE WHAT IT READS IS OF BULK AT MOST 1048576: true; the input reads as it did. -/
def fnExactSignAtUptoRow : OpenClaim := { program := "ytlikjclgpmalkaa", sum := "6339068bad8d4ec778df30fc3e70dcb3e5f793ac8a3ed88f4d2745268394db57", func := "loop.example/g00532/laws.FnExactSignAt", spec := "fnExactSignAt", apart := false, narrowed := true }
def FnExactSignAtUptoSaid : Prop := fnExactSignAtUptoRow.holds Try.pinned (OpenSpec.upto fnExactSignAtSpec)

/-- 'laws.FnExactTurnWord', WHERE WHAT IT READS IS OF BULK AT MOST 1048576: true; the input reads as it did. -/
def fnExactTurnWordUptoRow : OpenClaim := { program := "ytlikjclgpmalkaa", sum := "6339068bad8d4ec778df30fc3e70dcb3e5f793ac8a3ed88f4d2745268394db57", func := "loop.example/g00532/laws.FnExactTurnWord", spec := "fnExactTurnWord", apart := false, narrowed := true }
def FnExactTurnWordUptoSaid : Prop := fnExactTurnWordUptoRow.holds Try.pinned (OpenSpec.upto fnExactTurnWordSpec)

/-- 'laws.FnExactNextStart', WHERE WHAT IT READS IS OF BULK AT MOST 1048576: true; the input reads as it did. -/
def fnExactNextStartUptoRow : OpenClaim := { program := "ytlikjclgpmalkaa", sum := "6339068bad8d4ec778df30fc3e70dcb3e5f793ac8a3ed88f4d2745268394db57", func := "loop.example/g00532/laws.FnExactNextStart", spec := "fnExactNextStart", apart := false, narrowed := true }
def FnExactNextStartUptoSaid : Prop := fnExactNextStartUptoRow.holds Try.pinned (OpenSpec.upto fnExactNextStartSpec)

/-- 'laws.FnExactRuneBytes', WHERE WHAT IT READS IS OF BULK AT MOST 1048576: true; the input reads as it did. -/
def fnExactRuneBytesUptoRow : OpenClaim := { program := "ytlikjclgpmalkaa", sum := "6339068bad8d4ec778df30fc3e70dcb3e5f793ac8a3ed88f4d2745268394db57", func := "loop.example/g00532/laws.FnExactRuneBytes", spec := "fnExactRuneBytes", apart := false, narrowed := true }
def FnExactRuneBytesUptoSaid : Prop := fnExactRuneBytesUptoRow.holds Try.pinned (OpenSpec.upto fnExactRuneBytesSpec)

/-- 'laws.FnExactHexOf', WHERE WHAT IT READS IS OF BULK AT MOST 1048576: true; the input reads as it did. -/
def fnExactHexOfUptoRow : OpenClaim := { program := "ytlikjclgpmalkaa", sum := "6339068bad8d4ec778df30fc3e70dcb3e5f793ac8a3ed88f4d2745268394db57", func := "loop.example/g00532/laws.FnExactHexOf", spec := "fnExactHexOf", inPlace := ["internal/abi.NoEscape"], apart := false, narrowed := true }
def FnExactHexOfUptoSaid : Prop := fnExactHexOfUptoRow.holds Try.pinned (OpenSpec.upto fnExactHexOfSpec)

/-- 'laws.FnExactLinesOf', WHERE WHAT IT READS IS OF BULK AT MOST 1048576: true; the input reads as it did. -/
def fnExactLinesOfUptoRow : OpenClaim := { program := "ytlikjclgpmalkaa", sum := "6339068bad8d4ec778df30fc3e70dcb3e5f793ac8a3ed88f4d2745268394db57", func := "loop.example/g00532/laws.FnExactLinesOf", spec := "fnExactLinesOf", apart := false, narrowed := true }
def FnExactLinesOfUptoSaid : Prop := fnExactLinesOfUptoRow.holds Try.pinned (OpenSpec.upto fnExactLinesOfSpec)

/-- 'laws.FnExactBothEuclid', WHERE WHAT IT READS IS OF BULK AT MOST 1048576: true; the input reads as it did. -/
def fnExactBothEuclidUptoRow : OpenClaim := { program := "ytlikjclgpmalkaa", sum := "6339068bad8d4ec778df30fc3e70dcb3e5f793ac8a3ed88f4d2745268394db57", func := "loop.example/g00532/laws.FnExactBothEuclid", spec := "fnExactBothEuclid", apart := false, narrowed := true }
def FnExactBothEuclidUptoSaid : Prop := fnExactBothEuclidUptoRow.holds Try.pinned (OpenSpec.upto fnExactBothEuclidSpec)

/-- 'laws.FnExactIsKey', WHERE WHAT IT READS IS OF BULK AT MOST 1048576: true; the input reads as it did. -/
def fnExactIsKeyUptoRow : OpenClaim := { program := "ytlikjclgpmalkaa", sum := "6339068bad8d4ec778df30fc3e70dcb3e5f793ac8a3ed88f4d2745268394db57", func := "loop.example/g00532/laws.FnExactIsKey", spec := "fnExactIsKey", apart := false, narrowed := true }
def FnExactIsKeyUptoSaid : Prop := fnExactIsKeyUptoRow.holds Try.pinned (OpenSpec.upto fnExactIsKeySpec)

end Rows
end Go.Proofs.Ytlikjclgpmalkaa
