/-
  DERIVED. GIVEN WITH THE SEED: THE CARDS: each row of YtmajmplhojlhbaaDoorRows.lean that lists a variable, with what it lists TIED to the program's text (the seventh form; the later family's looks); each row that meets fmt, with fmt's text TOLD by the authors' own Lean function (tested against real Go, not proved from fmt's source: count such statements apart). THE CARD IS WHAT COUNTS. Prove the row's statement (the work); the ties are given (YtmajmplhojlhbaaDoorTie.lean); close each card by the builder's one call (the guide's Derived/Test/ToyasCard.lean, 'card_holds'). Laid BY PROGRAM, IN A SANDBOX (cutbox-door.mjs). By AI agents, Wed Nov 11 2026. No macro, syntax, notation, axiom, sorry.
-/
import Derived.Test.YtmajmplhojlhbaaDoorRows
import GoSem.ClaimSeven
namespace Go.Proofs.YtmajmplhojlhbaaDoor
namespace Rows

/-- THE TIED CARD OF 'laws.FnExactOfSigns'. -/
def fnExactOfSignsCard : Claim7 := { stood := { row := fnExactOfSignsRow, standIns := [], harness := (true, "30d87a1afd8c0fc4a052013ed3aa762ee41d2233e1670bb94ff28429b7942f31"), looks := true }, kinds := [], alts := [], laidByText := true, laidKinds := [.data, .pinned], laidTests := true, laidLooks := .later }
def FnExactOfSignsCardSaid : Prop := Claim7.holds Tryd.pinned (.plain (OpenSpec.ofChange fnExactOfSignsSpec)) fnExactOfSignsCard

/-- THE TIED CARD OF 'laws.FnExactOfHex'. -/
def fnExactOfHexCard : Claim7 := { stood := { row := fnExactOfHexRow, standIns := [], harness := (true, "30d87a1afd8c0fc4a052013ed3aa762ee41d2233e1670bb94ff28429b7942f31"), looks := true }, kinds := [], alts := [], laidByText := true, laidKinds := [.data, .data, .data, .sentinel, .sentinel], laidTests := true, laidLooks := .later }
def FnExactOfHexCardSaid : Prop := Claim7.holds Tryd.pinned (.plain (OpenSpec.ofChange fnExactOfHexSpec)) fnExactOfHexCard

/-- THE TIED CARD OF 'laws.FnExactOfArmor'. -/
def fnExactOfArmorCard : Claim7 := { stood := { row := fnExactOfArmorRow, standIns := [], harness := (true, "30d87a1afd8c0fc4a052013ed3aa762ee41d2233e1670bb94ff28429b7942f31"), looks := true }, kinds := [], alts := [], laidByText := true, laidKinds := [.data, .pinned], laidTests := true, laidLooks := .later }
def FnExactOfArmorCardSaid : Prop := Claim7.holds Tryd.pinned (.plain (OpenSpec.ofChange fnExactOfArmorSpec)) fnExactOfArmorCard

/-- THE SECOND FORM's CARD OF 'laws.FnExactOfSigns'. -/
def fnExactOfSignsUptoCard : Claim7 := { stood := { row := fnExactOfSignsUptoRow, standIns := [], harness := (true, "30d87a1afd8c0fc4a052013ed3aa762ee41d2233e1670bb94ff28429b7942f31"), looks := true }, kinds := [], alts := [], laidByText := true, laidKinds := [.data, .pinned], laidTests := true, laidLooks := .later }
def FnExactOfSignsUptoCardSaid : Prop := Claim7.holds Tryd.pinned (.plain (OpenSpec.upto fnExactOfSignsSpec)) fnExactOfSignsUptoCard

/-- THE SECOND FORM's CARD OF 'laws.FnExactOfHex'. -/
def fnExactOfHexUptoCard : Claim7 := { stood := { row := fnExactOfHexUptoRow, standIns := [], harness := (true, "30d87a1afd8c0fc4a052013ed3aa762ee41d2233e1670bb94ff28429b7942f31"), looks := true }, kinds := [], alts := [], laidByText := true, laidKinds := [.data, .data, .data, .sentinel, .sentinel], laidTests := true, laidLooks := .later }
def FnExactOfHexUptoCardSaid : Prop := Claim7.holds Tryd.pinned (.plain (OpenSpec.upto fnExactOfHexSpec)) fnExactOfHexUptoCard

/-- THE SECOND FORM's CARD OF 'laws.FnExactOfArmor'. -/
def fnExactOfArmorUptoCard : Claim7 := { stood := { row := fnExactOfArmorUptoRow, standIns := [], harness := (true, "30d87a1afd8c0fc4a052013ed3aa762ee41d2233e1670bb94ff28429b7942f31"), looks := true }, kinds := [], alts := [], laidByText := true, laidKinds := [.data, .pinned], laidTests := true, laidLooks := .later }
def FnExactOfArmorUptoCardSaid : Prop := Claim7.holds Tryd.pinned (.plain (OpenSpec.upto fnExactOfArmorSpec)) fnExactOfArmorUptoCard
end Rows
end Go.Proofs.YtmajmplhojlhbaaDoor
