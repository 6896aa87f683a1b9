/-
  DERIVED. GIVEN WITH THE SEED: THE CARDS: each row of YtlaliacfonfflaaDoorRows.lean that lists a variable, with what it lists TIED to the program's text (the seventh form; the later family's looks); each row that meets fmt, with fmt's text TOLD by the authors' own Lean function (tested against real Go, not proved from fmt's source: count such statements apart). THE CARD IS WHAT COUNTS. Prove the row's statement (the work); the ties are given (YtlaliacfonfflaaDoorTie.lean); close each card by the builder's one call (the guide's Derived/Test/ToyasCard.lean, 'card_holds'). Laid BY PROGRAM, IN A SANDBOX (cutbox-door.mjs). By AI agents, Wed Nov 11 2026. No macro, syntax, notation, axiom, sorry.
-/
import Derived.Test.YtlaliacfonfflaaDoorRows
import GoSem.ClaimSeven
namespace Go.Proofs.YtlaliacfonfflaaDoor
namespace Rows

/-- THE TIED CARD OF 'laws.FnExactShowNat'. -/
def fnExactShowNatCard : Claim7 := { stood := { row := fnExactShowNatRow, standIns := [], harness := (true, "01ee2978acb47d4563605f0909b6e22e72ab38e75f2f66912dbb8863897e0ceb"), looks := false }, kinds := [], alts := [], laidByText := true, laidKinds := [.data, .data, .data], laidTests := true, laidLooks := .later }
def FnExactShowNatCardSaid : Prop := Claim7.holds Tryd.pinned (.plain (OpenSpec.ofChange fnExactShowNatSpec)) fnExactShowNatCard

/-- THE TIED CARD OF 'laws.FnNatShown'. -/
def fnNatShownCard : Claim7 := { stood := { row := fnNatShownRow, standIns := [], harness := (true, "01ee2978acb47d4563605f0909b6e22e72ab38e75f2f66912dbb8863897e0ceb"), looks := false }, kinds := [], alts := [], laidByText := true, laidKinds := [.data, .data, .data], laidTests := true, laidLooks := .later }
def FnNatShownCardSaid : Prop := Claim7.holds Tryd.pinned (.plain (OpenSpec.ofChange fnNatShownSpec)) fnNatShownCard

/-- THE SECOND FORM's CARD OF 'laws.FnExactShowNat'. -/
def fnExactShowNatUptoCard : Claim7 := { stood := { row := fnExactShowNatUptoRow, standIns := [], harness := (true, "01ee2978acb47d4563605f0909b6e22e72ab38e75f2f66912dbb8863897e0ceb"), looks := false }, kinds := [], alts := [], laidByText := true, laidKinds := [.data, .data, .data], laidTests := true, laidLooks := .later }
def FnExactShowNatUptoCardSaid : Prop := Claim7.holds Tryd.pinned (.plain (OpenSpec.upto fnExactShowNatSpec)) fnExactShowNatUptoCard

/-- THE SECOND FORM's CARD OF 'laws.FnNatShown'. -/
def fnNatShownUptoCard : Claim7 := { stood := { row := fnNatShownUptoRow, standIns := [], harness := (true, "01ee2978acb47d4563605f0909b6e22e72ab38e75f2f66912dbb8863897e0ceb"), looks := false }, kinds := [], alts := [], laidByText := true, laidKinds := [.data, .data, .data], laidTests := true, laidLooks := .later }
def FnNatShownUptoCardSaid : Prop := Claim7.holds Tryd.pinned (.plain (OpenSpec.upto fnNatShownSpec)) fnNatShownUptoCard
end Rows
end Go.Proofs.YtlaliacfonfflaaDoor
