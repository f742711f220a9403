/-
  DERIVED. GIVEN WITH THE SEED: THE CARDS: each row of YtabimfpjdcggaaaDoorRows.lean that lists a variable, with what it lists TIED to the program's text (the seventh form; the later family's looks); each row that meets fmt, with fmt's text TOLD by the authors' own Lean function (tested against real Go, not proved from fmt's source: count such statements apart). THE CARD IS WHAT COUNTS. Prove the row's statement (the work); the ties are given (YtabimfpjdcggaaaDoorTie.lean); close each card by the builder's one call (the guide's Derived/Test/ToyasCard.lean, 'card_holds'). Laid BY PROGRAM, IN A SANDBOX (cutbox-door.mjs). By AI agents, Wed Nov 11 2026. No macro, syntax, notation, axiom, sorry.
-/
import Derived.Test.YtabimfpjdcggaaaDoorRows
import GoSem.ClaimSeven
namespace Go.Proofs.YtabimfpjdcggaaaDoor
namespace Rows

/-- THE TIED CARD OF 'graftagelaw30.IgnoreElsewhere'. -/
def ignoreElsewhereCard : Claim7 := { stood := { row := ignoreElsewhereRow, standIns := [], harness := (true, "b8a8ce38f13b044790be72501e2c1f0372f96320ee7bbadcad2e986706035b05"), looks := false }, kinds := [], alts := [], laidByText := true, laidKinds := [.data, .pinned], laidTests := true, laidLooks := .later }
def IgnoreElsewhereCardSaid : Prop := Claim7.holds Tryd.pinned (.plain (OpenSpec.ofChange ignoreElsewhereSpec)) ignoreElsewhereCard

/-- THE TIED CARD OF 'graftagelaw30.IgnoreBelow'. -/
def ignoreBelowCard : Claim7 := { stood := { row := ignoreBelowRow, standIns := [], harness := (true, "b8a8ce38f13b044790be72501e2c1f0372f96320ee7bbadcad2e986706035b05"), looks := false }, kinds := [], alts := [], laidByText := true, laidKinds := [.data, .pinned], laidTests := true, laidLooks := .later }
def IgnoreBelowCardSaid : Prop := Claim7.holds Tryd.pinned (.plain (OpenSpec.ofChange ignoreBelowSpec)) ignoreBelowCard

/-- THE SECOND FORM's CARD OF 'graftagelaw30.IgnoreElsewhere'. -/
def ignoreElsewhereUptoCard : Claim7 := { stood := { row := ignoreElsewhereUptoRow, standIns := [], harness := (true, "b8a8ce38f13b044790be72501e2c1f0372f96320ee7bbadcad2e986706035b05"), looks := false }, kinds := [], alts := [], laidByText := true, laidKinds := [.data, .pinned], laidTests := true, laidLooks := .later }
def IgnoreElsewhereUptoCardSaid : Prop := Claim7.holds Tryd.pinned (.plain (OpenSpec.upto ignoreElsewhereSpec)) ignoreElsewhereUptoCard

/-- THE SECOND FORM's CARD OF 'graftagelaw30.IgnoreBelow'. -/
def ignoreBelowUptoCard : Claim7 := { stood := { row := ignoreBelowUptoRow, standIns := [], harness := (true, "b8a8ce38f13b044790be72501e2c1f0372f96320ee7bbadcad2e986706035b05"), looks := false }, kinds := [], alts := [], laidByText := true, laidKinds := [.data, .pinned], laidTests := true, laidLooks := .later }
def IgnoreBelowUptoCardSaid : Prop := Claim7.holds Tryd.pinned (.plain (OpenSpec.upto ignoreBelowSpec)) ignoreBelowUptoCard
end Rows
end Go.Proofs.YtabimfpjdcggaaaDoor
