/-
  DERIVED. GIVEN WITH THE SEED: THE CARDS: each row of YtdeihieblljfcaaDoorRows.lean that lists a variable, with what it lists TIED to the program's text (the seventh form; the later family's looks); each row that meets fmt, with fmt's text TOLD by the authors' own Lean function (tested against real Go, not proved from fmt's source: count such statements apart). THE CARD IS WHAT COUNTS. Prove the row's statement (the work); the ties are given (YtdeihieblljfcaaDoorTie.lean); close each card by the builder's one call (the guide's Derived/Test/ToyasCard.lean, 'card_holds'). Laid BY PROGRAM, IN A SANDBOX (cutbox-door.mjs). By AI agents, Wed Nov 11 2026. No macro, syntax, notation, axiom, sorry.
-/
import Derived.Test.YtdeihieblljfcaaDoorRows
import GoSem.ClaimSeven
namespace Go.Proofs.YtdeihieblljfcaaDoor
namespace Rows

/-- THE TIED CARD OF 'sedimentlaw14.ManifestNames'. -/
def manifestNamesCard : Claim7 := { stood := { row := manifestNamesRow, standIns := [], harness := (true, "cceed584ace6a0f5c759400259b95fa2c568b81f2e4994a28554ffb4cc0ab4ee"), looks := true }, kinds := [], alts := [], laidByText := true, laidKinds := [.data, .data, .data, .sentinel, .sentinel], laidTests := true, laidLooks := .later }
def ManifestNamesCardSaid : Prop := Claim7.holds Tryd.pinned (.plain (OpenSpec.ofChange manifestNamesSpec)) manifestNamesCard

/-- THE TIED CARD OF 'sedimentlaw12.TablesNames'. -/
def tablesNamesCard : Claim7 := { stood := { row := tablesNamesRow, standIns := [], harness := (true, "cceed584ace6a0f5c759400259b95fa2c568b81f2e4994a28554ffb4cc0ab4ee"), looks := true }, kinds := [], alts := [], laidByText := true, laidKinds := [.data, .data, .data, .sentinel, .sentinel], laidTests := true, laidLooks := .later }
def TablesNamesCardSaid : Prop := Claim7.holds Tryd.pinned (.plain (OpenSpec.ofChange tablesNamesSpec)) tablesNamesCard

/-- THE TIED CARD OF 'sedimentlaw30.ShellParses'. -/
def shellParsesCard : Claim7 := { stood := { row := shellParsesRow, standIns := [], harness := (true, "cceed584ace6a0f5c759400259b95fa2c568b81f2e4994a28554ffb4cc0ab4ee"), looks := true }, kinds := [], alts := [], laidByText := true, laidKinds := [.data, .data, .data, .data, .sentinel, .sentinel, .pinned], laidTests := true, laidLooks := .later }
def ShellParsesCardSaid : Prop := Claim7.holds Tryd.pinned (.plain (OpenSpec.ofChange shellParsesSpec)) shellParsesCard

/-- THE SECOND FORM's CARD OF 'sedimentlaw14.ManifestNames'. -/
def manifestNamesUptoCard : Claim7 := { stood := { row := manifestNamesUptoRow, standIns := [], harness := (true, "cceed584ace6a0f5c759400259b95fa2c568b81f2e4994a28554ffb4cc0ab4ee"), looks := true }, kinds := [], alts := [], laidByText := true, laidKinds := [.data, .data, .data, .sentinel, .sentinel], laidTests := true, laidLooks := .later }
def ManifestNamesUptoCardSaid : Prop := Claim7.holds Tryd.pinned (.plain (OpenSpec.upto manifestNamesSpec)) manifestNamesUptoCard

/-- THE SECOND FORM's CARD OF 'sedimentlaw12.TablesNames'. -/
def tablesNamesUptoCard : Claim7 := { stood := { row := tablesNamesUptoRow, standIns := [], harness := (true, "cceed584ace6a0f5c759400259b95fa2c568b81f2e4994a28554ffb4cc0ab4ee"), looks := true }, kinds := [], alts := [], laidByText := true, laidKinds := [.data, .data, .data, .sentinel, .sentinel], laidTests := true, laidLooks := .later }
def TablesNamesUptoCardSaid : Prop := Claim7.holds Tryd.pinned (.plain (OpenSpec.upto tablesNamesSpec)) tablesNamesUptoCard

/-- THE SECOND FORM's CARD OF 'sedimentlaw30.ShellParses'. -/
def shellParsesUptoCard : Claim7 := { stood := { row := shellParsesUptoRow, standIns := [], harness := (true, "cceed584ace6a0f5c759400259b95fa2c568b81f2e4994a28554ffb4cc0ab4ee"), looks := true }, kinds := [], alts := [], laidByText := true, laidKinds := [.data, .data, .data, .data, .sentinel, .sentinel, .pinned], laidTests := true, laidLooks := .later }
def ShellParsesUptoCardSaid : Prop := Claim7.holds Tryd.pinned (.plain (OpenSpec.upto shellParsesSpec)) shellParsesUptoCard
end Rows
end Go.Proofs.YtdeihieblljfcaaDoor
