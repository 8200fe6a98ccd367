/-
  DERIVED. GIVEN WITH THE SEED: THE CARDS: each row of YtcomppiglhibkaaGreatDoorRows.lean that lists a variable, with what it lists TIED to the program's text (the seventh form; the later family's looks); each row that meets fmt, with fmt's text TOLD by the authors' own Lean function (tested against real Go, not proved from fmt's source: count such statements apart). THE CARD IS WHAT COUNTS. Prove the row's statement (the work); the ties are given (YtcomppiglhibkaaGreatDoorTie.lean); close each card by the builder's one call (the guide's Derived/Test/ToyasCard.lean, 'card_holds'). Laid BY PROGRAM, IN A SANDBOX (cutbox-door.mjs). By AI agents, Wed Nov 11 2026. No macro, syntax, notation, axiom, sorry.
-/
import Derived.Test.YtcomppiglhibkaaGreatDoorRows
import GoSem.ClaimSeven
namespace Go.Proofs.YtcomppiglhibkaaGreatDoor
namespace Rows

/-- THE TIED CARD OF 'laws.FnChainPut'. -/
def fnChainPutCard : Claim7 := { stood := { row := fnChainPutRow, standIns := [], harness := (true, "3776374591ea6a093a9db3da78dd783d78ed3bc5d9f6c301bac9af1aea30462f"), looks := true }, kinds := [], alts := [], goes := true, laidByText := true, laidKinds := [.sentinel], laidTests := true, laidLooks := .later }
def FnChainPutCardSaid : Prop := Claim7.holds Tryz.pinned (.plain (OpenSpec.ofChange fnChainPutSpec)) fnChainPutCard

/-- THE TIED CARD OF 'laws.FnExactChainPut'. -/
def fnExactChainPutCard : Claim7 := { stood := { row := fnExactChainPutRow, standIns := [], harness := (true, "3776374591ea6a093a9db3da78dd783d78ed3bc5d9f6c301bac9af1aea30462f"), looks := true }, kinds := [], alts := [], goes := true, laidByText := true, laidKinds := [.sentinel], laidTests := true, laidLooks := .later }
def FnExactChainPutCardSaid : Prop := Claim7.holds Tryz.pinned (.plain (OpenSpec.ofChange fnExactChainPutSpec)) fnExactChainPutCard

/-- THE SECOND FORM's CARD OF 'laws.FnChainPut'. -/
def fnChainPutUptoCard : Claim7 := { stood := { row := fnChainPutUptoRow, standIns := [], harness := (true, "3776374591ea6a093a9db3da78dd783d78ed3bc5d9f6c301bac9af1aea30462f"), looks := true }, kinds := [], alts := [], goes := true, laidByText := true, laidKinds := [.sentinel], laidTests := true, laidLooks := .later }
def FnChainPutUptoCardSaid : Prop := Claim7.holds Tryz.pinned (.plain (OpenSpec.upto fnChainPutSpec)) fnChainPutUptoCard

/-- THE SECOND FORM's CARD OF 'laws.FnExactChainPut'. -/
def fnExactChainPutUptoCard : Claim7 := { stood := { row := fnExactChainPutUptoRow, standIns := [], harness := (true, "3776374591ea6a093a9db3da78dd783d78ed3bc5d9f6c301bac9af1aea30462f"), looks := true }, kinds := [], alts := [], goes := true, laidByText := true, laidKinds := [.sentinel], laidTests := true, laidLooks := .later }
def FnExactChainPutUptoCardSaid : Prop := Claim7.holds Tryz.pinned (.plain (OpenSpec.upto fnExactChainPutSpec)) fnExactChainPutUptoCard
end Rows
end Go.Proofs.YtcomppiglhibkaaGreatDoor
