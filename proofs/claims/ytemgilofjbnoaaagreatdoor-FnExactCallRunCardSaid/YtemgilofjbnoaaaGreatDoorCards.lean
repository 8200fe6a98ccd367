/-
  DERIVED. GIVEN WITH THE SEED: THE CARDS: each row of YtemgilofjbnoaaaGreatDoorRows.lean that lists a variable, with what it lists TIED to the program's text (the seventh form; the later family's looks); each row that meets fmt, with fmt's text TOLD by the authors' own Lean function (tested against real Go, not proved from fmt's source: count such statements apart). THE CARD IS WHAT COUNTS. Prove the row's statement (the work); the ties are given (YtemgilofjbnoaaaGreatDoorTie.lean); close each card by the builder's one call (the guide's Derived/Test/ToyasCard.lean, 'card_holds'). Laid BY PROGRAM, IN A SANDBOX (cutbox-door.mjs). By AI agents, Wed Nov 11 2026. No macro, syntax, notation, axiom, sorry.
-/
import Derived.Test.YtemgilofjbnoaaaGreatDoorRows
import GoSem.ClaimSeven
namespace Go.Proofs.YtemgilofjbnoaaaGreatDoor
namespace Rows

/-- THE TIED CARD OF 'laws.FnCallOthers'. -/
def fnCallOthersCard : Claim7 := { stood := { row := fnCallOthersRow, standIns := [], harness := (true, "5c49fd62a761bf1a6e5a2cb7e4e28362c182853f12ad6155cb4b453f18f7e85e"), looks := true }, kinds := [], alts := [], goes := true, laidByText := true, laidKinds := [.sentinel], laidTests := true, laidLooks := .later }
def FnCallOthersCardSaid : Prop := Claim7.holds Tryz.pinned (.plain (OpenSpec.ofChange fnCallOthersSpec)) fnCallOthersCard

/-- THE TIED CARD OF 'laws.FnCallRead'. -/
def fnCallReadCard : Claim7 := { stood := { row := fnCallReadRow, standIns := [], harness := (true, "5c49fd62a761bf1a6e5a2cb7e4e28362c182853f12ad6155cb4b453f18f7e85e"), looks := true }, kinds := [], alts := [], goes := true, laidByText := true, laidKinds := [.sentinel], laidTests := true, laidLooks := .later }
def FnCallReadCardSaid : Prop := Claim7.holds Tryz.pinned (.plain (OpenSpec.ofChange fnCallReadSpec)) fnCallReadCard

/-- THE TIED CARD OF 'laws.FnExactCallRun'. -/
def fnExactCallRunCard : Claim7 := { stood := { row := fnExactCallRunRow, standIns := [], harness := (true, "5c49fd62a761bf1a6e5a2cb7e4e28362c182853f12ad6155cb4b453f18f7e85e"), looks := true }, kinds := [], alts := [], goes := true, laidByText := true, laidKinds := [.sentinel], laidTests := true, laidLooks := .later }
def FnExactCallRunCardSaid : Prop := Claim7.holds Tryz.pinned (.plain (OpenSpec.ofChange fnExactCallRunSpec)) fnExactCallRunCard

/-- THE TIED CARD OF 'laws.FnCall'. -/
def fnCallCard : Claim7 := { stood := { row := fnCallRow, standIns := [], harness := (true, "5c49fd62a761bf1a6e5a2cb7e4e28362c182853f12ad6155cb4b453f18f7e85e"), looks := true }, kinds := [], alts := [], goes := true, laidByText := true, laidKinds := [.sentinel], laidTests := true, laidLooks := .later }
def FnCallCardSaid : Prop := Claim7.holds Tryz.pinned (.plain (OpenSpec.ofChange fnCallSpec)) fnCallCard

/-- THE TIED CARD OF 'laws.FnCallNew'. -/
def fnCallNewCard : Claim7 := { stood := { row := fnCallNewRow, standIns := [], harness := (true, "5c49fd62a761bf1a6e5a2cb7e4e28362c182853f12ad6155cb4b453f18f7e85e"), looks := true }, kinds := [], alts := [], goes := true, laidByText := true, laidKinds := [.sentinel], laidTests := true, laidLooks := .later }
def FnCallNewCardSaid : Prop := Claim7.holds Tryz.pinned (.plain (OpenSpec.ofChange fnCallNewSpec)) fnCallNewCard

/-- THE TIED CARD OF 'laws.FnCallOld'. -/
def fnCallOldCard : Claim7 := { stood := { row := fnCallOldRow, standIns := [], harness := (true, "5c49fd62a761bf1a6e5a2cb7e4e28362c182853f12ad6155cb4b453f18f7e85e"), looks := true }, kinds := [], alts := [], goes := true, laidByText := true, laidKinds := [.sentinel], laidTests := true, laidLooks := .later }
def FnCallOldCardSaid : Prop := Claim7.holds Tryz.pinned (.plain (OpenSpec.ofChange fnCallOldSpec)) fnCallOldCard

/-- THE SECOND FORM's CARD OF 'laws.FnCallOthers'. -/
def fnCallOthersUptoCard : Claim7 := { stood := { row := fnCallOthersUptoRow, standIns := [], harness := (true, "5c49fd62a761bf1a6e5a2cb7e4e28362c182853f12ad6155cb4b453f18f7e85e"), looks := true }, kinds := [], alts := [], goes := true, laidByText := true, laidKinds := [.sentinel], laidTests := true, laidLooks := .later }
def FnCallOthersUptoCardSaid : Prop := Claim7.holds Tryz.pinned (.plain (OpenSpec.upto fnCallOthersSpec)) fnCallOthersUptoCard

/-- THE SECOND FORM's CARD OF 'laws.FnCallRead'. -/
def fnCallReadUptoCard : Claim7 := { stood := { row := fnCallReadUptoRow, standIns := [], harness := (true, "5c49fd62a761bf1a6e5a2cb7e4e28362c182853f12ad6155cb4b453f18f7e85e"), looks := true }, kinds := [], alts := [], goes := true, laidByText := true, laidKinds := [.sentinel], laidTests := true, laidLooks := .later }
def FnCallReadUptoCardSaid : Prop := Claim7.holds Tryz.pinned (.plain (OpenSpec.upto fnCallReadSpec)) fnCallReadUptoCard

/-- THE SECOND FORM's CARD OF 'laws.FnExactCallRun'. -/
def fnExactCallRunUptoCard : Claim7 := { stood := { row := fnExactCallRunUptoRow, standIns := [], harness := (true, "5c49fd62a761bf1a6e5a2cb7e4e28362c182853f12ad6155cb4b453f18f7e85e"), looks := true }, kinds := [], alts := [], goes := true, laidByText := true, laidKinds := [.sentinel], laidTests := true, laidLooks := .later }
def FnExactCallRunUptoCardSaid : Prop := Claim7.holds Tryz.pinned (.plain (OpenSpec.upto fnExactCallRunSpec)) fnExactCallRunUptoCard

/-- THE SECOND FORM's CARD OF 'laws.FnCall'. -/
def fnCallUptoCard : Claim7 := { stood := { row := fnCallUptoRow, standIns := [], harness := (true, "5c49fd62a761bf1a6e5a2cb7e4e28362c182853f12ad6155cb4b453f18f7e85e"), looks := true }, kinds := [], alts := [], goes := true, laidByText := true, laidKinds := [.sentinel], laidTests := true, laidLooks := .later }
def FnCallUptoCardSaid : Prop := Claim7.holds Tryz.pinned (.plain (OpenSpec.upto fnCallSpec)) fnCallUptoCard

/-- THE SECOND FORM's CARD OF 'laws.FnCallNew'. -/
def fnCallNewUptoCard : Claim7 := { stood := { row := fnCallNewUptoRow, standIns := [], harness := (true, "5c49fd62a761bf1a6e5a2cb7e4e28362c182853f12ad6155cb4b453f18f7e85e"), looks := true }, kinds := [], alts := [], goes := true, laidByText := true, laidKinds := [.sentinel], laidTests := true, laidLooks := .later }
def FnCallNewUptoCardSaid : Prop := Claim7.holds Tryz.pinned (.plain (OpenSpec.upto fnCallNewSpec)) fnCallNewUptoCard

/-- THE SECOND FORM's CARD OF 'laws.FnCallOld'. -/
def fnCallOldUptoCard : Claim7 := { stood := { row := fnCallOldUptoRow, standIns := [], harness := (true, "5c49fd62a761bf1a6e5a2cb7e4e28362c182853f12ad6155cb4b453f18f7e85e"), looks := true }, kinds := [], alts := [], goes := true, laidByText := true, laidKinds := [.sentinel], laidTests := true, laidLooks := .later }
def FnCallOldUptoCardSaid : Prop := Claim7.holds Tryz.pinned (.plain (OpenSpec.upto fnCallOldSpec)) fnCallOldUptoCard
end Rows
end Go.Proofs.YtemgilofjbnoaaaGreatDoor
