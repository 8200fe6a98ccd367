/-
  DERIVED. GIVEN WITH THE SEED: THE CARDS: each row of YtcomppiglhibkaaDoorRows.lean that lists a variable, with what it lists TIED to the program's text (the seventh form; the later family's looks); each row that meets fmt, with fmt's text TOLD by the authors' own Lean function (tested against real Go, not proved from fmt's source: count such statements apart). THE CARD IS WHAT COUNTS. Prove the row's statement (the work); the ties are given (YtcomppiglhibkaaDoorTie.lean); close each card by the builder's one call (the guide's Derived/Test/ToyasCard.lean, 'card_holds'). Laid BY PROGRAM, IN A SANDBOX (cutbox-door.mjs). By AI agents, Wed Nov 11 2026. No macro, syntax, notation, axiom, sorry.
-/
import Derived.Test.YtcomppiglhibkaaDoorRows
import GoSem.ClaimSeven
namespace Go.Proofs.YtcomppiglhibkaaDoor
namespace Rows

/-- THE TIED CARD OF 'laws.FnAddCostPass'. -/
def fnAddCostPassCard : Claim7 := { stood := { row := fnAddCostPassRow, standIns := [], harness := (true, "5cfa49845353c11aab460d9f60f3f0a5a9cee2a5924d812c5f1dda13cc09cc95"), looks := true }, kinds := [], alts := [], goes := true, laidByText := true, laidKinds := [.sentinel], laidTests := true, laidLooks := .later }
def FnAddCostPassCardSaid : Prop := Claim7.holds Tryd.pinned (.plain (OpenSpec.ofChange fnAddCostPassSpec)) fnAddCostPassCard

/-- THE TIED CARD OF 'laws.FnChainPutLate'. -/
def fnChainPutLateCard : Claim7 := { stood := { row := fnChainPutLateRow, standIns := [], harness := (true, "5cfa49845353c11aab460d9f60f3f0a5a9cee2a5924d812c5f1dda13cc09cc95"), looks := true }, kinds := [], alts := [], goes := true, laidByText := true, laidKinds := [.sentinel], laidTests := true, laidLooks := .later }
def FnChainPutLateCardSaid : Prop := Claim7.holds Tryd.pinned (.plain (OpenSpec.ofChange fnChainPutLateSpec)) fnChainPutLateCard

/-- THE SECOND FORM's CARD OF 'laws.FnAddCostPass'. -/
def fnAddCostPassUptoCard : Claim7 := { stood := { row := fnAddCostPassUptoRow, standIns := [], harness := (true, "5cfa49845353c11aab460d9f60f3f0a5a9cee2a5924d812c5f1dda13cc09cc95"), looks := true }, kinds := [], alts := [], goes := true, laidByText := true, laidKinds := [.sentinel], laidTests := true, laidLooks := .later }
def FnAddCostPassUptoCardSaid : Prop := Claim7.holds Tryd.pinned (.plain (OpenSpec.upto fnAddCostPassSpec)) fnAddCostPassUptoCard

/-- THE SECOND FORM's CARD OF 'laws.FnChainPutLate'. -/
def fnChainPutLateUptoCard : Claim7 := { stood := { row := fnChainPutLateUptoRow, standIns := [], harness := (true, "5cfa49845353c11aab460d9f60f3f0a5a9cee2a5924d812c5f1dda13cc09cc95"), looks := true }, kinds := [], alts := [], goes := true, laidByText := true, laidKinds := [.sentinel], laidTests := true, laidLooks := .later }
def FnChainPutLateUptoCardSaid : Prop := Claim7.holds Tryd.pinned (.plain (OpenSpec.upto fnChainPutLateSpec)) fnChainPutLateUptoCard
end Rows
end Go.Proofs.YtcomppiglhibkaaDoor
