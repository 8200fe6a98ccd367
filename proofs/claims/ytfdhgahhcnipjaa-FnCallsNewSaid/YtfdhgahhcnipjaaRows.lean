/-
  No cell of these rows narrows 'for every input' (looked for: loops, veiled, ifaces, maps, wideKeys, modest, calm, conditions, laid).
  DERIVED. THE GIVEN ROWS OF THIS SEAT. 13 by the template 'for every input the law returns true; each argument reads behind the call as it read before'; 0 by the template 'total and deterministic' (their statements: YtfdhgahhcnipjaaTotals.lean).
  GIVEN WITH THE SEED: the statements are not yours to turn. If you find one false, say at which input.
  Laid BY PROGRAM, IN A SANDBOX (cutbox-rows.mjs): the forced cells as the released guide's own fill.sh prints them over the translation 1e755ebbf8bfecaf… (all of the seat's roots in one cut). By AI agents, Wed Nov 11 2026. No macro, syntax, notation, axiom, sorry.
-/
import Derived.Test.YtfdhgahhcnipjaaChecked
import GoSem.Claim
import GoSem.ClaimJoined
import GoSem.ClaimMapViews
import Derived.JoinedTies
import Derived.KernelRfl
namespace Go.Proofs.Ytfdhgahhcnipjaa
/- THE CELL 'sum', in the pinned program and in every row, IS THE sha256 OF THE DUMP (.gsa) THAT YtfdhgahhcnipjaaProg.lean LOADS. Nothing in Lean hashes anything: it is a label: what it is worth is what the hold of that sum in a sandbox is worth. -/
noncomputable def Try.pinned : Pinned := { name := "ytfdhgahhcnipjaa", sum := "1e755ebbf8bfecaf46e528cee73dd0c670b63ede7eb81b0a5f6e81648c21590b", checked := Try.checked }
namespace Rows
def none {H : Type} : Left H := { results := [], args := [] }

/-- 'laws.FnCallsPart': WHATEVER THE INPUT: true; the input reads as it did. -/
def fnCallsPartSpec : ChangeSpec := { name := "fnCallsPart", fn := fun _ => fun
  | [d1, d2] => { results := [.lit (.bool true)], args := [d1, d2] }
  | _ => none }
def fnCallsPartRow : OpenClaim := { program := "ytfdhgahhcnipjaa", sum := "1e755ebbf8bfecaf46e528cee73dd0c670b63ede7eb81b0a5f6e81648c21590b", func := "loop.example/chainfiles/laws.FnCallsPart", spec := "fnCallsPart", apart := false }
def FnCallsPartSaid : Prop := fnCallsPartRow.holds Try.pinned (OpenSpec.ofChange fnCallsPartSpec)

/-- ITS FALSE NEIGHBOUR: 'it returns false'. Refute it at one input. -/
def fnCallsPartWrong : ChangeSpec := { name := "fnCallsPart", fn := fun _ => fun
  | [d1, d2] => { results := [.lit (.bool false)], args := [d1, d2] }
  | _ => none }
def FnCallsPartWrongFalsely : Prop := fnCallsPartRow.holds Try.pinned (OpenSpec.ofChange fnCallsPartWrong)

/-- 'laws.FnExactStepsValid': WHATEVER THE INPUT: true; the input reads as it did. -/
def fnExactStepsValidSpec : ChangeSpec := { name := "fnExactStepsValid", fn := fun _ => fun
  | [d] => { results := [.lit (.bool true)], args := [d] }
  | _ => none }
def fnExactStepsValidRow : OpenClaim := { program := "ytfdhgahhcnipjaa", sum := "1e755ebbf8bfecaf46e528cee73dd0c670b63ede7eb81b0a5f6e81648c21590b", func := "loop.example/chainfiles/laws.FnExactStepsValid", spec := "fnExactStepsValid", unfollowed := true, recurses := true, apart := false }
def FnExactStepsValidSaid : Prop := fnExactStepsValidRow.holds Try.pinned (OpenSpec.ofChange fnExactStepsValidSpec)

/-- ITS FALSE NEIGHBOUR: 'it returns false'. Refute it at one input. -/
def fnExactStepsValidWrong : ChangeSpec := { name := "fnExactStepsValid", fn := fun _ => fun
  | [d] => { results := [.lit (.bool false)], args := [d] }
  | _ => none }
def FnExactStepsValidWrongFalsely : Prop := fnExactStepsValidRow.holds Try.pinned (OpenSpec.ofChange fnExactStepsValidWrong)

/-- 'laws.FnStepsPart': WHATEVER THE INPUT: true; the input reads as it did. -/
def fnStepsPartSpec : ChangeSpec := { name := "fnStepsPart", fn := fun _ => fun
  | [d1, d2] => { results := [.lit (.bool true)], args := [d1, d2] }
  | _ => none }
def fnStepsPartRow : OpenClaim := { program := "ytfdhgahhcnipjaa", sum := "1e755ebbf8bfecaf46e528cee73dd0c670b63ede7eb81b0a5f6e81648c21590b", func := "loop.example/chainfiles/laws.FnStepsPart", spec := "fnStepsPart", unfollowed := true, recurses := true, apart := false }
def FnStepsPartSaid : Prop := fnStepsPartRow.holds Try.pinned (OpenSpec.ofChange fnStepsPartSpec)

/-- ITS FALSE NEIGHBOUR: 'it returns false'. Refute it at one input. -/
def fnStepsPartWrong : ChangeSpec := { name := "fnStepsPart", fn := fun _ => fun
  | [d1, d2] => { results := [.lit (.bool false)], args := [d1, d2] }
  | _ => none }
def FnStepsPartWrongFalsely : Prop := fnStepsPartRow.holds Try.pinned (OpenSpec.ofChange fnStepsPartWrong)

/-- 'laws.FnExactCallsValid': WHATEVER THE INPUT: true; the input reads as it did. -/
def fnExactCallsValidSpec : ChangeSpec := { name := "fnExactCallsValid", fn := fun _ => fun
  | [d] => { results := [.lit (.bool true)], args := [d] }
  | _ => none }
def fnExactCallsValidRow : OpenClaim := { program := "ytfdhgahhcnipjaa", sum := "1e755ebbf8bfecaf46e528cee73dd0c670b63ede7eb81b0a5f6e81648c21590b", func := "loop.example/chainfiles/laws.FnExactCallsValid", spec := "fnExactCallsValid", apart := false }
def FnExactCallsValidSaid : Prop := fnExactCallsValidRow.holds Try.pinned (OpenSpec.ofChange fnExactCallsValidSpec)

/-- ITS FALSE NEIGHBOUR: 'it returns false'. Refute it at one input. -/
def fnExactCallsValidWrong : ChangeSpec := { name := "fnExactCallsValid", fn := fun _ => fun
  | [d] => { results := [.lit (.bool false)], args := [d] }
  | _ => none }
def FnExactCallsValidWrongFalsely : Prop := fnExactCallsValidRow.holds Try.pinned (OpenSpec.ofChange fnExactCallsValidWrong)

/-- 'laws.FnCallsNew': WHATEVER THE INPUT: true; the input reads as it did. -/
def fnCallsNewSpec : ChangeSpec := { name := "fnCallsNew", fn := fun _ => fun
  | [d] => { results := [.lit (.bool true)], args := [d] }
  | _ => none }
def fnCallsNewRow : OpenClaim := { program := "ytfdhgahhcnipjaa", sum := "1e755ebbf8bfecaf46e528cee73dd0c670b63ede7eb81b0a5f6e81648c21590b", func := "loop.example/chainfiles/laws.FnCallsNew", spec := "fnCallsNew", apart := false }
def FnCallsNewSaid : Prop := fnCallsNewRow.holds Try.pinned (OpenSpec.ofChange fnCallsNewSpec)

/-- ITS FALSE NEIGHBOUR: 'it returns false'. Refute it at one input. -/
def fnCallsNewWrong : ChangeSpec := { name := "fnCallsNew", fn := fun _ => fun
  | [d] => { results := [.lit (.bool false)], args := [d] }
  | _ => none }
def FnCallsNewWrongFalsely : Prop := fnCallsNewRow.holds Try.pinned (OpenSpec.ofChange fnCallsNewWrong)

/-- 'laws.FnExactCallsNew': WHATEVER THE INPUT: true; the input reads as it did. -/
def fnExactCallsNewSpec : ChangeSpec := { name := "fnExactCallsNew", fn := fun _ => fun
  | [d1, d2, d3] => { results := [.lit (.bool true)], args := [d1, d2, d3] }
  | _ => none }
def fnExactCallsNewRow : OpenClaim := { program := "ytfdhgahhcnipjaa", sum := "1e755ebbf8bfecaf46e528cee73dd0c670b63ede7eb81b0a5f6e81648c21590b", func := "loop.example/chainfiles/laws.FnExactCallsNew", spec := "fnExactCallsNew", apart := false }
def FnExactCallsNewSaid : Prop := fnExactCallsNewRow.holds Try.pinned (OpenSpec.ofChange fnExactCallsNewSpec)

/-- ITS FALSE NEIGHBOUR: 'it returns false'. Refute it at one input. -/
def fnExactCallsNewWrong : ChangeSpec := { name := "fnExactCallsNew", fn := fun _ => fun
  | [d1, d2, d3] => { results := [.lit (.bool false)], args := [d1, d2, d3] }
  | _ => none }
def FnExactCallsNewWrongFalsely : Prop := fnExactCallsNewRow.holds Try.pinned (OpenSpec.ofChange fnExactCallsNewWrong)

/-- 'laws.FnExactStepsBad': WHATEVER THE INPUT: true; the input reads as it did. -/
def fnExactStepsBadSpec : ChangeSpec := { name := "fnExactStepsBad", fn := fun _ => fun
  | [d] => { results := [.lit (.bool true)], args := [d] }
  | _ => none }
def fnExactStepsBadRow : OpenClaim := { program := "ytfdhgahhcnipjaa", sum := "1e755ebbf8bfecaf46e528cee73dd0c670b63ede7eb81b0a5f6e81648c21590b", func := "loop.example/chainfiles/laws.FnExactStepsBad", spec := "fnExactStepsBad", unfollowed := true, recurses := true, apart := false }
def FnExactStepsBadSaid : Prop := fnExactStepsBadRow.holds Try.pinned (OpenSpec.ofChange fnExactStepsBadSpec)

/-- ITS FALSE NEIGHBOUR: 'it returns false'. Refute it at one input. -/
def fnExactStepsBadWrong : ChangeSpec := { name := "fnExactStepsBad", fn := fun _ => fun
  | [d] => { results := [.lit (.bool false)], args := [d] }
  | _ => none }
def FnExactStepsBadWrongFalsely : Prop := fnExactStepsBadRow.holds Try.pinned (OpenSpec.ofChange fnExactStepsBadWrong)

/-- 'laws.FnStepsBadPart': WHATEVER THE INPUT: true; the input reads as it did. -/
def fnStepsBadPartSpec : ChangeSpec := { name := "fnStepsBadPart", fn := fun _ => fun
  | [d1, d2] => { results := [.lit (.bool true)], args := [d1, d2] }
  | _ => none }
def fnStepsBadPartRow : OpenClaim := { program := "ytfdhgahhcnipjaa", sum := "1e755ebbf8bfecaf46e528cee73dd0c670b63ede7eb81b0a5f6e81648c21590b", func := "loop.example/chainfiles/laws.FnStepsBadPart", spec := "fnStepsBadPart", unfollowed := true, recurses := true, apart := false }
def FnStepsBadPartSaid : Prop := fnStepsBadPartRow.holds Try.pinned (OpenSpec.ofChange fnStepsBadPartSpec)

/-- ITS FALSE NEIGHBOUR: 'it returns false'. Refute it at one input. -/
def fnStepsBadPartWrong : ChangeSpec := { name := "fnStepsBadPart", fn := fun _ => fun
  | [d1, d2] => { results := [.lit (.bool false)], args := [d1, d2] }
  | _ => none }
def FnStepsBadPartWrongFalsely : Prop := fnStepsBadPartRow.holds Try.pinned (OpenSpec.ofChange fnStepsBadPartWrong)

/-- 'laws.FnStepsBad': WHATEVER THE INPUT: true; the input reads as it did. -/
def fnStepsBadSpec : ChangeSpec := { name := "fnStepsBad", fn := fun _ => fun
  | [d] => { results := [.lit (.bool true)], args := [d] }
  | _ => none }
def fnStepsBadRow : OpenClaim := { program := "ytfdhgahhcnipjaa", sum := "1e755ebbf8bfecaf46e528cee73dd0c670b63ede7eb81b0a5f6e81648c21590b", func := "loop.example/chainfiles/laws.FnStepsBad", spec := "fnStepsBad", unfollowed := true, recurses := true, apart := false }
def FnStepsBadSaid : Prop := fnStepsBadRow.holds Try.pinned (OpenSpec.ofChange fnStepsBadSpec)

/-- ITS FALSE NEIGHBOUR: 'it returns false'. Refute it at one input. -/
def fnStepsBadWrong : ChangeSpec := { name := "fnStepsBad", fn := fun _ => fun
  | [d] => { results := [.lit (.bool false)], args := [d] }
  | _ => none }
def FnStepsBadWrongFalsely : Prop := fnStepsBadRow.holds Try.pinned (OpenSpec.ofChange fnStepsBadWrong)

/-- 'laws.FnExactStepsFit': WHATEVER THE INPUT: true; the input reads as it did. -/
def fnExactStepsFitSpec : ChangeSpec := { name := "fnExactStepsFit", fn := fun _ => fun
  | [d] => { results := [.lit (.bool true)], args := [d] }
  | _ => none }
def fnExactStepsFitRow : OpenClaim := { program := "ytfdhgahhcnipjaa", sum := "1e755ebbf8bfecaf46e528cee73dd0c670b63ede7eb81b0a5f6e81648c21590b", func := "loop.example/chainfiles/laws.FnExactStepsFit", spec := "fnExactStepsFit", unfollowed := true, recurses := true, apart := false }
def FnExactStepsFitSaid : Prop := fnExactStepsFitRow.holds Try.pinned (OpenSpec.ofChange fnExactStepsFitSpec)

/-- ITS FALSE NEIGHBOUR: 'it returns false'. Refute it at one input. -/
def fnExactStepsFitWrong : ChangeSpec := { name := "fnExactStepsFit", fn := fun _ => fun
  | [d] => { results := [.lit (.bool false)], args := [d] }
  | _ => none }
def FnExactStepsFitWrongFalsely : Prop := fnExactStepsFitRow.holds Try.pinned (OpenSpec.ofChange fnExactStepsFitWrong)

/-- 'laws.FnStepsDrop': WHATEVER THE INPUT: true; the input reads as it did. -/
def fnStepsDropSpec : ChangeSpec := { name := "fnStepsDrop", fn := fun _ => fun
  | [d1, d2] => { results := [.lit (.bool true)], args := [d1, d2] }
  | _ => none }
def fnStepsDropRow : OpenClaim := { program := "ytfdhgahhcnipjaa", sum := "1e755ebbf8bfecaf46e528cee73dd0c670b63ede7eb81b0a5f6e81648c21590b", func := "loop.example/chainfiles/laws.FnStepsDrop", spec := "fnStepsDrop", unfollowed := true, recurses := true, apart := false }
def FnStepsDropSaid : Prop := fnStepsDropRow.holds Try.pinned (OpenSpec.ofChange fnStepsDropSpec)

/-- ITS FALSE NEIGHBOUR: 'it returns false'. Refute it at one input. -/
def fnStepsDropWrong : ChangeSpec := { name := "fnStepsDrop", fn := fun _ => fun
  | [d1, d2] => { results := [.lit (.bool false)], args := [d1, d2] }
  | _ => none }
def FnStepsDropWrongFalsely : Prop := fnStepsDropRow.holds Try.pinned (OpenSpec.ofChange fnStepsDropWrong)

/-- 'laws.FnStepsFit': WHATEVER THE INPUT: true; the input reads as it did. -/
def fnStepsFitSpec : ChangeSpec := { name := "fnStepsFit", fn := fun _ => fun
  | [d] => { results := [.lit (.bool true)], args := [d] }
  | _ => none }
def fnStepsFitRow : OpenClaim := { program := "ytfdhgahhcnipjaa", sum := "1e755ebbf8bfecaf46e528cee73dd0c670b63ede7eb81b0a5f6e81648c21590b", func := "loop.example/chainfiles/laws.FnStepsFit", spec := "fnStepsFit", unfollowed := true, recurses := true, apart := false }
def FnStepsFitSaid : Prop := fnStepsFitRow.holds Try.pinned (OpenSpec.ofChange fnStepsFitSpec)

/-- ITS FALSE NEIGHBOUR: 'it returns false'. Refute it at one input. -/
def fnStepsFitWrong : ChangeSpec := { name := "fnStepsFit", fn := fun _ => fun
  | [d] => { results := [.lit (.bool false)], args := [d] }
  | _ => none }
def FnStepsFitWrongFalsely : Prop := fnStepsFitRow.holds Try.pinned (OpenSpec.ofChange fnStepsFitWrong)

/-- 'laws.FnStepsFitPart': WHATEVER THE INPUT: true; the input reads as it did. -/
def fnStepsFitPartSpec : ChangeSpec := { name := "fnStepsFitPart", fn := fun _ => fun
  | [d1, d2] => { results := [.lit (.bool true)], args := [d1, d2] }
  | _ => none }
def fnStepsFitPartRow : OpenClaim := { program := "ytfdhgahhcnipjaa", sum := "1e755ebbf8bfecaf46e528cee73dd0c670b63ede7eb81b0a5f6e81648c21590b", func := "loop.example/chainfiles/laws.FnStepsFitPart", spec := "fnStepsFitPart", unfollowed := true, recurses := true, apart := false }
def FnStepsFitPartSaid : Prop := fnStepsFitPartRow.holds Try.pinned (OpenSpec.ofChange fnStepsFitPartSpec)

/-- ITS FALSE NEIGHBOUR: 'it returns false'. Refute it at one input. -/
def fnStepsFitPartWrong : ChangeSpec := { name := "fnStepsFitPart", fn := fun _ => fun
  | [d1, d2] => { results := [.lit (.bool false)], args := [d1, d2] }
  | _ => none }
def FnStepsFitPartWrongFalsely : Prop := fnStepsFitPartRow.holds Try.pinned (OpenSpec.ofChange fnStepsFitPartWrong)

/- THE SECOND FORM. 'bulk': how many values and letters a reading holds, each counted each time it is reached (what is shared counts as often as it is met; a slice's spare places count too). A statement '..UptoSaid' is the law's where the arguments, and the package variables that the reading takes, are together of bulk at most 1048576: NARROWER than '..Said'. Prove '..Said' where nothing that the law and all that it calls make is longer than what came in: it says more and counts as full. Else prove '..UptoSaid'. A law counts once. -/
mutual
def uptoBulk {H : Type} : DataW H → Nat
  | .lit (.string bytes) => bytes.length + 1
  | .lit _ => 1
  | .nil => 1
  | .ptr d => uptoBulk d + 1
  | .slice elems spare => uptoBulkAll elems + uptoBulkAll spare + 1
  | .agg parts => uptoBulkAll parts + 1
  | .iface _ d => uptoBulk d + 1
  | .map entries => uptoBulkEntries entries + 1
  | .held _ => 1
def uptoBulkAll {H : Type} : List (DataW H) → Nat
  | [] => 0
  | d :: r => uptoBulk d + uptoBulkAll r
def uptoBulkEntries {H : Type} : List (Lit × DataW H) → Nat
  | [] => 0
  | x :: r => uptoBulkEntry x + uptoBulkEntries r
def uptoBulkEntry {H : Type} : Lit × DataW H → Nat
  | (.string bytes, d) => bytes.length + uptoBulk d + 1
  | (_, d) => uptoBulk d + 1
 end
def uptoSmall : (H : Type) → List (DataW H) → Bool := fun _ ds => decide (uptoBulkAll ds ≤ 1048576)
def OpenSpec.upto (s : _root_.Go.ChangeSpec) : _root_.Go.OpenSpec := { _root_.Go.OpenSpec.ofChange s with cond := some uptoSmall }

/-- 'laws.FnCallsPart', WHERE WHAT IT READS IS OF BULK AT MOST 1048576: true; the input reads as it did. -/
def fnCallsPartUptoRow : OpenClaim := { program := "ytfdhgahhcnipjaa", sum := "1e755ebbf8bfecaf46e528cee73dd0c670b63ede7eb81b0a5f6e81648c21590b", func := "loop.example/chainfiles/laws.FnCallsPart", spec := "fnCallsPart", apart := false, narrowed := true }
def FnCallsPartUptoSaid : Prop := fnCallsPartUptoRow.holds Try.pinned (OpenSpec.upto fnCallsPartSpec)

/-- 'laws.FnExactStepsValid', WHERE WHAT IT READS IS OF BULK AT MOST 1048576: true; the input reads as it did. -/
def fnExactStepsValidUptoRow : OpenClaim := { program := "ytfdhgahhcnipjaa", sum := "1e755ebbf8bfecaf46e528cee73dd0c670b63ede7eb81b0a5f6e81648c21590b", func := "loop.example/chainfiles/laws.FnExactStepsValid", spec := "fnExactStepsValid", unfollowed := true, recurses := true, apart := false, narrowed := true }
def FnExactStepsValidUptoSaid : Prop := fnExactStepsValidUptoRow.holds Try.pinned (OpenSpec.upto fnExactStepsValidSpec)

/-- 'laws.FnStepsPart', WHERE WHAT IT READS IS OF BULK AT MOST 1048576: true; the input reads as it did. -/
def fnStepsPartUptoRow : OpenClaim := { program := "ytfdhgahhcnipjaa", sum := "1e755ebbf8bfecaf46e528cee73dd0c670b63ede7eb81b0a5f6e81648c21590b", func := "loop.example/chainfiles/laws.FnStepsPart", spec := "fnStepsPart", unfollowed := true, recurses := true, apart := false, narrowed := true }
def FnStepsPartUptoSaid : Prop := fnStepsPartUptoRow.holds Try.pinned (OpenSpec.upto fnStepsPartSpec)

/-- 'laws.FnExactCallsValid', WHERE WHAT IT READS IS OF BULK AT MOST 1048576: true; the input reads as it did. -/
def fnExactCallsValidUptoRow : OpenClaim := { program := "ytfdhgahhcnipjaa", sum := "1e755ebbf8bfecaf46e528cee73dd0c670b63ede7eb81b0a5f6e81648c21590b", func := "loop.example/chainfiles/laws.FnExactCallsValid", spec := "fnExactCallsValid", apart := false, narrowed := true }
def FnExactCallsValidUptoSaid : Prop := fnExactCallsValidUptoRow.holds Try.pinned (OpenSpec.upto fnExactCallsValidSpec)

/-- 'laws.FnCallsNew', WHERE WHAT IT READS IS OF BULK AT MOST 1048576: true; the input reads as it did. -/
def fnCallsNewUptoRow : OpenClaim := { program := "ytfdhgahhcnipjaa", sum := "1e755ebbf8bfecaf46e528cee73dd0c670b63ede7eb81b0a5f6e81648c21590b", func := "loop.example/chainfiles/laws.FnCallsNew", spec := "fnCallsNew", apart := false, narrowed := true }
def FnCallsNewUptoSaid : Prop := fnCallsNewUptoRow.holds Try.pinned (OpenSpec.upto fnCallsNewSpec)

/-- 'laws.FnExactCallsNew', WHERE WHAT IT READS IS OF BULK AT MOST 1048576: true; the input reads as it did. -/
def fnExactCallsNewUptoRow : OpenClaim := { program := "ytfdhgahhcnipjaa", sum := "1e755ebbf8bfecaf46e528cee73dd0c670b63ede7eb81b0a5f6e81648c21590b", func := "loop.example/chainfiles/laws.FnExactCallsNew", spec := "fnExactCallsNew", apart := false, narrowed := true }
def FnExactCallsNewUptoSaid : Prop := fnExactCallsNewUptoRow.holds Try.pinned (OpenSpec.upto fnExactCallsNewSpec)

/-- 'laws.FnExactStepsBad', WHERE WHAT IT READS IS OF BULK AT MOST 1048576: true; the input reads as it did. -/
def fnExactStepsBadUptoRow : OpenClaim := { program := "ytfdhgahhcnipjaa", sum := "1e755ebbf8bfecaf46e528cee73dd0c670b63ede7eb81b0a5f6e81648c21590b", func := "loop.example/chainfiles/laws.FnExactStepsBad", spec := "fnExactStepsBad", unfollowed := true, recurses := true, apart := false, narrowed := true }
def FnExactStepsBadUptoSaid : Prop := fnExactStepsBadUptoRow.holds Try.pinned (OpenSpec.upto fnExactStepsBadSpec)

/-- 'laws.FnStepsBadPart', WHERE WHAT IT READS IS OF BULK AT MOST 1048576: true; the input reads as it did. -/
def fnStepsBadPartUptoRow : OpenClaim := { program := "ytfdhgahhcnipjaa", sum := "1e755ebbf8bfecaf46e528cee73dd0c670b63ede7eb81b0a5f6e81648c21590b", func := "loop.example/chainfiles/laws.FnStepsBadPart", spec := "fnStepsBadPart", unfollowed := true, recurses := true, apart := false, narrowed := true }
def FnStepsBadPartUptoSaid : Prop := fnStepsBadPartUptoRow.holds Try.pinned (OpenSpec.upto fnStepsBadPartSpec)

/-- 'laws.FnStepsBad', WHERE WHAT IT READS IS OF BULK AT MOST 1048576: true; the input reads as it did. -/
def fnStepsBadUptoRow : OpenClaim := { program := "ytfdhgahhcnipjaa", sum := "1e755ebbf8bfecaf46e528cee73dd0c670b63ede7eb81b0a5f6e81648c21590b", func := "loop.example/chainfiles/laws.FnStepsBad", spec := "fnStepsBad", unfollowed := true, recurses := true, apart := false, narrowed := true }
def FnStepsBadUptoSaid : Prop := fnStepsBadUptoRow.holds Try.pinned (OpenSpec.upto fnStepsBadSpec)

/-- 'laws.FnExactStepsFit', WHERE WHAT IT READS IS OF BULK AT MOST 1048576: true; the input reads as it did. -/
def fnExactStepsFitUptoRow : OpenClaim := { program := "ytfdhgahhcnipjaa", sum := "1e755ebbf8bfecaf46e528cee73dd0c670b63ede7eb81b0a5f6e81648c21590b", func := "loop.example/chainfiles/laws.FnExactStepsFit", spec := "fnExactStepsFit", unfollowed := true, recurses := true, apart := false, narrowed := true }
def FnExactStepsFitUptoSaid : Prop := fnExactStepsFitUptoRow.holds Try.pinned (OpenSpec.upto fnExactStepsFitSpec)

/-- 'laws.FnStepsDrop', WHERE WHAT IT READS IS OF BULK AT MOST 1048576: true; the input reads as it did. -/
def fnStepsDropUptoRow : OpenClaim := { program := "ytfdhgahhcnipjaa", sum := "1e755ebbf8bfecaf46e528cee73dd0c670b63ede7eb81b0a5f6e81648c21590b", func := "loop.example/chainfiles/laws.FnStepsDrop", spec := "fnStepsDrop", unfollowed := true, recurses := true, apart := false, narrowed := true }
def FnStepsDropUptoSaid : Prop := fnStepsDropUptoRow.holds Try.pinned (OpenSpec.upto fnStepsDropSpec)

/-- 'laws.FnStepsFit', WHERE WHAT IT READS IS OF BULK AT MOST 1048576: true; the input reads as it did. -/
def fnStepsFitUptoRow : OpenClaim := { program := "ytfdhgahhcnipjaa", sum := "1e755ebbf8bfecaf46e528cee73dd0c670b63ede7eb81b0a5f6e81648c21590b", func := "loop.example/chainfiles/laws.FnStepsFit", spec := "fnStepsFit", unfollowed := true, recurses := true, apart := false, narrowed := true }
def FnStepsFitUptoSaid : Prop := fnStepsFitUptoRow.holds Try.pinned (OpenSpec.upto fnStepsFitSpec)

/-- 'laws.FnStepsFitPart', WHERE WHAT IT READS IS OF BULK AT MOST 1048576: true; the input reads as it did. -/
def fnStepsFitPartUptoRow : OpenClaim := { program := "ytfdhgahhcnipjaa", sum := "1e755ebbf8bfecaf46e528cee73dd0c670b63ede7eb81b0a5f6e81648c21590b", func := "loop.example/chainfiles/laws.FnStepsFitPart", spec := "fnStepsFitPart", unfollowed := true, recurses := true, apart := false, narrowed := true }
def FnStepsFitPartUptoSaid : Prop := fnStepsFitPartUptoRow.holds Try.pinned (OpenSpec.upto fnStepsFitPartSpec)

end Rows
end Go.Proofs.Ytfdhgahhcnipjaa
