/-
  No cell of these rows narrows 'for every input' (looked for: loops, veiled, ifaces, maps, wideKeys, modest, calm, conditions, laid).
  DERIVED. THE GIVEN ROWS OF THIS SEAT. 8 by the template 'for every input the law returns true; each argument reads behind the call as it read before'; 0 by the template 'total and deterministic' (their statements: YtplhhjmmkohljaaTotals.lean).
  GIVEN WITH THE SEED: the statements are not yours to turn. If you find one false, say at which input.
  Laid BY PROGRAM, IN A SANDBOX (cutbox-rows.mjs): the forced cells as the released guide's own fill.sh prints them over the translation 72f92d7a7aafdd71… (all of the seat's roots in one cut). By AI agents, Wed Nov 11 2026. No macro, syntax, notation, axiom, sorry.
-/
import Derived.Test.YtplhhjmmkohljaaChecked
import GoSem.Claim
import GoSem.ClaimJoined
import GoSem.ClaimMapViews
import Derived.JoinedTies
import Derived.KernelRfl
namespace Go.Proofs.Ytplhhjmmkohljaa
/- THE CELL 'sum', in the pinned program and in every row, IS THE sha256 OF THE DUMP (.gsa) THAT YtplhhjmmkohljaaProg.lean LOADS. Nothing in Lean hashes anything: it is a label: what it is worth is what the hold of that sum in a sandbox is worth. -/
noncomputable def Try.pinned : Pinned := { name := "ytplhhjmmkohljaa", sum := "72f92d7a7aafdd7166f24ff1301394d57f226355e56e4ef7a7cb413c94db5863", checked := Try.checked }
namespace Rows
def none {H : Type} : Left H := { results := [], args := [] }

/-- 'laws.FnValueAt': WHATEVER THE INPUT: true; the input reads as it did. -/
def fnValueAtSpec : ChangeSpec := { name := "fnValueAt", fn := fun _ => fun
  | [d] => { results := [.lit (.bool true)], args := [d] }
  | _ => none }
def fnValueAtRow : OpenClaim := { program := "ytplhhjmmkohljaa", sum := "72f92d7a7aafdd7166f24ff1301394d57f226355e56e4ef7a7cb413c94db5863", func := "loop.example/chainfiles/laws.FnValueAt", spec := "fnValueAt", apart := false }
def FnValueAtSaid : Prop := fnValueAtRow.holds Try.pinned (OpenSpec.ofChange fnValueAtSpec)

/-- ITS FALSE NEIGHBOUR: 'it returns false'. Refute it at one input. -/
def fnValueAtWrong : ChangeSpec := { name := "fnValueAt", fn := fun _ => fun
  | [d] => { results := [.lit (.bool false)], args := [d] }
  | _ => none }
def FnValueAtWrongFalsely : Prop := fnValueAtRow.holds Try.pinned (OpenSpec.ofChange fnValueAtWrong)

/-- 'laws.FnExactNodeValueAt': WHATEVER THE INPUT: true; the input reads as it did. -/
def fnExactNodeValueAtSpec : ChangeSpec := { name := "fnExactNodeValueAt", fn := fun _ => fun
  | [d1, d2, d3] => { results := [.lit (.bool true)], args := [d1, d2, d3] }
  | _ => none }
def fnExactNodeValueAtRow : OpenClaim := { program := "ytplhhjmmkohljaa", sum := "72f92d7a7aafdd7166f24ff1301394d57f226355e56e4ef7a7cb413c94db5863", func := "loop.example/chainfiles/laws.FnExactNodeValueAt", spec := "fnExactNodeValueAt", apart := false }
def FnExactNodeValueAtSaid : Prop := fnExactNodeValueAtRow.holds Try.pinned (OpenSpec.ofChange fnExactNodeValueAtSpec)

/-- ITS FALSE NEIGHBOUR: 'it returns false'. Refute it at one input. -/
def fnExactNodeValueAtWrong : ChangeSpec := { name := "fnExactNodeValueAt", fn := fun _ => fun
  | [d1, d2, d3] => { results := [.lit (.bool false)], args := [d1, d2, d3] }
  | _ => none }
def FnExactNodeValueAtWrongFalsely : Prop := fnExactNodeValueAtRow.holds Try.pinned (OpenSpec.ofChange fnExactNodeValueAtWrong)

/-- 'laws.FnValueClean': WHATEVER THE INPUT: true; the input reads as it did. -/
def fnValueCleanSpec : ChangeSpec := { name := "fnValueClean", fn := fun _ => fun
  | [d] => { results := [.lit (.bool true)], args := [d] }
  | _ => none }
def fnValueCleanRow : OpenClaim := { program := "ytplhhjmmkohljaa", sum := "72f92d7a7aafdd7166f24ff1301394d57f226355e56e4ef7a7cb413c94db5863", func := "loop.example/chainfiles/laws.FnValueClean", spec := "fnValueClean", apart := false }
def FnValueCleanSaid : Prop := fnValueCleanRow.holds Try.pinned (OpenSpec.ofChange fnValueCleanSpec)

/-- ITS FALSE NEIGHBOUR: 'it returns false'. Refute it at one input. -/
def fnValueCleanWrong : ChangeSpec := { name := "fnValueClean", fn := fun _ => fun
  | [d] => { results := [.lit (.bool false)], args := [d] }
  | _ => none }
def FnValueCleanWrongFalsely : Prop := fnValueCleanRow.holds Try.pinned (OpenSpec.ofChange fnValueCleanWrong)

/-- 'laws.FnExactNodeRead': WHATEVER THE INPUT: true; the input reads as it did. -/
def fnExactNodeReadSpec : ChangeSpec := { name := "fnExactNodeRead", fn := fun _ => fun
  | [d1, d2] => { results := [.lit (.bool true)], args := [d1, d2] }
  | _ => none }
def fnExactNodeReadRow : OpenClaim := { program := "ytplhhjmmkohljaa", sum := "72f92d7a7aafdd7166f24ff1301394d57f226355e56e4ef7a7cb413c94db5863", func := "loop.example/chainfiles/laws.FnExactNodeRead", spec := "fnExactNodeRead", apart := false }
def FnExactNodeReadSaid : Prop := fnExactNodeReadRow.holds Try.pinned (OpenSpec.ofChange fnExactNodeReadSpec)

/-- ITS FALSE NEIGHBOUR: 'it returns false'. Refute it at one input. -/
def fnExactNodeReadWrong : ChangeSpec := { name := "fnExactNodeRead", fn := fun _ => fun
  | [d1, d2] => { results := [.lit (.bool false)], args := [d1, d2] }
  | _ => none }
def FnExactNodeReadWrongFalsely : Prop := fnExactNodeReadRow.holds Try.pinned (OpenSpec.ofChange fnExactNodeReadWrong)

/-- 'laws.FnNodeAsk': WHATEVER THE INPUT: true; the input reads as it did. -/
def fnNodeAskSpec : ChangeSpec := { name := "fnNodeAsk", fn := fun _ => fun
  | [d] => { results := [.lit (.bool true)], args := [d] }
  | _ => none }
def fnNodeAskRow : OpenClaim := { program := "ytplhhjmmkohljaa", sum := "72f92d7a7aafdd7166f24ff1301394d57f226355e56e4ef7a7cb413c94db5863", func := "loop.example/chainfiles/laws.FnNodeAsk", spec := "fnNodeAsk", apart := false }
def FnNodeAskSaid : Prop := fnNodeAskRow.holds Try.pinned (OpenSpec.ofChange fnNodeAskSpec)

/-- ITS FALSE NEIGHBOUR: 'it returns false'. Refute it at one input. -/
def fnNodeAskWrong : ChangeSpec := { name := "fnNodeAsk", fn := fun _ => fun
  | [d] => { results := [.lit (.bool false)], args := [d] }
  | _ => none }
def FnNodeAskWrongFalsely : Prop := fnNodeAskRow.holds Try.pinned (OpenSpec.ofChange fnNodeAskWrong)

/-- 'laws.FnNodeNone': WHATEVER THE INPUT: true; the input reads as it did. -/
def fnNodeNoneSpec : ChangeSpec := { name := "fnNodeNone", fn := fun _ => fun
  | [d] => { results := [.lit (.bool true)], args := [d] }
  | _ => none }
def fnNodeNoneRow : OpenClaim := { program := "ytplhhjmmkohljaa", sum := "72f92d7a7aafdd7166f24ff1301394d57f226355e56e4ef7a7cb413c94db5863", func := "loop.example/chainfiles/laws.FnNodeNone", spec := "fnNodeNone", apart := false }
def FnNodeNoneSaid : Prop := fnNodeNoneRow.holds Try.pinned (OpenSpec.ofChange fnNodeNoneSpec)

/-- ITS FALSE NEIGHBOUR: 'it returns false'. Refute it at one input. -/
def fnNodeNoneWrong : ChangeSpec := { name := "fnNodeNone", fn := fun _ => fun
  | [d] => { results := [.lit (.bool false)], args := [d] }
  | _ => none }
def FnNodeNoneWrongFalsely : Prop := fnNodeNoneRow.holds Try.pinned (OpenSpec.ofChange fnNodeNoneWrong)

/-- 'laws.FnNodeRead': WHATEVER THE INPUT: true; the input reads as it did. -/
def fnNodeReadSpec : ChangeSpec := { name := "fnNodeRead", fn := fun _ => fun
  | [d] => { results := [.lit (.bool true)], args := [d] }
  | _ => none }
def fnNodeReadRow : OpenClaim := { program := "ytplhhjmmkohljaa", sum := "72f92d7a7aafdd7166f24ff1301394d57f226355e56e4ef7a7cb413c94db5863", func := "loop.example/chainfiles/laws.FnNodeRead", spec := "fnNodeRead", apart := false }
def FnNodeReadSaid : Prop := fnNodeReadRow.holds Try.pinned (OpenSpec.ofChange fnNodeReadSpec)

/-- ITS FALSE NEIGHBOUR: 'it returns false'. Refute it at one input. -/
def fnNodeReadWrong : ChangeSpec := { name := "fnNodeRead", fn := fun _ => fun
  | [d] => { results := [.lit (.bool false)], args := [d] }
  | _ => none }
def FnNodeReadWrongFalsely : Prop := fnNodeReadRow.holds Try.pinned (OpenSpec.ofChange fnNodeReadWrong)

/-- 'laws.FnNodeAck': WHATEVER THE INPUT: true; the input reads as it did. -/
def fnNodeAckSpec : ChangeSpec := { name := "fnNodeAck", fn := fun _ => fun
  | [d] => { results := [.lit (.bool true)], args := [d] }
  | _ => none }
def fnNodeAckRow : OpenClaim := { program := "ytplhhjmmkohljaa", sum := "72f92d7a7aafdd7166f24ff1301394d57f226355e56e4ef7a7cb413c94db5863", func := "loop.example/chainfiles/laws.FnNodeAck", spec := "fnNodeAck", apart := false }
def FnNodeAckSaid : Prop := fnNodeAckRow.holds Try.pinned (OpenSpec.ofChange fnNodeAckSpec)

/-- ITS FALSE NEIGHBOUR: 'it returns false'. Refute it at one input. -/
def fnNodeAckWrong : ChangeSpec := { name := "fnNodeAck", fn := fun _ => fun
  | [d] => { results := [.lit (.bool false)], args := [d] }
  | _ => none }
def FnNodeAckWrongFalsely : Prop := fnNodeAckRow.holds Try.pinned (OpenSpec.ofChange fnNodeAckWrong)

/- THE SECOND FORM. 'bulk': how many values and letters a reading holds, each counted each time it is reached (what is shared counts as often as it is met; a slice's spare places count too). A statement '..UptoSaid' is the law's where the arguments, and the package variables that the reading takes, are together of bulk at most 1048576: NARROWER than '..Said'. Prove '..Said' where nothing that the law and all that it calls make is longer than what came in: it says more and counts as full. Else prove '..UptoSaid'. A law counts once. -/
mutual
def uptoBulk {H : Type} : DataW H → Nat
  | .lit (.string bytes) => bytes.length + 1
  | .lit _ => 1
  | .nil => 1
  | .ptr d => uptoBulk d + 1
  | .slice elems spare => uptoBulkAll elems + uptoBulkAll spare + 1
  | .agg parts => uptoBulkAll parts + 1
  | .iface _ d => uptoBulk d + 1
  | .map entries => uptoBulkEntries entries + 1
  | .held _ => 1
def uptoBulkAll {H : Type} : List (DataW H) → Nat
  | [] => 0
  | d :: r => uptoBulk d + uptoBulkAll r
def uptoBulkEntries {H : Type} : List (Lit × DataW H) → Nat
  | [] => 0
  | x :: r => uptoBulkEntry x + uptoBulkEntries r
def uptoBulkEntry {H : Type} : Lit × DataW H → Nat
  | (.string bytes, d) => bytes.length + uptoBulk d + 1
  | (_, d) => uptoBulk d + 1
 end
def uptoSmall : (H : Type) → List (DataW H) → Bool := fun _ ds => decide (uptoBulkAll ds ≤ 1048576)
def OpenSpec.upto (s : _root_.Go.ChangeSpec) : _root_.Go.OpenSpec := { _root_.Go.OpenSpec.ofChange s with cond := some uptoSmall }

/-- 'laws.FnValueAt', WHERE WHAT IT READS IS OF BULK AT MOST 1048576: true; the input reads as it did. -/
def fnValueAtUptoRow : OpenClaim := { program := "ytplhhjmmkohljaa", sum := "72f92d7a7aafdd7166f24ff1301394d57f226355e56e4ef7a7cb413c94db5863", func := "loop.example/chainfiles/laws.FnValueAt", spec := "fnValueAt", apart := false, narrowed := true }
def FnValueAtUptoSaid : Prop := fnValueAtUptoRow.holds Try.pinned (OpenSpec.upto fnValueAtSpec)

/-- 'laws.FnExactNodeValueAt', WHERE WHAT IT READS IS OF BULK AT MOST 1048576: true; the input reads as it did. -/
def fnExactNodeValueAtUptoRow : OpenClaim := { program := "ytplhhjmmkohljaa", sum := "72f92d7a7aafdd7166f24ff1301394d57f226355e56e4ef7a7cb413c94db5863", func := "loop.example/chainfiles/laws.FnExactNodeValueAt", spec := "fnExactNodeValueAt", apart := false, narrowed := true }
def FnExactNodeValueAtUptoSaid : Prop := fnExactNodeValueAtUptoRow.holds Try.pinned (OpenSpec.upto fnExactNodeValueAtSpec)

/-- 'laws.FnValueClean', WHERE WHAT IT READS IS OF BULK AT MOST 1048576: true; the input reads as it did. -/
def fnValueCleanUptoRow : OpenClaim := { program := "ytplhhjmmkohljaa", sum := "72f92d7a7aafdd7166f24ff1301394d57f226355e56e4ef7a7cb413c94db5863", func := "loop.example/chainfiles/laws.FnValueClean", spec := "fnValueClean", apart := false, narrowed := true }
def FnValueCleanUptoSaid : Prop := fnValueCleanUptoRow.holds Try.pinned (OpenSpec.upto fnValueCleanSpec)

/-- 'laws.FnExactNodeRead', WHERE WHAT IT READS IS OF BULK AT MOST 1048576: true; the input reads as it did. -/
def fnExactNodeReadUptoRow : OpenClaim := { program := "ytplhhjmmkohljaa", sum := "72f92d7a7aafdd7166f24ff1301394d57f226355e56e4ef7a7cb413c94db5863", func := "loop.example/chainfiles/laws.FnExactNodeRead", spec := "fnExactNodeRead", apart := false, narrowed := true }
def FnExactNodeReadUptoSaid : Prop := fnExactNodeReadUptoRow.holds Try.pinned (OpenSpec.upto fnExactNodeReadSpec)

/-- 'laws.FnNodeAsk', WHERE WHAT IT READS IS OF BULK AT MOST 1048576: true; the input reads as it did. -/
def fnNodeAskUptoRow : OpenClaim := { program := "ytplhhjmmkohljaa", sum := "72f92d7a7aafdd7166f24ff1301394d57f226355e56e4ef7a7cb413c94db5863", func := "loop.example/chainfiles/laws.FnNodeAsk", spec := "fnNodeAsk", apart := false, narrowed := true }
def FnNodeAskUptoSaid : Prop := fnNodeAskUptoRow.holds Try.pinned (OpenSpec.upto fnNodeAskSpec)

/-- 'laws.FnNodeNone', WHERE WHAT IT READS IS OF BULK AT MOST 1048576: true; the input reads as it did. -/
def fnNodeNoneUptoRow : OpenClaim := { program := "ytplhhjmmkohljaa", sum := "72f92d7a7aafdd7166f24ff1301394d57f226355e56e4ef7a7cb413c94db5863", func := "loop.example/chainfiles/laws.FnNodeNone", spec := "fnNodeNone", apart := false, narrowed := true }
def FnNodeNoneUptoSaid : Prop := fnNodeNoneUptoRow.holds Try.pinned (OpenSpec.upto fnNodeNoneSpec)

/-- 'laws.FnNodeRead', WHERE WHAT IT READS IS OF BULK AT MOST 1048576: true; the input reads as it did. -/
def fnNodeReadUptoRow : OpenClaim := { program := "ytplhhjmmkohljaa", sum := "72f92d7a7aafdd7166f24ff1301394d57f226355e56e4ef7a7cb413c94db5863", func := "loop.example/chainfiles/laws.FnNodeRead", spec := "fnNodeRead", apart := false, narrowed := true }
def FnNodeReadUptoSaid : Prop := fnNodeReadUptoRow.holds Try.pinned (OpenSpec.upto fnNodeReadSpec)

/-- 'laws.FnNodeAck', WHERE WHAT IT READS IS OF BULK AT MOST 1048576: true; the input reads as it did. -/
def fnNodeAckUptoRow : OpenClaim := { program := "ytplhhjmmkohljaa", sum := "72f92d7a7aafdd7166f24ff1301394d57f226355e56e4ef7a7cb413c94db5863", func := "loop.example/chainfiles/laws.FnNodeAck", spec := "fnNodeAck", apart := false, narrowed := true }
def FnNodeAckUptoSaid : Prop := fnNodeAckUptoRow.holds Try.pinned (OpenSpec.upto fnNodeAckSpec)

end Rows
end Go.Proofs.Ytplhhjmmkohljaa
