/-
  No cell of these rows narrows 'for every input' (looked for: loops, veiled, ifaces, maps, wideKeys, modest, calm, conditions, laid).
  DERIVED. THE GIVEN ROWS OF THIS SEAT. 12 by the template 'for every input the law returns true; each argument reads behind the call as it read before'; 0 by the template 'total and deterministic' (their statements: YtilfomfcfpccdaaTotals.lean).
  GIVEN WITH THE SEED: the statements are not yours to turn. If you find one false, say at which input.
  Laid BY PROGRAM, IN A SANDBOX (cutbox-rows.mjs): the forced cells as the released guide's own fill.sh prints them over the translation 1c6851d584f6aeaf… (all of the seat's roots in one cut). By AI agents, Wed Nov 11 2026. No macro, syntax, notation, axiom, sorry.
-/
import Derived.Test.YtilfomfcfpccdaaChecked
import GoSem.Claim
import GoSem.ClaimJoined
import GoSem.ClaimMapViews
import Derived.JoinedTies
import Derived.KernelRfl
namespace Go.Proofs.Ytilfomfcfpccdaa
/- THE CELL 'sum', in the pinned program and in every row, IS THE sha256 OF THE DUMP (.gsa) THAT YtilfomfcfpccdaaProg.lean LOADS. Nothing in Lean hashes anything: it is a label: what it is worth is what the hold of that sum in a sandbox is worth. -/
noncomputable def Try.pinned : Pinned := { name := "ytilfomfcfpccdaa", sum := "1c6851d584f6aeaf368ef014ce785b36d3e95c0a768e667527ac6f2a21722d56", checked := Try.checked }
namespace Rows
def none {H : Type} : Left H := { results := [], args := [] }

/-- 'laws.FnAdd': WHATEVER THE INPUT: true; the input reads as it did. -/
def fnAddSpec : ChangeSpec := { name := "fnAdd", fn := fun _ => fun
  | [d] => { results := [.lit (.bool true)], args := [d] }
  | _ => none }
def fnAddRow : OpenClaim := { program := "ytilfomfcfpccdaa", sum := "1c6851d584f6aeaf368ef014ce785b36d3e95c0a768e667527ac6f2a21722d56", func := "loop.example/chainfiles/laws.FnAdd", spec := "fnAdd", apart := false }
def FnAddSaid : Prop := fnAddRow.holds Try.pinned (OpenSpec.ofChange fnAddSpec)

/-- ITS FALSE NEIGHBOUR: 'it returns false'. Refute it at one input. -/
def fnAddWrong : ChangeSpec := { name := "fnAdd", fn := fun _ => fun
  | [d] => { results := [.lit (.bool false)], args := [d] }
  | _ => none }
def FnAddWrongFalsely : Prop := fnAddRow.holds Try.pinned (OpenSpec.ofChange fnAddWrong)

/-- 'laws.FnAddDrop': WHATEVER THE INPUT: true; the input reads as it did. -/
def fnAddDropSpec : ChangeSpec := { name := "fnAddDrop", fn := fun _ => fun
  | [d] => { results := [.lit (.bool true)], args := [d] }
  | _ => none }
def fnAddDropRow : OpenClaim := { program := "ytilfomfcfpccdaa", sum := "1c6851d584f6aeaf368ef014ce785b36d3e95c0a768e667527ac6f2a21722d56", func := "loop.example/chainfiles/laws.FnAddDrop", spec := "fnAddDrop", apart := false }
def FnAddDropSaid : Prop := fnAddDropRow.holds Try.pinned (OpenSpec.ofChange fnAddDropSpec)

/-- ITS FALSE NEIGHBOUR: 'it returns false'. Refute it at one input. -/
def fnAddDropWrong : ChangeSpec := { name := "fnAddDrop", fn := fun _ => fun
  | [d] => { results := [.lit (.bool false)], args := [d] }
  | _ => none }
def FnAddDropWrongFalsely : Prop := fnAddDropRow.holds Try.pinned (OpenSpec.ofChange fnAddDropWrong)

/-- 'laws.FnExactViewOf': WHATEVER THE INPUT: true; the input reads as it did. -/
def fnExactViewOfSpec : ChangeSpec := { name := "fnExactViewOf", fn := fun _ => fun
  | [d] => { results := [.lit (.bool true)], args := [d] }
  | _ => none }
def fnExactViewOfRow : OpenClaim := { program := "ytilfomfcfpccdaa", sum := "1c6851d584f6aeaf368ef014ce785b36d3e95c0a768e667527ac6f2a21722d56", func := "loop.example/chainfiles/laws.FnExactViewOf", spec := "fnExactViewOf", apart := false }
def FnExactViewOfSaid : Prop := fnExactViewOfRow.holds Try.pinned (OpenSpec.ofChange fnExactViewOfSpec)

/-- ITS FALSE NEIGHBOUR: 'it returns false'. Refute it at one input. -/
def fnExactViewOfWrong : ChangeSpec := { name := "fnExactViewOf", fn := fun _ => fun
  | [d] => { results := [.lit (.bool false)], args := [d] }
  | _ => none }
def FnExactViewOfWrongFalsely : Prop := fnExactViewOfRow.holds Try.pinned (OpenSpec.ofChange fnExactViewOfWrong)

/-- 'laws.FnExactDropLost': WHATEVER THE INPUT: true; the input reads as it did. -/
def fnExactDropLostSpec : ChangeSpec := { name := "fnExactDropLost", fn := fun _ => fun
  | [d1, d2] => { results := [.lit (.bool true)], args := [d1, d2] }
  | _ => none }
def fnExactDropLostRow : OpenClaim := { program := "ytilfomfcfpccdaa", sum := "1c6851d584f6aeaf368ef014ce785b36d3e95c0a768e667527ac6f2a21722d56", func := "loop.example/chainfiles/laws.FnExactDropLost", spec := "fnExactDropLost", apart := false }
def FnExactDropLostSaid : Prop := fnExactDropLostRow.holds Try.pinned (OpenSpec.ofChange fnExactDropLostSpec)

/-- ITS FALSE NEIGHBOUR: 'it returns false'. Refute it at one input. -/
def fnExactDropLostWrong : ChangeSpec := { name := "fnExactDropLost", fn := fun _ => fun
  | [d1, d2] => { results := [.lit (.bool false)], args := [d1, d2] }
  | _ => none }
def FnExactDropLostWrongFalsely : Prop := fnExactDropLostRow.holds Try.pinned (OpenSpec.ofChange fnExactDropLostWrong)

/-- 'laws.FnLost': WHATEVER THE INPUT: true; the input reads as it did. -/
def fnLostSpec : ChangeSpec := { name := "fnLost", fn := fun _ => fun
  | [d] => { results := [.lit (.bool true)], args := [d] }
  | _ => none }
def fnLostRow : OpenClaim := { program := "ytilfomfcfpccdaa", sum := "1c6851d584f6aeaf368ef014ce785b36d3e95c0a768e667527ac6f2a21722d56", func := "loop.example/chainfiles/laws.FnLost", spec := "fnLost", apart := false }
def FnLostSaid : Prop := fnLostRow.holds Try.pinned (OpenSpec.ofChange fnLostSpec)

/-- ITS FALSE NEIGHBOUR: 'it returns false'. Refute it at one input. -/
def fnLostWrong : ChangeSpec := { name := "fnLost", fn := fun _ => fun
  | [d] => { results := [.lit (.bool false)], args := [d] }
  | _ => none }
def FnLostWrongFalsely : Prop := fnLostRow.holds Try.pinned (OpenSpec.ofChange fnLostWrong)

/-- 'laws.FnDropTail': WHATEVER THE INPUT: true; the input reads as it did. -/
def fnDropTailSpec : ChangeSpec := { name := "fnDropTail", fn := fun _ => fun
  | [d1, d2] => { results := [.lit (.bool true)], args := [d1, d2] }
  | _ => none }
def fnDropTailRow : OpenClaim := { program := "ytilfomfcfpccdaa", sum := "1c6851d584f6aeaf368ef014ce785b36d3e95c0a768e667527ac6f2a21722d56", func := "loop.example/chainfiles/laws.FnDropTail", spec := "fnDropTail", apart := false }
def FnDropTailSaid : Prop := fnDropTailRow.holds Try.pinned (OpenSpec.ofChange fnDropTailSpec)

/-- ITS FALSE NEIGHBOUR: 'it returns false'. Refute it at one input. -/
def fnDropTailWrong : ChangeSpec := { name := "fnDropTail", fn := fun _ => fun
  | [d1, d2] => { results := [.lit (.bool false)], args := [d1, d2] }
  | _ => none }
def FnDropTailWrongFalsely : Prop := fnDropTailRow.holds Try.pinned (OpenSpec.ofChange fnDropTailWrong)

/-- 'laws.FnAddRead': WHATEVER THE INPUT: true; the input reads as it did. -/
def fnAddReadSpec : ChangeSpec := { name := "fnAddRead", fn := fun _ => fun
  | [d1, d2] => { results := [.lit (.bool true)], args := [d1, d2] }
  | _ => none }
def fnAddReadRow : OpenClaim := { program := "ytilfomfcfpccdaa", sum := "1c6851d584f6aeaf368ef014ce785b36d3e95c0a768e667527ac6f2a21722d56", func := "loop.example/chainfiles/laws.FnAddRead", spec := "fnAddRead", apart := false }
def FnAddReadSaid : Prop := fnAddReadRow.holds Try.pinned (OpenSpec.ofChange fnAddReadSpec)

/-- ITS FALSE NEIGHBOUR: 'it returns false'. Refute it at one input. -/
def fnAddReadWrong : ChangeSpec := { name := "fnAddRead", fn := fun _ => fun
  | [d1, d2] => { results := [.lit (.bool false)], args := [d1, d2] }
  | _ => none }
def FnAddReadWrongFalsely : Prop := fnAddReadRow.holds Try.pinned (OpenSpec.ofChange fnAddReadWrong)

/-- 'laws.FnReadAt': WHATEVER THE INPUT: true; the input reads as it did. -/
def fnReadAtSpec : ChangeSpec := { name := "fnReadAt", fn := fun _ => fun
  | [d] => { results := [.lit (.bool true)], args := [d] }
  | _ => none }
def fnReadAtRow : OpenClaim := { program := "ytilfomfcfpccdaa", sum := "1c6851d584f6aeaf368ef014ce785b36d3e95c0a768e667527ac6f2a21722d56", func := "loop.example/chainfiles/laws.FnReadAt", spec := "fnReadAt", apart := false }
def FnReadAtSaid : Prop := fnReadAtRow.holds Try.pinned (OpenSpec.ofChange fnReadAtSpec)

/-- ITS FALSE NEIGHBOUR: 'it returns false'. Refute it at one input. -/
def fnReadAtWrong : ChangeSpec := { name := "fnReadAt", fn := fun _ => fun
  | [d] => { results := [.lit (.bool false)], args := [d] }
  | _ => none }
def FnReadAtWrongFalsely : Prop := fnReadAtRow.holds Try.pinned (OpenSpec.ofChange fnReadAtWrong)

/-- 'laws.FnReadAtClean': WHATEVER THE INPUT: true; the input reads as it did. -/
def fnReadAtCleanSpec : ChangeSpec := { name := "fnReadAtClean", fn := fun _ => fun
  | [d] => { results := [.lit (.bool true)], args := [d] }
  | _ => none }
def fnReadAtCleanRow : OpenClaim := { program := "ytilfomfcfpccdaa", sum := "1c6851d584f6aeaf368ef014ce785b36d3e95c0a768e667527ac6f2a21722d56", func := "loop.example/chainfiles/laws.FnReadAtClean", spec := "fnReadAtClean", apart := false }
def FnReadAtCleanSaid : Prop := fnReadAtCleanRow.holds Try.pinned (OpenSpec.ofChange fnReadAtCleanSpec)

/-- ITS FALSE NEIGHBOUR: 'it returns false'. Refute it at one input. -/
def fnReadAtCleanWrong : ChangeSpec := { name := "fnReadAtClean", fn := fun _ => fun
  | [d] => { results := [.lit (.bool false)], args := [d] }
  | _ => none }
def FnReadAtCleanWrongFalsely : Prop := fnReadAtCleanRow.holds Try.pinned (OpenSpec.ofChange fnReadAtCleanWrong)

/-- 'laws.FnSwap': WHATEVER THE INPUT: true; the input reads as it did. -/
def fnSwapSpec : ChangeSpec := { name := "fnSwap", fn := fun _ => fun
  | [d] => { results := [.lit (.bool true)], args := [d] }
  | _ => none }
def fnSwapRow : OpenClaim := { program := "ytilfomfcfpccdaa", sum := "1c6851d584f6aeaf368ef014ce785b36d3e95c0a768e667527ac6f2a21722d56", func := "loop.example/chainfiles/laws.FnSwap", spec := "fnSwap", apart := false }
def FnSwapSaid : Prop := fnSwapRow.holds Try.pinned (OpenSpec.ofChange fnSwapSpec)

/-- ITS FALSE NEIGHBOUR: 'it returns false'. Refute it at one input. -/
def fnSwapWrong : ChangeSpec := { name := "fnSwap", fn := fun _ => fun
  | [d] => { results := [.lit (.bool false)], args := [d] }
  | _ => none }
def FnSwapWrongFalsely : Prop := fnSwapRow.holds Try.pinned (OpenSpec.ofChange fnSwapWrong)

/-- 'laws.FnReadAtTail': WHATEVER THE INPUT: true; the input reads as it did. -/
def fnReadAtTailSpec : ChangeSpec := { name := "fnReadAtTail", fn := fun _ => fun
  | [d] => { results := [.lit (.bool true)], args := [d] }
  | _ => none }
def fnReadAtTailRow : OpenClaim := { program := "ytilfomfcfpccdaa", sum := "1c6851d584f6aeaf368ef014ce785b36d3e95c0a768e667527ac6f2a21722d56", func := "loop.example/chainfiles/laws.FnReadAtTail", spec := "fnReadAtTail", apart := false }
def FnReadAtTailSaid : Prop := fnReadAtTailRow.holds Try.pinned (OpenSpec.ofChange fnReadAtTailSpec)

/-- ITS FALSE NEIGHBOUR: 'it returns false'. Refute it at one input. -/
def fnReadAtTailWrong : ChangeSpec := { name := "fnReadAtTail", fn := fun _ => fun
  | [d] => { results := [.lit (.bool false)], args := [d] }
  | _ => none }
def FnReadAtTailWrongFalsely : Prop := fnReadAtTailRow.holds Try.pinned (OpenSpec.ofChange fnReadAtTailWrong)

/-- 'laws.FnSwapNode': WHATEVER THE INPUT: true; the input reads as it did. -/
def fnSwapNodeSpec : ChangeSpec := { name := "fnSwapNode", fn := fun _ => fun
  | [d] => { results := [.lit (.bool true)], args := [d] }
  | _ => none }
def fnSwapNodeRow : OpenClaim := { program := "ytilfomfcfpccdaa", sum := "1c6851d584f6aeaf368ef014ce785b36d3e95c0a768e667527ac6f2a21722d56", func := "loop.example/chainfiles/laws.FnSwapNode", spec := "fnSwapNode", apart := false }
def FnSwapNodeSaid : Prop := fnSwapNodeRow.holds Try.pinned (OpenSpec.ofChange fnSwapNodeSpec)

/-- ITS FALSE NEIGHBOUR: 'it returns false'. Refute it at one input. -/
def fnSwapNodeWrong : ChangeSpec := { name := "fnSwapNode", fn := fun _ => fun
  | [d] => { results := [.lit (.bool false)], args := [d] }
  | _ => none }
def FnSwapNodeWrongFalsely : Prop := fnSwapNodeRow.holds Try.pinned (OpenSpec.ofChange fnSwapNodeWrong)

/- THE SECOND FORM. 'bulk': how many values and letters a reading holds, each counted each time it is reached (what is shared counts as often as it is met; a slice's spare places count too). A statement '..UptoSaid' is the law's where the arguments, and the package variables that the reading takes, are together of bulk at most 1048576: NARROWER than '..Said'. Prove '..Said' where nothing that the law and all that it calls make is longer than what came in: it says more and counts as full. Else prove '..UptoSaid'. A law counts once. -/
mutual
def uptoBulk {H : Type} : DataW H → Nat
  | .lit (.string bytes) => bytes.length + 1
  | .lit _ => 1
  | .nil => 1
  | .ptr d => uptoBulk d + 1
  | .slice elems spare => uptoBulkAll elems + uptoBulkAll spare + 1
  | .agg parts => uptoBulkAll parts + 1
  | .iface _ d => uptoBulk d + 1
  | .map entries => uptoBulkEntries entries + 1
  | .held _ => 1
def uptoBulkAll {H : Type} : List (DataW H) → Nat
  | [] => 0
  | d :: r => uptoBulk d + uptoBulkAll r
def uptoBulkEntries {H : Type} : List (Lit × DataW H) → Nat
  | [] => 0
  | x :: r => uptoBulkEntry x + uptoBulkEntries r
def uptoBulkEntry {H : Type} : Lit × DataW H → Nat
  | (.string bytes, d) => bytes.length + uptoBulk d + 1
  | (_, d) => uptoBulk d + 1
 end
def uptoSmall : (H : Type) → List (DataW H) → Bool := fun _ ds => decide (uptoBulkAll ds ≤ 1048576)
def OpenSpec.upto (s : _root_.Go.ChangeSpec) : _root_.Go.OpenSpec := { _root_.Go.OpenSpec.ofChange s with cond := some uptoSmall }

/-- 'laws.FnAdd', WHERE WHAT IT READS IS OF BULK AT MOST 1048576: true; the input reads as it did. -/
def fnAddUptoRow : OpenClaim := { program := "ytilfomfcfpccdaa", sum := "1c6851d584f6aeaf368ef014ce785b36d3e95c0a768e667527ac6f2a21722d56", func := "loop.example/chainfiles/laws.FnAdd", spec := "fnAdd", apart := false, narrowed := true }
def FnAddUptoSaid : Prop := fnAddUptoRow.holds Try.pinned (OpenSpec.upto fnAddSpec)

/-- 'laws.FnAddDrop', WHERE WHAT IT READS IS OF BULK AT MOST 1048576: true; the input reads as it did. -/
def fnAddDropUptoRow : OpenClaim := { program := "ytilfomfcfpccdaa", sum := "1c6851d584f6aeaf368ef014ce785b36d3e95c0a768e667527ac6f2a21722d56", func := "loop.example/chainfiles/laws.FnAddDrop", spec := "fnAddDrop", apart := false, narrowed := true }
def FnAddDropUptoSaid : Prop := fnAddDropUptoRow.holds Try.pinned (OpenSpec.upto fnAddDropSpec)

/-- 'laws.FnExactViewOf', WHERE WHAT IT READS IS OF BULK AT MOST 1048576: true; the input reads as it did. -/
def fnExactViewOfUptoRow : OpenClaim := { program := "ytilfomfcfpccdaa", sum := "1c6851d584f6aeaf368ef014ce785b36d3e95c0a768e667527ac6f2a21722d56", func := "loop.example/chainfiles/laws.FnExactViewOf", spec := "fnExactViewOf", apart := false, narrowed := true }
def FnExactViewOfUptoSaid : Prop := fnExactViewOfUptoRow.holds Try.pinned (OpenSpec.upto fnExactViewOfSpec)

/-- 'laws.FnExactDropLost', WHERE WHAT IT READS IS OF BULK AT MOST 1048576: true; the input reads as it did. -/
def fnExactDropLostUptoRow : OpenClaim := { program := "ytilfomfcfpccdaa", sum := "1c6851d584f6aeaf368ef014ce785b36d3e95c0a768e667527ac6f2a21722d56", func := "loop.example/chainfiles/laws.FnExactDropLost", spec := "fnExactDropLost", apart := false, narrowed := true }
def FnExactDropLostUptoSaid : Prop := fnExactDropLostUptoRow.holds Try.pinned (OpenSpec.upto fnExactDropLostSpec)

/-- 'laws.FnLost', WHERE WHAT IT READS IS OF BULK AT MOST 1048576: true; the input reads as it did. -/
def fnLostUptoRow : OpenClaim := { program := "ytilfomfcfpccdaa", sum := "1c6851d584f6aeaf368ef014ce785b36d3e95c0a768e667527ac6f2a21722d56", func := "loop.example/chainfiles/laws.FnLost", spec := "fnLost", apart := false, narrowed := true }
def FnLostUptoSaid : Prop := fnLostUptoRow.holds Try.pinned (OpenSpec.upto fnLostSpec)

/-- 'laws.FnDropTail', WHERE WHAT IT READS IS OF BULK AT MOST 1048576: true; the input reads as it did. -/
def fnDropTailUptoRow : OpenClaim := { program := "ytilfomfcfpccdaa", sum := "1c6851d584f6aeaf368ef014ce785b36d3e95c0a768e667527ac6f2a21722d56", func := "loop.example/chainfiles/laws.FnDropTail", spec := "fnDropTail", apart := false, narrowed := true }
def FnDropTailUptoSaid : Prop := fnDropTailUptoRow.holds Try.pinned (OpenSpec.upto fnDropTailSpec)

/-- 'laws.FnAddRead', WHERE WHAT IT READS IS OF BULK AT MOST 1048576: true; the input reads as it did. -/
def fnAddReadUptoRow : OpenClaim := { program := "ytilfomfcfpccdaa", sum := "1c6851d584f6aeaf368ef014ce785b36d3e95c0a768e667527ac6f2a21722d56", func := "loop.example/chainfiles/laws.FnAddRead", spec := "fnAddRead", apart := false, narrowed := true }
def FnAddReadUptoSaid : Prop := fnAddReadUptoRow.holds Try.pinned (OpenSpec.upto fnAddReadSpec)

/-- 'laws.FnReadAt', WHERE WHAT IT READS IS OF BULK AT MOST 1048576: true; the input reads as it did. -/
def fnReadAtUptoRow : OpenClaim := { program := "ytilfomfcfpccdaa", sum := "1c6851d584f6aeaf368ef014ce785b36d3e95c0a768e667527ac6f2a21722d56", func := "loop.example/chainfiles/laws.FnReadAt", spec := "fnReadAt", apart := false, narrowed := true }
def FnReadAtUptoSaid : Prop := fnReadAtUptoRow.holds Try.pinned (OpenSpec.upto fnReadAtSpec)

/-- 'laws.FnReadAtClean', WHERE WHAT IT READS IS OF BULK AT MOST 1048576: true; the input reads as it did. -/
def fnReadAtCleanUptoRow : OpenClaim := { program := "ytilfomfcfpccdaa", sum := "1c6851d584f6aeaf368ef014ce785b36d3e95c0a768e667527ac6f2a21722d56", func := "loop.example/chainfiles/laws.FnReadAtClean", spec := "fnReadAtClean", apart := false, narrowed := true }
def FnReadAtCleanUptoSaid : Prop := fnReadAtCleanUptoRow.holds Try.pinned (OpenSpec.upto fnReadAtCleanSpec)

/-- 'laws.FnSwap', WHERE WHAT IT READS IS OF BULK AT MOST 1048576: true; the input reads as it did. -/
def fnSwapUptoRow : OpenClaim := { program := "ytilfomfcfpccdaa", sum := "1c6851d584f6aeaf368ef014ce785b36d3e95c0a768e667527ac6f2a21722d56", func := "loop.example/chainfiles/laws.FnSwap", spec := "fnSwap", apart := false, narrowed := true }
def FnSwapUptoSaid : Prop := fnSwapUptoRow.holds Try.pinned (OpenSpec.upto fnSwapSpec)

/-- 'laws.FnReadAtTail', WHERE WHAT IT READS IS OF BULK AT MOST 1048576: true; the input reads as it did. -/
def fnReadAtTailUptoRow : OpenClaim := { program := "ytilfomfcfpccdaa", sum := "1c6851d584f6aeaf368ef014ce785b36d3e95c0a768e667527ac6f2a21722d56", func := "loop.example/chainfiles/laws.FnReadAtTail", spec := "fnReadAtTail", apart := false, narrowed := true }
def FnReadAtTailUptoSaid : Prop := fnReadAtTailUptoRow.holds Try.pinned (OpenSpec.upto fnReadAtTailSpec)

/-- 'laws.FnSwapNode', WHERE WHAT IT READS IS OF BULK AT MOST 1048576: true; the input reads as it did. -/
def fnSwapNodeUptoRow : OpenClaim := { program := "ytilfomfcfpccdaa", sum := "1c6851d584f6aeaf368ef014ce785b36d3e95c0a768e667527ac6f2a21722d56", func := "loop.example/chainfiles/laws.FnSwapNode", spec := "fnSwapNode", apart := false, narrowed := true }
def FnSwapNodeUptoSaid : Prop := fnSwapNodeUptoRow.holds Try.pinned (OpenSpec.upto fnSwapNodeSpec)

end Rows
end Go.Proofs.Ytilfomfcfpccdaa
