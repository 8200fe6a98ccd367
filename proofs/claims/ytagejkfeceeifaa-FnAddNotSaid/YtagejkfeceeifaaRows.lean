/-
  No cell of these rows narrows 'for every input' (looked for: loops, veiled, ifaces, maps, wideKeys, modest, calm, conditions, laid).
  DERIVED. THE GIVEN ROWS OF THIS SEAT. 12 by the template 'for every input the law returns true; each argument reads behind the call as it read before'; 0 by the template 'total and deterministic' (their statements: YtagejkfeceeifaaTotals.lean).
  GIVEN WITH THE SEED: the statements are not yours to turn. If you find one false, say at which input.
  Laid BY PROGRAM, IN A SANDBOX (cutbox-rows.mjs): the forced cells as the released guide's own fill.sh prints them over the translation 0962e72593f5f212… (all of the seat's roots in one cut). By AI agents, Wed Nov 11 2026. No macro, syntax, notation, axiom, sorry.
-/
import Derived.Test.YtagejkfeceeifaaChecked
import GoSem.Claim
import GoSem.ClaimJoined
import GoSem.ClaimMapViews
import Derived.JoinedTies
import Derived.KernelRfl
namespace Go.Proofs.Ytagejkfeceeifaa
/- THE CELL 'sum', in the pinned program and in every row, IS THE sha256 OF THE DUMP (.gsa) THAT YtagejkfeceeifaaProg.lean LOADS. Nothing in Lean hashes anything: it is a label: what it is worth is what the hold of that sum in a sandbox is worth. -/
noncomputable def Try.pinned : Pinned := { name := "ytagejkfeceeifaa", sum := "0962e72593f5f212f9ff706e1589062e3fc98fcbcd229652a6da3ba4cc3059a1", checked := Try.checked }
namespace Rows
def none {H : Type} : Left H := { results := [], args := [] }

/-- 'laws.FnExactAddCost': WHATEVER THE INPUT: true; the input reads as it did. -/
def fnExactAddCostSpec : ChangeSpec := { name := "fnExactAddCost", fn := fun _ => fun
  | [d] => { results := [.lit (.bool true)], args := [d] }
  | _ => none }
def fnExactAddCostRow : OpenClaim := { program := "ytagejkfeceeifaa", sum := "0962e72593f5f212f9ff706e1589062e3fc98fcbcd229652a6da3ba4cc3059a1", func := "loop.example/chainfiles/laws.FnExactAddCost", spec := "fnExactAddCost", apart := false }
def FnExactAddCostSaid : Prop := fnExactAddCostRow.holds Try.pinned (OpenSpec.ofChange fnExactAddCostSpec)

/-- ITS FALSE NEIGHBOUR: 'it returns false'. Refute it at one input. -/
def fnExactAddCostWrong : ChangeSpec := { name := "fnExactAddCost", fn := fun _ => fun
  | [d] => { results := [.lit (.bool false)], args := [d] }
  | _ => none }
def FnExactAddCostWrongFalsely : Prop := fnExactAddCostRow.holds Try.pinned (OpenSpec.ofChange fnExactAddCostWrong)

/-- 'laws.FnAddCost': WHATEVER THE INPUT: true; the input reads as it did. -/
def fnAddCostSpec : ChangeSpec := { name := "fnAddCost", fn := fun _ => fun
  | [d] => { results := [.lit (.bool true)], args := [d] }
  | _ => none }
def fnAddCostRow : OpenClaim := { program := "ytagejkfeceeifaa", sum := "0962e72593f5f212f9ff706e1589062e3fc98fcbcd229652a6da3ba4cc3059a1", func := "loop.example/chainfiles/laws.FnAddCost", spec := "fnAddCost", apart := false }
def FnAddCostSaid : Prop := fnAddCostRow.holds Try.pinned (OpenSpec.ofChange fnAddCostSpec)

/-- ITS FALSE NEIGHBOUR: 'it returns false'. Refute it at one input. -/
def fnAddCostWrong : ChangeSpec := { name := "fnAddCost", fn := fun _ => fun
  | [d] => { results := [.lit (.bool false)], args := [d] }
  | _ => none }
def FnAddCostWrongFalsely : Prop := fnAddCostRow.holds Try.pinned (OpenSpec.ofChange fnAddCostWrong)

/-- 'laws.FnRole': WHATEVER THE INPUT: true; the input reads as it did. -/
def fnRoleSpec : ChangeSpec := { name := "fnRole", fn := fun _ => fun
  | [d] => { results := [.lit (.bool true)], args := [d] }
  | _ => none }
def fnRoleRow : OpenClaim := { program := "ytagejkfeceeifaa", sum := "0962e72593f5f212f9ff706e1589062e3fc98fcbcd229652a6da3ba4cc3059a1", func := "loop.example/chainfiles/laws.FnRole", spec := "fnRole", apart := false }
def FnRoleSaid : Prop := fnRoleRow.holds Try.pinned (OpenSpec.ofChange fnRoleSpec)

/-- ITS FALSE NEIGHBOUR: 'it returns false'. Refute it at one input. -/
def fnRoleWrong : ChangeSpec := { name := "fnRole", fn := fun _ => fun
  | [d] => { results := [.lit (.bool false)], args := [d] }
  | _ => none }
def FnRoleWrongFalsely : Prop := fnRoleRow.holds Try.pinned (OpenSpec.ofChange fnRoleWrong)

/-- 'laws.FnLostDone': WHATEVER THE INPUT: true; the input reads as it did. -/
def fnLostDoneSpec : ChangeSpec := { name := "fnLostDone", fn := fun _ => fun
  | [d] => { results := [.lit (.bool true)], args := [d] }
  | _ => none }
def fnLostDoneRow : OpenClaim := { program := "ytagejkfeceeifaa", sum := "0962e72593f5f212f9ff706e1589062e3fc98fcbcd229652a6da3ba4cc3059a1", func := "loop.example/chainfiles/laws.FnLostDone", spec := "fnLostDone", apart := false }
def FnLostDoneSaid : Prop := fnLostDoneRow.holds Try.pinned (OpenSpec.ofChange fnLostDoneSpec)

/-- ITS FALSE NEIGHBOUR: 'it returns false'. Refute it at one input. -/
def fnLostDoneWrong : ChangeSpec := { name := "fnLostDone", fn := fun _ => fun
  | [d] => { results := [.lit (.bool false)], args := [d] }
  | _ => none }
def FnLostDoneWrongFalsely : Prop := fnLostDoneRow.holds Try.pinned (OpenSpec.ofChange fnLostDoneWrong)

/-- 'laws.FnRoleDrop': WHATEVER THE INPUT: true; the input reads as it did. -/
def fnRoleDropSpec : ChangeSpec := { name := "fnRoleDrop", fn := fun _ => fun
  | [d] => { results := [.lit (.bool true)], args := [d] }
  | _ => none }
def fnRoleDropRow : OpenClaim := { program := "ytagejkfeceeifaa", sum := "0962e72593f5f212f9ff706e1589062e3fc98fcbcd229652a6da3ba4cc3059a1", func := "loop.example/chainfiles/laws.FnRoleDrop", spec := "fnRoleDrop", apart := false }
def FnRoleDropSaid : Prop := fnRoleDropRow.holds Try.pinned (OpenSpec.ofChange fnRoleDropSpec)

/-- ITS FALSE NEIGHBOUR: 'it returns false'. Refute it at one input. -/
def fnRoleDropWrong : ChangeSpec := { name := "fnRoleDrop", fn := fun _ => fun
  | [d] => { results := [.lit (.bool false)], args := [d] }
  | _ => none }
def FnRoleDropWrongFalsely : Prop := fnRoleDropRow.holds Try.pinned (OpenSpec.ofChange fnRoleDropWrong)

/-- 'laws.FnExactDropRole': WHATEVER THE INPUT: true; the input reads as it did. -/
def fnExactDropRoleSpec : ChangeSpec := { name := "fnExactDropRole", fn := fun _ => fun
  | [d1, d2] => { results := [.lit (.bool true)], args := [d1, d2] }
  | _ => none }
def fnExactDropRoleRow : OpenClaim := { program := "ytagejkfeceeifaa", sum := "0962e72593f5f212f9ff706e1589062e3fc98fcbcd229652a6da3ba4cc3059a1", func := "loop.example/chainfiles/laws.FnExactDropRole", spec := "fnExactDropRole", apart := false }
def FnExactDropRoleSaid : Prop := fnExactDropRoleRow.holds Try.pinned (OpenSpec.ofChange fnExactDropRoleSpec)

/-- ITS FALSE NEIGHBOUR: 'it returns false'. Refute it at one input. -/
def fnExactDropRoleWrong : ChangeSpec := { name := "fnExactDropRole", fn := fun _ => fun
  | [d1, d2] => { results := [.lit (.bool false)], args := [d1, d2] }
  | _ => none }
def FnExactDropRoleWrongFalsely : Prop := fnExactDropRoleRow.holds Try.pinned (OpenSpec.ofChange fnExactDropRoleWrong)

/-- 'laws.FnDrop': WHATEVER THE INPUT: true; the input reads as it did. -/
def fnDropSpec : ChangeSpec := { name := "fnDrop", fn := fun _ => fun
  | [d] => { results := [.lit (.bool true)], args := [d] }
  | _ => none }
def fnDropRow : OpenClaim := { program := "ytagejkfeceeifaa", sum := "0962e72593f5f212f9ff706e1589062e3fc98fcbcd229652a6da3ba4cc3059a1", func := "loop.example/chainfiles/laws.FnDrop", spec := "fnDrop", apart := false }
def FnDropSaid : Prop := fnDropRow.holds Try.pinned (OpenSpec.ofChange fnDropSpec)

/-- ITS FALSE NEIGHBOUR: 'it returns false'. Refute it at one input. -/
def fnDropWrong : ChangeSpec := { name := "fnDrop", fn := fun _ => fun
  | [d] => { results := [.lit (.bool false)], args := [d] }
  | _ => none }
def FnDropWrongFalsely : Prop := fnDropRow.holds Try.pinned (OpenSpec.ofChange fnDropWrong)

/-- 'laws.FnDropDone': WHATEVER THE INPUT: true; the input reads as it did. -/
def fnDropDoneSpec : ChangeSpec := { name := "fnDropDone", fn := fun _ => fun
  | [d] => { results := [.lit (.bool true)], args := [d] }
  | _ => none }
def fnDropDoneRow : OpenClaim := { program := "ytagejkfeceeifaa", sum := "0962e72593f5f212f9ff706e1589062e3fc98fcbcd229652a6da3ba4cc3059a1", func := "loop.example/chainfiles/laws.FnDropDone", spec := "fnDropDone", apart := false }
def FnDropDoneSaid : Prop := fnDropDoneRow.holds Try.pinned (OpenSpec.ofChange fnDropDoneSpec)

/-- ITS FALSE NEIGHBOUR: 'it returns false'. Refute it at one input. -/
def fnDropDoneWrong : ChangeSpec := { name := "fnDropDone", fn := fun _ => fun
  | [d] => { results := [.lit (.bool false)], args := [d] }
  | _ => none }
def FnDropDoneWrongFalsely : Prop := fnDropDoneRow.holds Try.pinned (OpenSpec.ofChange fnDropDoneWrong)

/-- 'laws.FnDropLogs': WHATEVER THE INPUT: true; the input reads as it did. -/
def fnDropLogsSpec : ChangeSpec := { name := "fnDropLogs", fn := fun _ => fun
  | [d] => { results := [.lit (.bool true)], args := [d] }
  | _ => none }
def fnDropLogsRow : OpenClaim := { program := "ytagejkfeceeifaa", sum := "0962e72593f5f212f9ff706e1589062e3fc98fcbcd229652a6da3ba4cc3059a1", func := "loop.example/chainfiles/laws.FnDropLogs", spec := "fnDropLogs", apart := false }
def FnDropLogsSaid : Prop := fnDropLogsRow.holds Try.pinned (OpenSpec.ofChange fnDropLogsSpec)

/-- ITS FALSE NEIGHBOUR: 'it returns false'. Refute it at one input. -/
def fnDropLogsWrong : ChangeSpec := { name := "fnDropLogs", fn := fun _ => fun
  | [d] => { results := [.lit (.bool false)], args := [d] }
  | _ => none }
def FnDropLogsWrongFalsely : Prop := fnDropLogsRow.holds Try.pinned (OpenSpec.ofChange fnDropLogsWrong)

/-- 'laws.FnDropTwo': WHATEVER THE INPUT: true; the input reads as it did. -/
def fnDropTwoSpec : ChangeSpec := { name := "fnDropTwo", fn := fun _ => fun
  | [d] => { results := [.lit (.bool true)], args := [d] }
  | _ => none }
def fnDropTwoRow : OpenClaim := { program := "ytagejkfeceeifaa", sum := "0962e72593f5f212f9ff706e1589062e3fc98fcbcd229652a6da3ba4cc3059a1", func := "loop.example/chainfiles/laws.FnDropTwo", spec := "fnDropTwo", apart := false }
def FnDropTwoSaid : Prop := fnDropTwoRow.holds Try.pinned (OpenSpec.ofChange fnDropTwoSpec)

/-- ITS FALSE NEIGHBOUR: 'it returns false'. Refute it at one input. -/
def fnDropTwoWrong : ChangeSpec := { name := "fnDropTwo", fn := fun _ => fun
  | [d] => { results := [.lit (.bool false)], args := [d] }
  | _ => none }
def FnDropTwoWrongFalsely : Prop := fnDropTwoRow.holds Try.pinned (OpenSpec.ofChange fnDropTwoWrong)

/-- 'laws.FnDropRead': WHATEVER THE INPUT: true; the input reads as it did. -/
def fnDropReadSpec : ChangeSpec := { name := "fnDropRead", fn := fun _ => fun
  | [d] => { results := [.lit (.bool true)], args := [d] }
  | _ => none }
def fnDropReadRow : OpenClaim := { program := "ytagejkfeceeifaa", sum := "0962e72593f5f212f9ff706e1589062e3fc98fcbcd229652a6da3ba4cc3059a1", func := "loop.example/chainfiles/laws.FnDropRead", spec := "fnDropRead", apart := false }
def FnDropReadSaid : Prop := fnDropReadRow.holds Try.pinned (OpenSpec.ofChange fnDropReadSpec)

/-- ITS FALSE NEIGHBOUR: 'it returns false'. Refute it at one input. -/
def fnDropReadWrong : ChangeSpec := { name := "fnDropRead", fn := fun _ => fun
  | [d] => { results := [.lit (.bool false)], args := [d] }
  | _ => none }
def FnDropReadWrongFalsely : Prop := fnDropReadRow.holds Try.pinned (OpenSpec.ofChange fnDropReadWrong)

/-- 'laws.FnAddNot': WHATEVER THE INPUT: true; the input reads as it did. -/
def fnAddNotSpec : ChangeSpec := { name := "fnAddNot", fn := fun _ => fun
  | [d] => { results := [.lit (.bool true)], args := [d] }
  | _ => none }
def fnAddNotRow : OpenClaim := { program := "ytagejkfeceeifaa", sum := "0962e72593f5f212f9ff706e1589062e3fc98fcbcd229652a6da3ba4cc3059a1", func := "loop.example/chainfiles/laws.FnAddNot", spec := "fnAddNot", apart := false }
def FnAddNotSaid : Prop := fnAddNotRow.holds Try.pinned (OpenSpec.ofChange fnAddNotSpec)

/-- ITS FALSE NEIGHBOUR: 'it returns false'. Refute it at one input. -/
def fnAddNotWrong : ChangeSpec := { name := "fnAddNot", fn := fun _ => fun
  | [d] => { results := [.lit (.bool false)], args := [d] }
  | _ => none }
def FnAddNotWrongFalsely : Prop := fnAddNotRow.holds Try.pinned (OpenSpec.ofChange fnAddNotWrong)

/- THE SECOND FORM. 'bulk': how many values and letters a reading holds, each counted each time it is reached (what is shared counts as often as it is met; a slice's spare places count too). A statement '..UptoSaid' is the law's where the arguments, and the package variables that the reading takes, are together of bulk at most 1048576: NARROWER than '..Said'. Prove '..Said' where nothing that the law and all that it calls make is longer than what came in: it says more and counts as full. Else prove '..UptoSaid'. A law counts once. -/
mutual
def uptoBulk {H : Type} : DataW H → Nat
  | .lit (.string bytes) => bytes.length + 1
  | .lit _ => 1
  | .nil => 1
  | .ptr d => uptoBulk d + 1
  | .slice elems spare => uptoBulkAll elems + uptoBulkAll spare + 1
  | .agg parts => uptoBulkAll parts + 1
  | .iface _ d => uptoBulk d + 1
  | .map entries => uptoBulkEntries entries + 1
  | .held _ => 1
def uptoBulkAll {H : Type} : List (DataW H) → Nat
  | [] => 0
  | d :: r => uptoBulk d + uptoBulkAll r
def uptoBulkEntries {H : Type} : List (Lit × DataW H) → Nat
  | [] => 0
  | x :: r => uptoBulkEntry x + uptoBulkEntries r
def uptoBulkEntry {H : Type} : Lit × DataW H → Nat
  | (.string bytes, d) => bytes.length + uptoBulk d + 1
  | (_, d) => uptoBulk d + 1
 end
def uptoSmall : (H : Type) → List (DataW H) → Bool := fun _ ds => decide (uptoBulkAll ds ≤ 1048576)
def OpenSpec.upto (s : _root_.Go.ChangeSpec) : _root_.Go.OpenSpec := { _root_.Go.OpenSpec.ofChange s with cond := some uptoSmall }

/-- 'laws.FnExactAddCost', WHERE WHAT IT READS IS OF BULK AT MOST 1048576: true; the input reads as it did. -/
def fnExactAddCostUptoRow : OpenClaim := { program := "ytagejkfeceeifaa", sum := "0962e72593f5f212f9ff706e1589062e3fc98fcbcd229652a6da3ba4cc3059a1", func := "loop.example/chainfiles/laws.FnExactAddCost", spec := "fnExactAddCost", apart := false, narrowed := true }
def FnExactAddCostUptoSaid : Prop := fnExactAddCostUptoRow.holds Try.pinned (OpenSpec.upto fnExactAddCostSpec)

/-- 'laws.FnAddCost', WHERE WHAT IT READS IS OF BULK AT MOST 1048576: true; the input reads as it did. -/
def fnAddCostUptoRow : OpenClaim := { program := "ytagejkfeceeifaa", sum := "0962e72593f5f212f9ff706e1589062e3fc98fcbcd229652a6da3ba4cc3059a1", func := "loop.example/chainfiles/laws.FnAddCost", spec := "fnAddCost", apart := false, narrowed := true }
def FnAddCostUptoSaid : Prop := fnAddCostUptoRow.holds Try.pinned (OpenSpec.upto fnAddCostSpec)

/-- 'laws.FnRole', WHERE WHAT IT READS IS OF BULK AT MOST 1048576: true; the input reads as it did. -/
def fnRoleUptoRow : OpenClaim := { program := "ytagejkfeceeifaa", sum := "0962e72593f5f212f9ff706e1589062e3fc98fcbcd229652a6da3ba4cc3059a1", func := "loop.example/chainfiles/laws.FnRole", spec := "fnRole", apart := false, narrowed := true }
def FnRoleUptoSaid : Prop := fnRoleUptoRow.holds Try.pinned (OpenSpec.upto fnRoleSpec)

/-- 'laws.FnLostDone', WHERE WHAT IT READS IS OF BULK AT MOST 1048576: true; the input reads as it did. -/
def fnLostDoneUptoRow : OpenClaim := { program := "ytagejkfeceeifaa", sum := "0962e72593f5f212f9ff706e1589062e3fc98fcbcd229652a6da3ba4cc3059a1", func := "loop.example/chainfiles/laws.FnLostDone", spec := "fnLostDone", apart := false, narrowed := true }
def FnLostDoneUptoSaid : Prop := fnLostDoneUptoRow.holds Try.pinned (OpenSpec.upto fnLostDoneSpec)

/-- 'laws.FnRoleDrop', WHERE WHAT IT READS IS OF BULK AT MOST 1048576: true; the input reads as it did. -/
def fnRoleDropUptoRow : OpenClaim := { program := "ytagejkfeceeifaa", sum := "0962e72593f5f212f9ff706e1589062e3fc98fcbcd229652a6da3ba4cc3059a1", func := "loop.example/chainfiles/laws.FnRoleDrop", spec := "fnRoleDrop", apart := false, narrowed := true }
def FnRoleDropUptoSaid : Prop := fnRoleDropUptoRow.holds Try.pinned (OpenSpec.upto fnRoleDropSpec)

/-- 'laws.FnExactDropRole', WHERE WHAT IT READS IS OF BULK AT MOST 1048576: true; the input reads as it did. -/
def fnExactDropRoleUptoRow : OpenClaim := { program := "ytagejkfeceeifaa", sum := "0962e72593f5f212f9ff706e1589062e3fc98fcbcd229652a6da3ba4cc3059a1", func := "loop.example/chainfiles/laws.FnExactDropRole", spec := "fnExactDropRole", apart := false, narrowed := true }
def FnExactDropRoleUptoSaid : Prop := fnExactDropRoleUptoRow.holds Try.pinned (OpenSpec.upto fnExactDropRoleSpec)

/-- 'laws.FnDrop', WHERE WHAT IT READS IS OF BULK AT MOST 1048576: true; the input reads as it did. -/
def fnDropUptoRow : OpenClaim := { program := "ytagejkfeceeifaa", sum := "0962e72593f5f212f9ff706e1589062e3fc98fcbcd229652a6da3ba4cc3059a1", func := "loop.example/chainfiles/laws.FnDrop", spec := "fnDrop", apart := false, narrowed := true }
def FnDropUptoSaid : Prop := fnDropUptoRow.holds Try.pinned (OpenSpec.upto fnDropSpec)

/-- 'laws.FnDropDone', WHERE WHAT IT READS IS OF BULK AT MOST 1048576: true; the input reads as it did. -/
def fnDropDoneUptoRow : OpenClaim := { program := "ytagejkfeceeifaa", sum := "0962e72593f5f212f9ff706e1589062e3fc98fcbcd229652a6da3ba4cc3059a1", func := "loop.example/chainfiles/laws.FnDropDone", spec := "fnDropDone", apart := false, narrowed := true }
def FnDropDoneUptoSaid : Prop := fnDropDoneUptoRow.holds Try.pinned (OpenSpec.upto fnDropDoneSpec)

/-- 'laws.FnDropLogs', WHERE WHAT IT READS IS OF BULK AT MOST 1048576: true; the input reads as it did. -/
def fnDropLogsUptoRow : OpenClaim := { program := "ytagejkfeceeifaa", sum := "0962e72593f5f212f9ff706e1589062e3fc98fcbcd229652a6da3ba4cc3059a1", func := "loop.example/chainfiles/laws.FnDropLogs", spec := "fnDropLogs", apart := false, narrowed := true }
def FnDropLogsUptoSaid : Prop := fnDropLogsUptoRow.holds Try.pinned (OpenSpec.upto fnDropLogsSpec)

/-- 'laws.FnDropTwo', WHERE WHAT IT READS IS OF BULK AT MOST 1048576: true; the input reads as it did. -/
def fnDropTwoUptoRow : OpenClaim := { program := "ytagejkfeceeifaa", sum := "0962e72593f5f212f9ff706e1589062e3fc98fcbcd229652a6da3ba4cc3059a1", func := "loop.example/chainfiles/laws.FnDropTwo", spec := "fnDropTwo", apart := false, narrowed := true }
def FnDropTwoUptoSaid : Prop := fnDropTwoUptoRow.holds Try.pinned (OpenSpec.upto fnDropTwoSpec)

/-- 'laws.FnDropRead', WHERE WHAT IT READS IS OF BULK AT MOST 1048576: true; the input reads as it did. -/
def fnDropReadUptoRow : OpenClaim := { program := "ytagejkfeceeifaa", sum := "0962e72593f5f212f9ff706e1589062e3fc98fcbcd229652a6da3ba4cc3059a1", func := "loop.example/chainfiles/laws.FnDropRead", spec := "fnDropRead", apart := false, narrowed := true }
def FnDropReadUptoSaid : Prop := fnDropReadUptoRow.holds Try.pinned (OpenSpec.upto fnDropReadSpec)

/-- 'laws.FnAddNot', WHERE WHAT IT READS IS OF BULK AT MOST 1048576: true; the input reads as it did. -/
def fnAddNotUptoRow : OpenClaim := { program := "ytagejkfeceeifaa", sum := "0962e72593f5f212f9ff706e1589062e3fc98fcbcd229652a6da3ba4cc3059a1", func := "loop.example/chainfiles/laws.FnAddNot", spec := "fnAddNot", apart := false, narrowed := true }
def FnAddNotUptoSaid : Prop := fnAddNotUptoRow.holds Try.pinned (OpenSpec.upto fnAddNotSpec)

end Rows
end Go.Proofs.Ytagejkfeceeifaa
