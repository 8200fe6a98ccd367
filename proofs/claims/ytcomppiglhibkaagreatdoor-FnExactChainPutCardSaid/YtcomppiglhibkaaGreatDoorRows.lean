/-
  NARROWER THAN 'FOR EVERY INPUT', by the rows' own cells (each row's printed sentence says how): FnChainPut: ifaces, laid · FnExactChainPut: ifaces, laid.
  DERIVED. THE GIVEN ROWS OF THIS SEAT. 2 by the template 'for every input the law returns true; each argument reads behind the call as it read before'; 0 by the template 'total and deterministic' (their statements: YtcomppiglhibkaaGreatDoorTotals.lean).
  GIVEN WITH THE SEED: the statements are not yours to turn. If you find one false, say at which input.
  Laid BY PROGRAM, IN A SANDBOX (cutbox-rows.mjs): the forced cells as the released guide's own fill.sh prints them over the translation 302d6c3f2984756f… (all of the seat's roots in one cut). By AI agents, Wed Nov 11 2026. No macro, syntax, notation, axiom, sorry.
-/
import Derived.Test.YtcomppiglhibkaaGreatDoorChecked
import GoSem.Claim
import GoSem.ClaimJoined
import GoSem.ClaimMapViews
import Derived.JoinedTies
import Derived.KernelRfl
namespace Go.Proofs.YtcomppiglhibkaaGreatDoor
/- THE CELL 'sum', in the pinned program and in every row, IS THE sha256 OF THE DUMP (.gsa) THAT YtcomppiglhibkaaGreatDoorProg.lean LOADS. Nothing in Lean hashes anything: it is a label: what it is worth is what the hold of that sum in a sandbox is worth. -/
noncomputable def Tryz.pinned : Pinned := { name := "ytcomppiglhibkaagreatdoor", sum := "302d6c3f2984756fd008a9e4aec117d5b67cba5b1022f6e3bc00af271c628e5f", checked := Tryz.checked }
namespace Rows
def none {H : Type} : Left H := { results := [], args := [] }

/- WHAT THE LISTED PACKAGE-LEVEL VARIABLES READ AS WHEN THE CALL BEGINS. Each datum BY PROGRAM (the guide's laid-datum.mjs) off the statement by which the dump's own 'gosem.cut.vars' lays the variable. In a bare row this is a premise. The card (YtcomppiglhibkaaGreatDoorCards.lean) ties it to the program's text. -/
def laid_loop_example_chainfiles_impl_errTake {H : Type} : DataW H := .iface "*errors.errorString" (.ptr (.agg [.lit (.string [116, 104, 101, 32, 110, 111, 100, 101, 32, 99, 97, 110, 32, 110, 111, 116, 32, 116, 97, 107, 101, 32, 116, 104, 101, 32, 117, 112, 100, 97, 116, 101])]))

/-- 'laws.FnChainPut': WHATEVER THE INPUT: true; the input reads as it did. -/
def fnChainPutSpec : ChangeSpec := { name := "fnChainPut", vars := ["loop.example/chainfiles/impl.errTake"], fn := fun _ => fun
  | [d, g1] => { results := [.lit (.bool true)], args := [d], vars := [g1] }
  | _ => none }
def fnChainPutRow : OpenClaim := { program := "ytcomppiglhibkaagreatdoor", sum := "302d6c3f2984756fd008a9e4aec117d5b67cba5b1022f6e3bc00af271c628e5f", func := "loop.example/chainfiles/laws.FnChainPut", spec := "fnChainPut", inPlace := ["internal/reflectlite.TypeOf", "(*sync.WaitGroup).Add", "internal/race.ReleaseMerge", "internal/race.Disable", "internal/race.Enable", "internal/synctest.IsInBubble", "internal/synctest.Associate[sync.WaitGroup]", "sync.fatal", "sync/atomic.OrUint64", "sync/atomic.AddUint64", "internal/race.Read", "sync/atomic.LoadUint64", "sync/atomic.StoreUint64", "internal/synctest.Disassociate[sync.WaitGroup]", "sync.runtime_Semrelease", "(*sync.WaitGroup).Done", "(*sync.WaitGroup).Wait", "internal/race.Acquire", "internal/synctest.IsAssociated[sync.WaitGroup]", "sync/atomic.CompareAndSwapUint64", "internal/race.Write", "sync.runtime_SemacquireWaitGroup"], unfollowed := true, recurses := true, named := ["loop.example/chainfiles/impl.errTake"], ifaces := true, leaving := true, apart := false, laid := [("loop.example/chainfiles/impl.errTake", laid_loop_example_chainfiles_impl_errTake)] }
def FnChainPutSaid : Prop := fnChainPutRow.holds Tryz.pinned (OpenSpec.ofChange fnChainPutSpec)

/-- ITS FALSE NEIGHBOUR: 'it returns false'. Refute it at one input. -/
def fnChainPutWrong : ChangeSpec := { name := "fnChainPut", vars := ["loop.example/chainfiles/impl.errTake"], fn := fun _ => fun
  | [d, g1] => { results := [.lit (.bool false)], args := [d], vars := [g1] }
  | _ => none }
def FnChainPutWrongFalsely : Prop := fnChainPutRow.holds Tryz.pinned (OpenSpec.ofChange fnChainPutWrong)

/-- 'laws.FnExactChainPut': WHATEVER THE INPUT: true; the input reads as it did. -/
def fnExactChainPutSpec : ChangeSpec := { name := "fnExactChainPut", vars := ["loop.example/chainfiles/impl.errTake"], fn := fun _ => fun
  | [d1, d2, g1] => { results := [.lit (.bool true)], args := [d1, d2], vars := [g1] }
  | _ => none }
def fnExactChainPutRow : OpenClaim := { program := "ytcomppiglhibkaagreatdoor", sum := "302d6c3f2984756fd008a9e4aec117d5b67cba5b1022f6e3bc00af271c628e5f", func := "loop.example/chainfiles/laws.FnExactChainPut", spec := "fnExactChainPut", inPlace := ["internal/reflectlite.TypeOf", "(*sync.WaitGroup).Add", "internal/race.ReleaseMerge", "internal/race.Disable", "internal/race.Enable", "internal/synctest.IsInBubble", "internal/synctest.Associate[sync.WaitGroup]", "sync.fatal", "sync/atomic.OrUint64", "sync/atomic.AddUint64", "internal/race.Read", "sync/atomic.LoadUint64", "sync/atomic.StoreUint64", "internal/synctest.Disassociate[sync.WaitGroup]", "sync.runtime_Semrelease", "(*sync.WaitGroup).Done", "(*sync.WaitGroup).Wait", "internal/race.Acquire", "internal/synctest.IsAssociated[sync.WaitGroup]", "sync/atomic.CompareAndSwapUint64", "internal/race.Write", "sync.runtime_SemacquireWaitGroup"], unfollowed := true, recurses := true, named := ["loop.example/chainfiles/impl.errTake"], ifaces := true, leaving := true, apart := false, laid := [("loop.example/chainfiles/impl.errTake", laid_loop_example_chainfiles_impl_errTake)] }
def FnExactChainPutSaid : Prop := fnExactChainPutRow.holds Tryz.pinned (OpenSpec.ofChange fnExactChainPutSpec)

/-- ITS FALSE NEIGHBOUR: 'it returns false'. Refute it at one input. -/
def fnExactChainPutWrong : ChangeSpec := { name := "fnExactChainPut", vars := ["loop.example/chainfiles/impl.errTake"], fn := fun _ => fun
  | [d1, d2, g1] => { results := [.lit (.bool false)], args := [d1, d2], vars := [g1] }
  | _ => none }
def FnExactChainPutWrongFalsely : Prop := fnExactChainPutRow.holds Tryz.pinned (OpenSpec.ofChange fnExactChainPutWrong)

/- THE SECOND FORM. 'bulk': how many values and letters a reading holds, each counted each time it is reached (what is shared counts as often as it is met; a slice's spare places count too). A statement '..UptoSaid' is the law's where the arguments, and the package variables that the reading takes, are together of bulk at most 1048576: NARROWER than '..Said'. Prove '..Said' where nothing that the law and all that it calls make is longer than what came in: it says more and counts as full. Else prove '..UptoSaid'. A law counts once. -/
mutual
def uptoBulk {H : Type} : DataW H → Nat
  | .lit (.string bytes) => bytes.length + 1
  | .lit _ => 1
  | .nil => 1
  | .ptr d => uptoBulk d + 1
  | .slice elems spare => uptoBulkAll elems + uptoBulkAll spare + 1
  | .agg parts => uptoBulkAll parts + 1
  | .iface _ d => uptoBulk d + 1
  | .map entries => uptoBulkEntries entries + 1
  | .held _ => 1
def uptoBulkAll {H : Type} : List (DataW H) → Nat
  | [] => 0
  | d :: r => uptoBulk d + uptoBulkAll r
def uptoBulkEntries {H : Type} : List (Lit × DataW H) → Nat
  | [] => 0
  | x :: r => uptoBulkEntry x + uptoBulkEntries r
def uptoBulkEntry {H : Type} : Lit × DataW H → Nat
  | (.string bytes, d) => bytes.length + uptoBulk d + 1
  | (_, d) => uptoBulk d + 1
 end
def uptoSmall : (H : Type) → List (DataW H) → Bool := fun _ ds => decide (uptoBulkAll ds ≤ 1048576)
def OpenSpec.upto (s : _root_.Go.ChangeSpec) : _root_.Go.OpenSpec := { _root_.Go.OpenSpec.ofChange s with cond := some uptoSmall }

/-- 'laws.FnChainPut', WHERE WHAT IT READS IS OF BULK AT MOST 1048576: true; the input reads as it did. -/
def fnChainPutUptoRow : OpenClaim := { program := "ytcomppiglhibkaagreatdoor", sum := "302d6c3f2984756fd008a9e4aec117d5b67cba5b1022f6e3bc00af271c628e5f", func := "loop.example/chainfiles/laws.FnChainPut", spec := "fnChainPut", inPlace := ["internal/reflectlite.TypeOf", "(*sync.WaitGroup).Add", "internal/race.ReleaseMerge", "internal/race.Disable", "internal/race.Enable", "internal/synctest.IsInBubble", "internal/synctest.Associate[sync.WaitGroup]", "sync.fatal", "sync/atomic.OrUint64", "sync/atomic.AddUint64", "internal/race.Read", "sync/atomic.LoadUint64", "sync/atomic.StoreUint64", "internal/synctest.Disassociate[sync.WaitGroup]", "sync.runtime_Semrelease", "(*sync.WaitGroup).Done", "(*sync.WaitGroup).Wait", "internal/race.Acquire", "internal/synctest.IsAssociated[sync.WaitGroup]", "sync/atomic.CompareAndSwapUint64", "internal/race.Write", "sync.runtime_SemacquireWaitGroup"], unfollowed := true, recurses := true, named := ["loop.example/chainfiles/impl.errTake"], ifaces := true, leaving := true, apart := false, laid := [("loop.example/chainfiles/impl.errTake", laid_loop_example_chainfiles_impl_errTake)], narrowed := true }
def FnChainPutUptoSaid : Prop := fnChainPutUptoRow.holds Tryz.pinned (OpenSpec.upto fnChainPutSpec)

/-- 'laws.FnExactChainPut', WHERE WHAT IT READS IS OF BULK AT MOST 1048576: true; the input reads as it did. -/
def fnExactChainPutUptoRow : OpenClaim := { program := "ytcomppiglhibkaagreatdoor", sum := "302d6c3f2984756fd008a9e4aec117d5b67cba5b1022f6e3bc00af271c628e5f", func := "loop.example/chainfiles/laws.FnExactChainPut", spec := "fnExactChainPut", inPlace := ["internal/reflectlite.TypeOf", "(*sync.WaitGroup).Add", "internal/race.ReleaseMerge", "internal/race.Disable", "internal/race.Enable", "internal/synctest.IsInBubble", "internal/synctest.Associate[sync.WaitGroup]", "sync.fatal", "sync/atomic.OrUint64", "sync/atomic.AddUint64", "internal/race.Read", "sync/atomic.LoadUint64", "sync/atomic.StoreUint64", "internal/synctest.Disassociate[sync.WaitGroup]", "sync.runtime_Semrelease", "(*sync.WaitGroup).Done", "(*sync.WaitGroup).Wait", "internal/race.Acquire", "internal/synctest.IsAssociated[sync.WaitGroup]", "sync/atomic.CompareAndSwapUint64", "internal/race.Write", "sync.runtime_SemacquireWaitGroup"], unfollowed := true, recurses := true, named := ["loop.example/chainfiles/impl.errTake"], ifaces := true, leaving := true, apart := false, laid := [("loop.example/chainfiles/impl.errTake", laid_loop_example_chainfiles_impl_errTake)], narrowed := true }
def FnExactChainPutUptoSaid : Prop := fnExactChainPutUptoRow.holds Tryz.pinned (OpenSpec.upto fnExactChainPutSpec)

end Rows
end Go.Proofs.YtcomppiglhibkaaGreatDoor
