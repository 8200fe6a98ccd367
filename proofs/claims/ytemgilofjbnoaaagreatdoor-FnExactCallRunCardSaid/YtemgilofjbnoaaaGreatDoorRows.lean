/-
  NARROWER THAN 'FOR EVERY INPUT', by the rows' own cells (each row's printed sentence says how): FnCallOthers: ifaces, laid · FnCallRead: ifaces, laid · FnExactCallRun: ifaces, laid · FnCall: ifaces, laid · FnCallNew: ifaces, laid · FnCallOld: ifaces, laid.
  DERIVED. THE GIVEN ROWS OF THIS SEAT. 6 by the template 'for every input the law returns true; each argument reads behind the call as it read before'; 0 by the template 'total and deterministic' (their statements: YtemgilofjbnoaaaGreatDoorTotals.lean).
  GIVEN WITH THE SEED: the statements are not yours to turn. If you find one false, say at which input.
  Laid BY PROGRAM, IN A SANDBOX (cutbox-rows.mjs): the forced cells as the released guide's own fill.sh prints them over the translation 697fd86f2e7bb784… (all of the seat's roots in one cut). By AI agents, Wed Nov 11 2026. No macro, syntax, notation, axiom, sorry.
-/
import Derived.Test.YtemgilofjbnoaaaGreatDoorChecked
import GoSem.Claim
import GoSem.ClaimJoined
import GoSem.ClaimMapViews
import Derived.JoinedTies
import Derived.KernelRfl
namespace Go.Proofs.YtemgilofjbnoaaaGreatDoor
/- THE CELL 'sum', in the pinned program and in every row, IS THE sha256 OF THE DUMP (.gsa) THAT YtemgilofjbnoaaaGreatDoorProg.lean LOADS. Nothing in Lean hashes anything: it is a label: what it is worth is what the hold of that sum in a sandbox is worth. -/
noncomputable def Tryz.pinned : Pinned := { name := "ytemgilofjbnoaaagreatdoor", sum := "697fd86f2e7bb784da9f799935d0bc79a6283430ad34e1f33bdb484df40a1d98", checked := Tryz.checked }
namespace Rows
def none {H : Type} : Left H := { results := [], args := [] }

/- WHAT THE LISTED PACKAGE-LEVEL VARIABLES READ AS WHEN THE CALL BEGINS. Each datum BY PROGRAM (the guide's laid-datum.mjs) off the statement by which the dump's own 'gosem.cut.vars' lays the variable. In a bare row this is a premise. The card (YtemgilofjbnoaaaGreatDoorCards.lean) ties it to the program's text. -/
def laid_loop_example_chainfiles_impl_errTake {H : Type} : DataW H := .iface "*errors.errorString" (.ptr (.agg [.lit (.string [116, 104, 101, 32, 110, 111, 100, 101, 32, 99, 97, 110, 32, 110, 111, 116, 32, 116, 97, 107, 101, 32, 116, 104, 101, 32, 117, 112, 100, 97, 116, 101])]))

/-- 'laws.FnCallOthers': WHATEVER THE INPUT: true; the input reads as it did. -/
def fnCallOthersSpec : ChangeSpec := { name := "fnCallOthers", vars := ["loop.example/chainfiles/impl.errTake"], fn := fun _ => fun
  | [d, g1] => { results := [.lit (.bool true)], args := [d], vars := [g1] }
  | _ => none }
def fnCallOthersRow : OpenClaim := { program := "ytemgilofjbnoaaagreatdoor", sum := "697fd86f2e7bb784da9f799935d0bc79a6283430ad34e1f33bdb484df40a1d98", func := "loop.example/chainfiles/laws.FnCallOthers", spec := "fnCallOthers", inPlace := ["internal/reflectlite.TypeOf", "(*sync.WaitGroup).Add", "internal/race.ReleaseMerge", "internal/race.Disable", "internal/race.Enable", "internal/synctest.IsInBubble", "internal/synctest.Associate[sync.WaitGroup]", "sync.fatal", "sync/atomic.OrUint64", "sync/atomic.AddUint64", "internal/race.Read", "sync/atomic.LoadUint64", "sync/atomic.StoreUint64", "internal/synctest.Disassociate[sync.WaitGroup]", "sync.runtime_Semrelease", "(*sync.WaitGroup).Done", "(*sync.WaitGroup).Wait", "internal/race.Acquire", "internal/synctest.IsAssociated[sync.WaitGroup]", "sync/atomic.CompareAndSwapUint64", "internal/race.Write", "sync.runtime_SemacquireWaitGroup"], unfollowed := true, recurses := true, named := ["loop.example/chainfiles/impl.errTake"], ifaces := true, leaving := true, apart := false, laid := [("loop.example/chainfiles/impl.errTake", laid_loop_example_chainfiles_impl_errTake)] }
def FnCallOthersSaid : Prop := fnCallOthersRow.holds Tryz.pinned (OpenSpec.ofChange fnCallOthersSpec)

/-- ITS FALSE NEIGHBOUR: 'it returns false'. Refute it at one input. -/
def fnCallOthersWrong : ChangeSpec := { name := "fnCallOthers", vars := ["loop.example/chainfiles/impl.errTake"], fn := fun _ => fun
  | [d, g1] => { results := [.lit (.bool false)], args := [d], vars := [g1] }
  | _ => none }
def FnCallOthersWrongFalsely : Prop := fnCallOthersRow.holds Tryz.pinned (OpenSpec.ofChange fnCallOthersWrong)

/-- 'laws.FnCallRead': WHATEVER THE INPUT: true; the input reads as it did. -/
def fnCallReadSpec : ChangeSpec := { name := "fnCallRead", vars := ["loop.example/chainfiles/impl.errTake"], fn := fun _ => fun
  | [d, g1] => { results := [.lit (.bool true)], args := [d], vars := [g1] }
  | _ => none }
def fnCallReadRow : OpenClaim := { program := "ytemgilofjbnoaaagreatdoor", sum := "697fd86f2e7bb784da9f799935d0bc79a6283430ad34e1f33bdb484df40a1d98", func := "loop.example/chainfiles/laws.FnCallRead", spec := "fnCallRead", inPlace := ["internal/reflectlite.TypeOf", "(*sync.WaitGroup).Add", "internal/race.ReleaseMerge", "internal/race.Disable", "internal/race.Enable", "internal/synctest.IsInBubble", "internal/synctest.Associate[sync.WaitGroup]", "sync.fatal", "sync/atomic.OrUint64", "sync/atomic.AddUint64", "internal/race.Read", "sync/atomic.LoadUint64", "sync/atomic.StoreUint64", "internal/synctest.Disassociate[sync.WaitGroup]", "sync.runtime_Semrelease", "(*sync.WaitGroup).Done", "(*sync.WaitGroup).Wait", "internal/race.Acquire", "internal/synctest.IsAssociated[sync.WaitGroup]", "sync/atomic.CompareAndSwapUint64", "internal/race.Write", "sync.runtime_SemacquireWaitGroup"], unfollowed := true, recurses := true, named := ["loop.example/chainfiles/impl.errTake"], ifaces := true, leaving := true, apart := false, laid := [("loop.example/chainfiles/impl.errTake", laid_loop_example_chainfiles_impl_errTake)] }
def FnCallReadSaid : Prop := fnCallReadRow.holds Tryz.pinned (OpenSpec.ofChange fnCallReadSpec)

/-- ITS FALSE NEIGHBOUR: 'it returns false'. Refute it at one input. -/
def fnCallReadWrong : ChangeSpec := { name := "fnCallRead", vars := ["loop.example/chainfiles/impl.errTake"], fn := fun _ => fun
  | [d, g1] => { results := [.lit (.bool false)], args := [d], vars := [g1] }
  | _ => none }
def FnCallReadWrongFalsely : Prop := fnCallReadRow.holds Tryz.pinned (OpenSpec.ofChange fnCallReadWrong)

/-- 'laws.FnExactCallRun': WHATEVER THE INPUT: true; the input reads as it did. -/
def fnExactCallRunSpec : ChangeSpec := { name := "fnExactCallRun", vars := ["loop.example/chainfiles/impl.errTake"], fn := fun _ => fun
  | [d1, d2, d3, g1] => { results := [.lit (.bool true)], args := [d1, d2, d3], vars := [g1] }
  | _ => none }
def fnExactCallRunRow : OpenClaim := { program := "ytemgilofjbnoaaagreatdoor", sum := "697fd86f2e7bb784da9f799935d0bc79a6283430ad34e1f33bdb484df40a1d98", func := "loop.example/chainfiles/laws.FnExactCallRun", spec := "fnExactCallRun", inPlace := ["internal/reflectlite.TypeOf", "(*sync.WaitGroup).Add", "internal/race.ReleaseMerge", "internal/race.Disable", "internal/race.Enable", "internal/synctest.IsInBubble", "internal/synctest.Associate[sync.WaitGroup]", "sync.fatal", "sync/atomic.OrUint64", "sync/atomic.AddUint64", "internal/race.Read", "sync/atomic.LoadUint64", "sync/atomic.StoreUint64", "internal/synctest.Disassociate[sync.WaitGroup]", "sync.runtime_Semrelease", "(*sync.WaitGroup).Done", "(*sync.WaitGroup).Wait", "internal/race.Acquire", "internal/synctest.IsAssociated[sync.WaitGroup]", "sync/atomic.CompareAndSwapUint64", "internal/race.Write", "sync.runtime_SemacquireWaitGroup"], unfollowed := true, recurses := true, named := ["loop.example/chainfiles/impl.errTake"], ifaces := true, leaving := true, apart := false, laid := [("loop.example/chainfiles/impl.errTake", laid_loop_example_chainfiles_impl_errTake)] }
def FnExactCallRunSaid : Prop := fnExactCallRunRow.holds Tryz.pinned (OpenSpec.ofChange fnExactCallRunSpec)

/-- ITS FALSE NEIGHBOUR: 'it returns false'. Refute it at one input. -/
def fnExactCallRunWrong : ChangeSpec := { name := "fnExactCallRun", vars := ["loop.example/chainfiles/impl.errTake"], fn := fun _ => fun
  | [d1, d2, d3, g1] => { results := [.lit (.bool false)], args := [d1, d2, d3], vars := [g1] }
  | _ => none }
def FnExactCallRunWrongFalsely : Prop := fnExactCallRunRow.holds Tryz.pinned (OpenSpec.ofChange fnExactCallRunWrong)

/-- 'laws.FnCall': WHATEVER THE INPUT: true; the input reads as it did. -/
def fnCallSpec : ChangeSpec := { name := "fnCall", vars := ["loop.example/chainfiles/impl.errTake"], fn := fun _ => fun
  | [d, g1] => { results := [.lit (.bool true)], args := [d], vars := [g1] }
  | _ => none }
def fnCallRow : OpenClaim := { program := "ytemgilofjbnoaaagreatdoor", sum := "697fd86f2e7bb784da9f799935d0bc79a6283430ad34e1f33bdb484df40a1d98", func := "loop.example/chainfiles/laws.FnCall", spec := "fnCall", inPlace := ["internal/reflectlite.TypeOf", "(*sync.WaitGroup).Add", "internal/race.ReleaseMerge", "internal/race.Disable", "internal/race.Enable", "internal/synctest.IsInBubble", "internal/synctest.Associate[sync.WaitGroup]", "sync.fatal", "sync/atomic.OrUint64", "sync/atomic.AddUint64", "internal/race.Read", "sync/atomic.LoadUint64", "sync/atomic.StoreUint64", "internal/synctest.Disassociate[sync.WaitGroup]", "sync.runtime_Semrelease", "(*sync.WaitGroup).Done", "(*sync.WaitGroup).Wait", "internal/race.Acquire", "internal/synctest.IsAssociated[sync.WaitGroup]", "sync/atomic.CompareAndSwapUint64", "internal/race.Write", "sync.runtime_SemacquireWaitGroup"], unfollowed := true, recurses := true, named := ["loop.example/chainfiles/impl.errTake"], ifaces := true, leaving := true, apart := false, laid := [("loop.example/chainfiles/impl.errTake", laid_loop_example_chainfiles_impl_errTake)] }
def FnCallSaid : Prop := fnCallRow.holds Tryz.pinned (OpenSpec.ofChange fnCallSpec)

/-- ITS FALSE NEIGHBOUR: 'it returns false'. Refute it at one input. -/
def fnCallWrong : ChangeSpec := { name := "fnCall", vars := ["loop.example/chainfiles/impl.errTake"], fn := fun _ => fun
  | [d, g1] => { results := [.lit (.bool false)], args := [d], vars := [g1] }
  | _ => none }
def FnCallWrongFalsely : Prop := fnCallRow.holds Tryz.pinned (OpenSpec.ofChange fnCallWrong)

/-- 'laws.FnCallNew': WHATEVER THE INPUT: true; the input reads as it did. -/
def fnCallNewSpec : ChangeSpec := { name := "fnCallNew", vars := ["loop.example/chainfiles/impl.errTake"], fn := fun _ => fun
  | [d, g1] => { results := [.lit (.bool true)], args := [d], vars := [g1] }
  | _ => none }
def fnCallNewRow : OpenClaim := { program := "ytemgilofjbnoaaagreatdoor", sum := "697fd86f2e7bb784da9f799935d0bc79a6283430ad34e1f33bdb484df40a1d98", func := "loop.example/chainfiles/laws.FnCallNew", spec := "fnCallNew", inPlace := ["internal/reflectlite.TypeOf", "(*sync.WaitGroup).Add", "internal/race.ReleaseMerge", "internal/race.Disable", "internal/race.Enable", "internal/synctest.IsInBubble", "internal/synctest.Associate[sync.WaitGroup]", "sync.fatal", "sync/atomic.OrUint64", "sync/atomic.AddUint64", "internal/race.Read", "sync/atomic.LoadUint64", "sync/atomic.StoreUint64", "internal/synctest.Disassociate[sync.WaitGroup]", "sync.runtime_Semrelease", "(*sync.WaitGroup).Done", "(*sync.WaitGroup).Wait", "internal/race.Acquire", "internal/synctest.IsAssociated[sync.WaitGroup]", "sync/atomic.CompareAndSwapUint64", "internal/race.Write", "sync.runtime_SemacquireWaitGroup"], unfollowed := true, recurses := true, named := ["loop.example/chainfiles/impl.errTake"], ifaces := true, leaving := true, apart := false, laid := [("loop.example/chainfiles/impl.errTake", laid_loop_example_chainfiles_impl_errTake)] }
def FnCallNewSaid : Prop := fnCallNewRow.holds Tryz.pinned (OpenSpec.ofChange fnCallNewSpec)

/-- ITS FALSE NEIGHBOUR: 'it returns false'. Refute it at one input. -/
def fnCallNewWrong : ChangeSpec := { name := "fnCallNew", vars := ["loop.example/chainfiles/impl.errTake"], fn := fun _ => fun
  | [d, g1] => { results := [.lit (.bool false)], args := [d], vars := [g1] }
  | _ => none }
def FnCallNewWrongFalsely : Prop := fnCallNewRow.holds Tryz.pinned (OpenSpec.ofChange fnCallNewWrong)

/-- 'laws.FnCallOld': WHATEVER THE INPUT: true; the input reads as it did. -/
def fnCallOldSpec : ChangeSpec := { name := "fnCallOld", vars := ["loop.example/chainfiles/impl.errTake"], fn := fun _ => fun
  | [d, g1] => { results := [.lit (.bool true)], args := [d], vars := [g1] }
  | _ => none }
def fnCallOldRow : OpenClaim := { program := "ytemgilofjbnoaaagreatdoor", sum := "697fd86f2e7bb784da9f799935d0bc79a6283430ad34e1f33bdb484df40a1d98", func := "loop.example/chainfiles/laws.FnCallOld", spec := "fnCallOld", inPlace := ["internal/reflectlite.TypeOf", "(*sync.WaitGroup).Add", "internal/race.ReleaseMerge", "internal/race.Disable", "internal/race.Enable", "internal/synctest.IsInBubble", "internal/synctest.Associate[sync.WaitGroup]", "sync.fatal", "sync/atomic.OrUint64", "sync/atomic.AddUint64", "internal/race.Read", "sync/atomic.LoadUint64", "sync/atomic.StoreUint64", "internal/synctest.Disassociate[sync.WaitGroup]", "sync.runtime_Semrelease", "(*sync.WaitGroup).Done", "(*sync.WaitGroup).Wait", "internal/race.Acquire", "internal/synctest.IsAssociated[sync.WaitGroup]", "sync/atomic.CompareAndSwapUint64", "internal/race.Write", "sync.runtime_SemacquireWaitGroup"], unfollowed := true, recurses := true, named := ["loop.example/chainfiles/impl.errTake"], ifaces := true, leaving := true, apart := false, laid := [("loop.example/chainfiles/impl.errTake", laid_loop_example_chainfiles_impl_errTake)] }
def FnCallOldSaid : Prop := fnCallOldRow.holds Tryz.pinned (OpenSpec.ofChange fnCallOldSpec)

/-- ITS FALSE NEIGHBOUR: 'it returns false'. Refute it at one input. -/
def fnCallOldWrong : ChangeSpec := { name := "fnCallOld", vars := ["loop.example/chainfiles/impl.errTake"], fn := fun _ => fun
  | [d, g1] => { results := [.lit (.bool false)], args := [d], vars := [g1] }
  | _ => none }
def FnCallOldWrongFalsely : Prop := fnCallOldRow.holds Tryz.pinned (OpenSpec.ofChange fnCallOldWrong)

/- THE SECOND FORM. 'bulk': how many values and letters a reading holds, each counted each time it is reached (what is shared counts as often as it is met; a slice's spare places count too). A statement '..UptoSaid' is the law's where the arguments, and the package variables that the reading takes, are together of bulk at most 1048576: NARROWER than '..Said'. Prove '..Said' where nothing that the law and all that it calls make is longer than what came in: it says more and counts as full. Else prove '..UptoSaid'. A law counts once. -/
mutual
def uptoBulk {H : Type} : DataW H → Nat
  | .lit (.string bytes) => bytes.length + 1
  | .lit _ => 1
  | .nil => 1
  | .ptr d => uptoBulk d + 1
  | .slice elems spare => uptoBulkAll elems + uptoBulkAll spare + 1
  | .agg parts => uptoBulkAll parts + 1
  | .iface _ d => uptoBulk d + 1
  | .map entries => uptoBulkEntries entries + 1
  | .held _ => 1
def uptoBulkAll {H : Type} : List (DataW H) → Nat
  | [] => 0
  | d :: r => uptoBulk d + uptoBulkAll r
def uptoBulkEntries {H : Type} : List (Lit × DataW H) → Nat
  | [] => 0
  | x :: r => uptoBulkEntry x + uptoBulkEntries r
def uptoBulkEntry {H : Type} : Lit × DataW H → Nat
  | (.string bytes, d) => bytes.length + uptoBulk d + 1
  | (_, d) => uptoBulk d + 1
 end
def uptoSmall : (H : Type) → List (DataW H) → Bool := fun _ ds => decide (uptoBulkAll ds ≤ 1048576)
def OpenSpec.upto (s : _root_.Go.ChangeSpec) : _root_.Go.OpenSpec := { _root_.Go.OpenSpec.ofChange s with cond := some uptoSmall }

/-- 'laws.FnCallOthers', WHERE WHAT IT READS IS OF BULK AT MOST 1048576: true; the input reads as it did. -/
def fnCallOthersUptoRow : OpenClaim := { program := "ytemgilofjbnoaaagreatdoor", sum := "697fd86f2e7bb784da9f799935d0bc79a6283430ad34e1f33bdb484df40a1d98", func := "loop.example/chainfiles/laws.FnCallOthers", spec := "fnCallOthers", inPlace := ["internal/reflectlite.TypeOf", "(*sync.WaitGroup).Add", "internal/race.ReleaseMerge", "internal/race.Disable", "internal/race.Enable", "internal/synctest.IsInBubble", "internal/synctest.Associate[sync.WaitGroup]", "sync.fatal", "sync/atomic.OrUint64", "sync/atomic.AddUint64", "internal/race.Read", "sync/atomic.LoadUint64", "sync/atomic.StoreUint64", "internal/synctest.Disassociate[sync.WaitGroup]", "sync.runtime_Semrelease", "(*sync.WaitGroup).Done", "(*sync.WaitGroup).Wait", "internal/race.Acquire", "internal/synctest.IsAssociated[sync.WaitGroup]", "sync/atomic.CompareAndSwapUint64", "internal/race.Write", "sync.runtime_SemacquireWaitGroup"], unfollowed := true, recurses := true, named := ["loop.example/chainfiles/impl.errTake"], ifaces := true, leaving := true, apart := false, laid := [("loop.example/chainfiles/impl.errTake", laid_loop_example_chainfiles_impl_errTake)], narrowed := true }
def FnCallOthersUptoSaid : Prop := fnCallOthersUptoRow.holds Tryz.pinned (OpenSpec.upto fnCallOthersSpec)

/-- 'laws.FnCallRead', WHERE WHAT IT READS IS OF BULK AT MOST 1048576: true; the input reads as it did. -/
def fnCallReadUptoRow : OpenClaim := { program := "ytemgilofjbnoaaagreatdoor", sum := "697fd86f2e7bb784da9f799935d0bc79a6283430ad34e1f33bdb484df40a1d98", func := "loop.example/chainfiles/laws.FnCallRead", spec := "fnCallRead", inPlace := ["internal/reflectlite.TypeOf", "(*sync.WaitGroup).Add", "internal/race.ReleaseMerge", "internal/race.Disable", "internal/race.Enable", "internal/synctest.IsInBubble", "internal/synctest.Associate[sync.WaitGroup]", "sync.fatal", "sync/atomic.OrUint64", "sync/atomic.AddUint64", "internal/race.Read", "sync/atomic.LoadUint64", "sync/atomic.StoreUint64", "internal/synctest.Disassociate[sync.WaitGroup]", "sync.runtime_Semrelease", "(*sync.WaitGroup).Done", "(*sync.WaitGroup).Wait", "internal/race.Acquire", "internal/synctest.IsAssociated[sync.WaitGroup]", "sync/atomic.CompareAndSwapUint64", "internal/race.Write", "sync.runtime_SemacquireWaitGroup"], unfollowed := true, recurses := true, named := ["loop.example/chainfiles/impl.errTake"], ifaces := true, leaving := true, apart := false, laid := [("loop.example/chainfiles/impl.errTake", laid_loop_example_chainfiles_impl_errTake)], narrowed := true }
def FnCallReadUptoSaid : Prop := fnCallReadUptoRow.holds Tryz.pinned (OpenSpec.upto fnCallReadSpec)

/-- 'laws.FnExactCallRun', WHERE WHAT IT READS IS OF BULK AT MOST 1048576: true; the input reads as it did. -/
def fnExactCallRunUptoRow : OpenClaim := { program := "ytemgilofjbnoaaagreatdoor", sum := "697fd86f2e7bb784da9f799935d0bc79a6283430ad34e1f33bdb484df40a1d98", func := "loop.example/chainfiles/laws.FnExactCallRun", spec := "fnExactCallRun", inPlace := ["internal/reflectlite.TypeOf", "(*sync.WaitGroup).Add", "internal/race.ReleaseMerge", "internal/race.Disable", "internal/race.Enable", "internal/synctest.IsInBubble", "internal/synctest.Associate[sync.WaitGroup]", "sync.fatal", "sync/atomic.OrUint64", "sync/atomic.AddUint64", "internal/race.Read", "sync/atomic.LoadUint64", "sync/atomic.StoreUint64", "internal/synctest.Disassociate[sync.WaitGroup]", "sync.runtime_Semrelease", "(*sync.WaitGroup).Done", "(*sync.WaitGroup).Wait", "internal/race.Acquire", "internal/synctest.IsAssociated[sync.WaitGroup]", "sync/atomic.CompareAndSwapUint64", "internal/race.Write", "sync.runtime_SemacquireWaitGroup"], unfollowed := true, recurses := true, named := ["loop.example/chainfiles/impl.errTake"], ifaces := true, leaving := true, apart := false, laid := [("loop.example/chainfiles/impl.errTake", laid_loop_example_chainfiles_impl_errTake)], narrowed := true }
def FnExactCallRunUptoSaid : Prop := fnExactCallRunUptoRow.holds Tryz.pinned (OpenSpec.upto fnExactCallRunSpec)

/-- 'laws.FnCall', WHERE WHAT IT READS IS OF BULK AT MOST 1048576: true; the input reads as it did. -/
def fnCallUptoRow : OpenClaim := { program := "ytemgilofjbnoaaagreatdoor", sum := "697fd86f2e7bb784da9f799935d0bc79a6283430ad34e1f33bdb484df40a1d98", func := "loop.example/chainfiles/laws.FnCall", spec := "fnCall", inPlace := ["internal/reflectlite.TypeOf", "(*sync.WaitGroup).Add", "internal/race.ReleaseMerge", "internal/race.Disable", "internal/race.Enable", "internal/synctest.IsInBubble", "internal/synctest.Associate[sync.WaitGroup]", "sync.fatal", "sync/atomic.OrUint64", "sync/atomic.AddUint64", "internal/race.Read", "sync/atomic.LoadUint64", "sync/atomic.StoreUint64", "internal/synctest.Disassociate[sync.WaitGroup]", "sync.runtime_Semrelease", "(*sync.WaitGroup).Done", "(*sync.WaitGroup).Wait", "internal/race.Acquire", "internal/synctest.IsAssociated[sync.WaitGroup]", "sync/atomic.CompareAndSwapUint64", "internal/race.Write", "sync.runtime_SemacquireWaitGroup"], unfollowed := true, recurses := true, named := ["loop.example/chainfiles/impl.errTake"], ifaces := true, leaving := true, apart := false, laid := [("loop.example/chainfiles/impl.errTake", laid_loop_example_chainfiles_impl_errTake)], narrowed := true }
def FnCallUptoSaid : Prop := fnCallUptoRow.holds Tryz.pinned (OpenSpec.upto fnCallSpec)

/-- 'laws.FnCallNew', WHERE WHAT IT READS IS OF BULK AT MOST 1048576: true; the input reads as it did. -/
def fnCallNewUptoRow : OpenClaim := { program := "ytemgilofjbnoaaagreatdoor", sum := "697fd86f2e7bb784da9f799935d0bc79a6283430ad34e1f33bdb484df40a1d98", func := "loop.example/chainfiles/laws.FnCallNew", spec := "fnCallNew", inPlace := ["internal/reflectlite.TypeOf", "(*sync.WaitGroup).Add", "internal/race.ReleaseMerge", "internal/race.Disable", "internal/race.Enable", "internal/synctest.IsInBubble", "internal/synctest.Associate[sync.WaitGroup]", "sync.fatal", "sync/atomic.OrUint64", "sync/atomic.AddUint64", "internal/race.Read", "sync/atomic.LoadUint64", "sync/atomic.StoreUint64", "internal/synctest.Disassociate[sync.WaitGroup]", "sync.runtime_Semrelease", "(*sync.WaitGroup).Done", "(*sync.WaitGroup).Wait", "internal/race.Acquire", "internal/synctest.IsAssociated[sync.WaitGroup]", "sync/atomic.CompareAndSwapUint64", "internal/race.Write", "sync.runtime_SemacquireWaitGroup"], unfollowed := true, recurses := true, named := ["loop.example/chainfiles/impl.errTake"], ifaces := true, leaving := true, apart := false, laid := [("loop.example/chainfiles/impl.errTake", laid_loop_example_chainfiles_impl_errTake)], narrowed := true }
def FnCallNewUptoSaid : Prop := fnCallNewUptoRow.holds Tryz.pinned (OpenSpec.upto fnCallNewSpec)

/-- 'laws.FnCallOld', WHERE WHAT IT READS IS OF BULK AT MOST 1048576: true; the input reads as it did. -/
def fnCallOldUptoRow : OpenClaim := { program := "ytemgilofjbnoaaagreatdoor", sum := "697fd86f2e7bb784da9f799935d0bc79a6283430ad34e1f33bdb484df40a1d98", func := "loop.example/chainfiles/laws.FnCallOld", spec := "fnCallOld", inPlace := ["internal/reflectlite.TypeOf", "(*sync.WaitGroup).Add", "internal/race.ReleaseMerge", "internal/race.Disable", "internal/race.Enable", "internal/synctest.IsInBubble", "internal/synctest.Associate[sync.WaitGroup]", "sync.fatal", "sync/atomic.OrUint64", "sync/atomic.AddUint64", "internal/race.Read", "sync/atomic.LoadUint64", "sync/atomic.StoreUint64", "internal/synctest.Disassociate[sync.WaitGroup]", "sync.runtime_Semrelease", "(*sync.WaitGroup).Done", "(*sync.WaitGroup).Wait", "internal/race.Acquire", "internal/synctest.IsAssociated[sync.WaitGroup]", "sync/atomic.CompareAndSwapUint64", "internal/race.Write", "sync.runtime_SemacquireWaitGroup"], unfollowed := true, recurses := true, named := ["loop.example/chainfiles/impl.errTake"], ifaces := true, leaving := true, apart := false, laid := [("loop.example/chainfiles/impl.errTake", laid_loop_example_chainfiles_impl_errTake)], narrowed := true }
def FnCallOldUptoSaid : Prop := fnCallOldUptoRow.holds Tryz.pinned (OpenSpec.upto fnCallOldSpec)

end Rows
end Go.Proofs.YtemgilofjbnoaaaGreatDoor
