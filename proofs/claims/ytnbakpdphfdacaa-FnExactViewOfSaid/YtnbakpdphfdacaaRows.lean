/-
  No cell of these rows narrows 'for every input' (looked for: loops, veiled, ifaces, maps, wideKeys, modest, calm, conditions, laid).
  DERIVED. THE GIVEN ROWS OF THIS SEAT. 11 by the template 'for every input the law returns true; each argument reads behind the call as it read before'; 0 by the template 'total and deterministic' (their statements: YtnbakpdphfdacaaTotals.lean).
  GIVEN WITH THE SEED: the statements are not yours to turn. If you find one false, say at which input.
  Laid BY PROGRAM, IN A SANDBOX (cutbox-rows.mjs): the forced cells as the released guide's own fill.sh prints them over the translation 006fb79c31ac8056… (all of the seat's roots in one cut). By AI agents, Wed Nov 11 2026. No macro, syntax, notation, axiom, sorry.
-/
import Derived.Test.YtnbakpdphfdacaaChecked
import GoSem.Claim
import GoSem.ClaimJoined
import GoSem.ClaimMapViews
import Derived.JoinedTies
import Derived.KernelRfl
namespace Go.Proofs.Ytnbakpdphfdacaa
/- THE CELL 'sum', in the pinned program and in every row, IS THE sha256 OF THE DUMP (.gsa) THAT YtnbakpdphfdacaaProg.lean LOADS. Nothing in Lean hashes anything: it is a label: what it is worth is what the hold of that sum in a sandbox is worth. -/
noncomputable def Try.pinned : Pinned := { name := "ytnbakpdphfdacaa", sum := "006fb79c31ac8056b890f0b27a4a329ea84868e51375a7f890d1314213ceb2f0", checked := Try.checked }
namespace Rows
def none {H : Type} : Left H := { results := [], args := [] }

/-- 'laws.FnExactViewOf': WHATEVER THE INPUT: true; the input reads as it did. -/
def fnExactViewOfSpec : ChangeSpec := { name := "fnExactViewOf", fn := fun _ => fun
  | [d] => { results := [.lit (.bool true)], args := [d] }
  | _ => none }
def fnExactViewOfRow : OpenClaim := { program := "ytnbakpdphfdacaa", sum := "006fb79c31ac8056b890f0b27a4a329ea84868e51375a7f890d1314213ceb2f0", func := "loop.example/chainfiles/laws.FnExactViewOf", spec := "fnExactViewOf", apart := false }
def FnExactViewOfSaid : Prop := fnExactViewOfRow.holds Try.pinned (OpenSpec.ofChange fnExactViewOfSpec)

/-- ITS FALSE NEIGHBOUR: 'it returns false'. Refute it at one input. -/
def fnExactViewOfWrong : ChangeSpec := { name := "fnExactViewOf", fn := fun _ => fun
  | [d] => { results := [.lit (.bool false)], args := [d] }
  | _ => none }
def FnExactViewOfWrongFalsely : Prop := fnExactViewOfRow.holds Try.pinned (OpenSpec.ofChange fnExactViewOfWrong)

/-- 'laws.FnExactDropLost': WHATEVER THE INPUT: true; the input reads as it did. -/
def fnExactDropLostSpec : ChangeSpec := { name := "fnExactDropLost", fn := fun _ => fun
  | [d1, d2] => { results := [.lit (.bool true)], args := [d1, d2] }
  | _ => none }
def fnExactDropLostRow : OpenClaim := { program := "ytnbakpdphfdacaa", sum := "006fb79c31ac8056b890f0b27a4a329ea84868e51375a7f890d1314213ceb2f0", func := "loop.example/chainfiles/laws.FnExactDropLost", spec := "fnExactDropLost", apart := false }
def FnExactDropLostSaid : Prop := fnExactDropLostRow.holds Try.pinned (OpenSpec.ofChange fnExactDropLostSpec)

/-- ITS FALSE NEIGHBOUR: 'it returns false'. Refute it at one input. -/
def fnExactDropLostWrong : ChangeSpec := { name := "fnExactDropLost", fn := fun _ => fun
  | [d1, d2] => { results := [.lit (.bool false)], args := [d1, d2] }
  | _ => none }
def FnExactDropLostWrongFalsely : Prop := fnExactDropLostRow.holds Try.pinned (OpenSpec.ofChange fnExactDropLostWrong)

/-- 'laws.FnExactChainDrop': WHATEVER THE INPUT: true; the input reads as it did. -/
def fnExactChainDropSpec : ChangeSpec := { name := "fnExactChainDrop", fn := fun _ => fun
  | [d1, d2] => { results := [.lit (.bool true)], args := [d1, d2] }
  | _ => none }
def fnExactChainDropRow : OpenClaim := { program := "ytnbakpdphfdacaa", sum := "006fb79c31ac8056b890f0b27a4a329ea84868e51375a7f890d1314213ceb2f0", func := "loop.example/chainfiles/laws.FnExactChainDrop", spec := "fnExactChainDrop", apart := false }
def FnExactChainDropSaid : Prop := fnExactChainDropRow.holds Try.pinned (OpenSpec.ofChange fnExactChainDropSpec)

/-- ITS FALSE NEIGHBOUR: 'it returns false'. Refute it at one input. -/
def fnExactChainDropWrong : ChangeSpec := { name := "fnExactChainDrop", fn := fun _ => fun
  | [d1, d2] => { results := [.lit (.bool false)], args := [d1, d2] }
  | _ => none }
def FnExactChainDropWrongFalsely : Prop := fnExactChainDropRow.holds Try.pinned (OpenSpec.ofChange fnExactChainDropWrong)

/-- 'laws.FnExactChainAdd': WHATEVER THE INPUT: true; the input reads as it did. -/
def fnExactChainAddSpec : ChangeSpec := { name := "fnExactChainAdd", fn := fun _ => fun
  | [d1, d2] => { results := [.lit (.bool true)], args := [d1, d2] }
  | _ => none }
def fnExactChainAddRow : OpenClaim := { program := "ytnbakpdphfdacaa", sum := "006fb79c31ac8056b890f0b27a4a329ea84868e51375a7f890d1314213ceb2f0", func := "loop.example/chainfiles/laws.FnExactChainAdd", spec := "fnExactChainAdd", apart := false }
def FnExactChainAddSaid : Prop := fnExactChainAddRow.holds Try.pinned (OpenSpec.ofChange fnExactChainAddSpec)

/-- ITS FALSE NEIGHBOUR: 'it returns false'. Refute it at one input. -/
def fnExactChainAddWrong : ChangeSpec := { name := "fnExactChainAdd", fn := fun _ => fun
  | [d1, d2] => { results := [.lit (.bool false)], args := [d1, d2] }
  | _ => none }
def FnExactChainAddWrongFalsely : Prop := fnExactChainAddRow.holds Try.pinned (OpenSpec.ofChange fnExactChainAddWrong)

/-- 'laws.FnExactChainReadAt': WHATEVER THE INPUT: true; the input reads as it did. -/
def fnExactChainReadAtSpec : ChangeSpec := { name := "fnExactChainReadAt", fn := fun _ => fun
  | [d1, d2, d3] => { results := [.lit (.bool true)], args := [d1, d2, d3] }
  | _ => none }
def fnExactChainReadAtRow : OpenClaim := { program := "ytnbakpdphfdacaa", sum := "006fb79c31ac8056b890f0b27a4a329ea84868e51375a7f890d1314213ceb2f0", func := "loop.example/chainfiles/laws.FnExactChainReadAt", spec := "fnExactChainReadAt", apart := false }
def FnExactChainReadAtSaid : Prop := fnExactChainReadAtRow.holds Try.pinned (OpenSpec.ofChange fnExactChainReadAtSpec)

/-- ITS FALSE NEIGHBOUR: 'it returns false'. Refute it at one input. -/
def fnExactChainReadAtWrong : ChangeSpec := { name := "fnExactChainReadAt", fn := fun _ => fun
  | [d1, d2, d3] => { results := [.lit (.bool false)], args := [d1, d2, d3] }
  | _ => none }
def FnExactChainReadAtWrongFalsely : Prop := fnExactChainReadAtRow.holds Try.pinned (OpenSpec.ofChange fnExactChainReadAtWrong)

/-- 'laws.FnExactChainSwap': WHATEVER THE INPUT: true; the input reads as it did. -/
def fnExactChainSwapSpec : ChangeSpec := { name := "fnExactChainSwap", fn := fun _ => fun
  | [d1, d2, d3] => { results := [.lit (.bool true)], args := [d1, d2, d3] }
  | _ => none }
def fnExactChainSwapRow : OpenClaim := { program := "ytnbakpdphfdacaa", sum := "006fb79c31ac8056b890f0b27a4a329ea84868e51375a7f890d1314213ceb2f0", func := "loop.example/chainfiles/laws.FnExactChainSwap", spec := "fnExactChainSwap", apart := false }
def FnExactChainSwapSaid : Prop := fnExactChainSwapRow.holds Try.pinned (OpenSpec.ofChange fnExactChainSwapSpec)

/-- ITS FALSE NEIGHBOUR: 'it returns false'. Refute it at one input. -/
def fnExactChainSwapWrong : ChangeSpec := { name := "fnExactChainSwap", fn := fun _ => fun
  | [d1, d2, d3] => { results := [.lit (.bool false)], args := [d1, d2, d3] }
  | _ => none }
def FnExactChainSwapWrongFalsely : Prop := fnExactChainSwapRow.holds Try.pinned (OpenSpec.ofChange fnExactChainSwapWrong)

/-- 'laws.FnSettle': WHATEVER THE INPUT: true; the input reads as it did. -/
def fnSettleSpec : ChangeSpec := { name := "fnSettle", fn := fun _ => fun
  | [d] => { results := [.lit (.bool true)], args := [d] }
  | _ => none }
def fnSettleRow : OpenClaim := { program := "ytnbakpdphfdacaa", sum := "006fb79c31ac8056b890f0b27a4a329ea84868e51375a7f890d1314213ceb2f0", func := "loop.example/chainfiles/laws.FnSettle", spec := "fnSettle", inPlace := ["(*sync.WaitGroup).Add", "internal/race.ReleaseMerge", "internal/race.Disable", "internal/race.Enable", "internal/synctest.IsInBubble", "internal/synctest.Associate[sync.WaitGroup]", "sync.fatal", "sync/atomic.OrUint64", "sync/atomic.AddUint64", "internal/race.Read", "sync/atomic.LoadUint64", "sync/atomic.StoreUint64", "internal/synctest.Disassociate[sync.WaitGroup]", "sync.runtime_Semrelease", "(*sync.WaitGroup).Done", "(*sync.WaitGroup).Wait", "internal/race.Acquire", "internal/synctest.IsAssociated[sync.WaitGroup]", "sync/atomic.CompareAndSwapUint64", "internal/race.Write", "sync.runtime_SemacquireWaitGroup"], unfollowed := true, recurses := true, leaving := true, apart := false }
def FnSettleSaid : Prop := fnSettleRow.holds Try.pinned (OpenSpec.ofChange fnSettleSpec)

/-- ITS FALSE NEIGHBOUR: 'it returns false'. Refute it at one input. -/
def fnSettleWrong : ChangeSpec := { name := "fnSettle", fn := fun _ => fun
  | [d] => { results := [.lit (.bool false)], args := [d] }
  | _ => none }
def FnSettleWrongFalsely : Prop := fnSettleRow.holds Try.pinned (OpenSpec.ofChange fnSettleWrong)

/-- 'laws.FnSettleTwice': WHATEVER THE INPUT: true; the input reads as it did. -/
def fnSettleTwiceSpec : ChangeSpec := { name := "fnSettleTwice", fn := fun _ => fun
  | [d] => { results := [.lit (.bool true)], args := [d] }
  | _ => none }
def fnSettleTwiceRow : OpenClaim := { program := "ytnbakpdphfdacaa", sum := "006fb79c31ac8056b890f0b27a4a329ea84868e51375a7f890d1314213ceb2f0", func := "loop.example/chainfiles/laws.FnSettleTwice", spec := "fnSettleTwice", inPlace := ["(*sync.WaitGroup).Add", "internal/race.ReleaseMerge", "internal/race.Disable", "internal/race.Enable", "internal/synctest.IsInBubble", "internal/synctest.Associate[sync.WaitGroup]", "sync.fatal", "sync/atomic.OrUint64", "sync/atomic.AddUint64", "internal/race.Read", "sync/atomic.LoadUint64", "sync/atomic.StoreUint64", "internal/synctest.Disassociate[sync.WaitGroup]", "sync.runtime_Semrelease", "(*sync.WaitGroup).Done", "(*sync.WaitGroup).Wait", "internal/race.Acquire", "internal/synctest.IsAssociated[sync.WaitGroup]", "sync/atomic.CompareAndSwapUint64", "internal/race.Write", "sync.runtime_SemacquireWaitGroup"], unfollowed := true, recurses := true, leaving := true, apart := false }
def FnSettleTwiceSaid : Prop := fnSettleTwiceRow.holds Try.pinned (OpenSpec.ofChange fnSettleTwiceSpec)

/-- ITS FALSE NEIGHBOUR: 'it returns false'. Refute it at one input. -/
def fnSettleTwiceWrong : ChangeSpec := { name := "fnSettleTwice", fn := fun _ => fun
  | [d] => { results := [.lit (.bool false)], args := [d] }
  | _ => none }
def FnSettleTwiceWrongFalsely : Prop := fnSettleTwiceRow.holds Try.pinned (OpenSpec.ofChange fnSettleTwiceWrong)

/-- 'laws.FnLostQuiet': WHATEVER THE INPUT: true; the input reads as it did. -/
def fnLostQuietSpec : ChangeSpec := { name := "fnLostQuiet", fn := fun _ => fun
  | [d] => { results := [.lit (.bool true)], args := [d] }
  | _ => none }
def fnLostQuietRow : OpenClaim := { program := "ytnbakpdphfdacaa", sum := "006fb79c31ac8056b890f0b27a4a329ea84868e51375a7f890d1314213ceb2f0", func := "loop.example/chainfiles/laws.FnLostQuiet", spec := "fnLostQuiet", inPlace := ["(*sync.WaitGroup).Add", "internal/race.ReleaseMerge", "internal/race.Disable", "internal/race.Enable", "internal/synctest.IsInBubble", "internal/synctest.Associate[sync.WaitGroup]", "sync.fatal", "sync/atomic.OrUint64", "sync/atomic.AddUint64", "internal/race.Read", "sync/atomic.LoadUint64", "sync/atomic.StoreUint64", "internal/synctest.Disassociate[sync.WaitGroup]", "sync.runtime_Semrelease", "(*sync.WaitGroup).Done", "(*sync.WaitGroup).Wait", "internal/race.Acquire", "internal/synctest.IsAssociated[sync.WaitGroup]", "sync/atomic.CompareAndSwapUint64", "internal/race.Write", "sync.runtime_SemacquireWaitGroup"], unfollowed := true, recurses := true, leaving := true, apart := false }
def FnLostQuietSaid : Prop := fnLostQuietRow.holds Try.pinned (OpenSpec.ofChange fnLostQuietSpec)

/-- ITS FALSE NEIGHBOUR: 'it returns false'. Refute it at one input. -/
def fnLostQuietWrong : ChangeSpec := { name := "fnLostQuiet", fn := fun _ => fun
  | [d] => { results := [.lit (.bool false)], args := [d] }
  | _ => none }
def FnLostQuietWrongFalsely : Prop := fnLostQuietRow.holds Try.pinned (OpenSpec.ofChange fnLostQuietWrong)

/-- 'laws.FnReadAtSettled': WHATEVER THE INPUT: true; the input reads as it did. -/
def fnReadAtSettledSpec : ChangeSpec := { name := "fnReadAtSettled", fn := fun _ => fun
  | [d] => { results := [.lit (.bool true)], args := [d] }
  | _ => none }
def fnReadAtSettledRow : OpenClaim := { program := "ytnbakpdphfdacaa", sum := "006fb79c31ac8056b890f0b27a4a329ea84868e51375a7f890d1314213ceb2f0", func := "loop.example/chainfiles/laws.FnReadAtSettled", spec := "fnReadAtSettled", inPlace := ["(*sync.WaitGroup).Add", "internal/race.ReleaseMerge", "internal/race.Disable", "internal/race.Enable", "internal/synctest.IsInBubble", "internal/synctest.Associate[sync.WaitGroup]", "sync.fatal", "sync/atomic.OrUint64", "sync/atomic.AddUint64", "internal/race.Read", "sync/atomic.LoadUint64", "sync/atomic.StoreUint64", "internal/synctest.Disassociate[sync.WaitGroup]", "sync.runtime_Semrelease", "(*sync.WaitGroup).Done", "(*sync.WaitGroup).Wait", "internal/race.Acquire", "internal/synctest.IsAssociated[sync.WaitGroup]", "sync/atomic.CompareAndSwapUint64", "internal/race.Write", "sync.runtime_SemacquireWaitGroup"], unfollowed := true, recurses := true, leaving := true, apart := false }
def FnReadAtSettledSaid : Prop := fnReadAtSettledRow.holds Try.pinned (OpenSpec.ofChange fnReadAtSettledSpec)

/-- ITS FALSE NEIGHBOUR: 'it returns false'. Refute it at one input. -/
def fnReadAtSettledWrong : ChangeSpec := { name := "fnReadAtSettled", fn := fun _ => fun
  | [d] => { results := [.lit (.bool false)], args := [d] }
  | _ => none }
def FnReadAtSettledWrongFalsely : Prop := fnReadAtSettledRow.holds Try.pinned (OpenSpec.ofChange fnReadAtSettledWrong)

/-- 'laws.FnExactChainSettle': WHATEVER THE INPUT: true; the input reads as it did. -/
def fnExactChainSettleSpec : ChangeSpec := { name := "fnExactChainSettle", fn := fun _ => fun
  | [d] => { results := [.lit (.bool true)], args := [d] }
  | _ => none }
def fnExactChainSettleRow : OpenClaim := { program := "ytnbakpdphfdacaa", sum := "006fb79c31ac8056b890f0b27a4a329ea84868e51375a7f890d1314213ceb2f0", func := "loop.example/chainfiles/laws.FnExactChainSettle", spec := "fnExactChainSettle", inPlace := ["(*sync.WaitGroup).Add", "internal/race.ReleaseMerge", "internal/race.Disable", "internal/race.Enable", "internal/synctest.IsInBubble", "internal/synctest.Associate[sync.WaitGroup]", "sync.fatal", "sync/atomic.OrUint64", "sync/atomic.AddUint64", "internal/race.Read", "sync/atomic.LoadUint64", "sync/atomic.StoreUint64", "internal/synctest.Disassociate[sync.WaitGroup]", "sync.runtime_Semrelease", "(*sync.WaitGroup).Done", "(*sync.WaitGroup).Wait", "internal/race.Acquire", "internal/synctest.IsAssociated[sync.WaitGroup]", "sync/atomic.CompareAndSwapUint64", "internal/race.Write", "sync.runtime_SemacquireWaitGroup"], unfollowed := true, recurses := true, leaving := true, apart := false }
def FnExactChainSettleSaid : Prop := fnExactChainSettleRow.holds Try.pinned (OpenSpec.ofChange fnExactChainSettleSpec)

/-- ITS FALSE NEIGHBOUR: 'it returns false'. Refute it at one input. -/
def fnExactChainSettleWrong : ChangeSpec := { name := "fnExactChainSettle", fn := fun _ => fun
  | [d] => { results := [.lit (.bool false)], args := [d] }
  | _ => none }
def FnExactChainSettleWrongFalsely : Prop := fnExactChainSettleRow.holds Try.pinned (OpenSpec.ofChange fnExactChainSettleWrong)

/- THE SECOND FORM. 'bulk': how many values and letters a reading holds, each counted each time it is reached (what is shared counts as often as it is met; a slice's spare places count too). A statement '..UptoSaid' is the law's where the arguments, and the package variables that the reading takes, are together of bulk at most 1048576: NARROWER than '..Said'. Prove '..Said' where nothing that the law and all that it calls make is longer than what came in: it says more and counts as full. Else prove '..UptoSaid'. A law counts once. -/
mutual
def uptoBulk {H : Type} : DataW H → Nat
  | .lit (.string bytes) => bytes.length + 1
  | .lit _ => 1
  | .nil => 1
  | .ptr d => uptoBulk d + 1
  | .slice elems spare => uptoBulkAll elems + uptoBulkAll spare + 1
  | .agg parts => uptoBulkAll parts + 1
  | .iface _ d => uptoBulk d + 1
  | .map entries => uptoBulkEntries entries + 1
  | .held _ => 1
def uptoBulkAll {H : Type} : List (DataW H) → Nat
  | [] => 0
  | d :: r => uptoBulk d + uptoBulkAll r
def uptoBulkEntries {H : Type} : List (Lit × DataW H) → Nat
  | [] => 0
  | x :: r => uptoBulkEntry x + uptoBulkEntries r
def uptoBulkEntry {H : Type} : Lit × DataW H → Nat
  | (.string bytes, d) => bytes.length + uptoBulk d + 1
  | (_, d) => uptoBulk d + 1
 end
def uptoSmall : (H : Type) → List (DataW H) → Bool := fun _ ds => decide (uptoBulkAll ds ≤ 1048576)
def OpenSpec.upto (s : _root_.Go.ChangeSpec) : _root_.Go.OpenSpec := { _root_.Go.OpenSpec.ofChange s with cond := some uptoSmall }

/-- 'laws.FnExactViewOf', WHERE WHAT IT READS IS OF BULK AT MOST 1048576: true; the input reads as it did. -/
def fnExactViewOfUptoRow : OpenClaim := { program := "ytnbakpdphfdacaa", sum := "006fb79c31ac8056b890f0b27a4a329ea84868e51375a7f890d1314213ceb2f0", func := "loop.example/chainfiles/laws.FnExactViewOf", spec := "fnExactViewOf", apart := false, narrowed := true }
def FnExactViewOfUptoSaid : Prop := fnExactViewOfUptoRow.holds Try.pinned (OpenSpec.upto fnExactViewOfSpec)

/-- 'laws.FnExactDropLost', WHERE WHAT IT READS IS OF BULK AT MOST 1048576: true; the input reads as it did. -/
def fnExactDropLostUptoRow : OpenClaim := { program := "ytnbakpdphfdacaa", sum := "006fb79c31ac8056b890f0b27a4a329ea84868e51375a7f890d1314213ceb2f0", func := "loop.example/chainfiles/laws.FnExactDropLost", spec := "fnExactDropLost", apart := false, narrowed := true }
def FnExactDropLostUptoSaid : Prop := fnExactDropLostUptoRow.holds Try.pinned (OpenSpec.upto fnExactDropLostSpec)

/-- 'laws.FnExactChainDrop', WHERE WHAT IT READS IS OF BULK AT MOST 1048576: true; the input reads as it did. -/
def fnExactChainDropUptoRow : OpenClaim := { program := "ytnbakpdphfdacaa", sum := "006fb79c31ac8056b890f0b27a4a329ea84868e51375a7f890d1314213ceb2f0", func := "loop.example/chainfiles/laws.FnExactChainDrop", spec := "fnExactChainDrop", apart := false, narrowed := true }
def FnExactChainDropUptoSaid : Prop := fnExactChainDropUptoRow.holds Try.pinned (OpenSpec.upto fnExactChainDropSpec)

/-- 'laws.FnExactChainAdd', WHERE WHAT IT READS IS OF BULK AT MOST 1048576: true; the input reads as it did. -/
def fnExactChainAddUptoRow : OpenClaim := { program := "ytnbakpdphfdacaa", sum := "006fb79c31ac8056b890f0b27a4a329ea84868e51375a7f890d1314213ceb2f0", func := "loop.example/chainfiles/laws.FnExactChainAdd", spec := "fnExactChainAdd", apart := false, narrowed := true }
def FnExactChainAddUptoSaid : Prop := fnExactChainAddUptoRow.holds Try.pinned (OpenSpec.upto fnExactChainAddSpec)

/-- 'laws.FnExactChainReadAt', WHERE WHAT IT READS IS OF BULK AT MOST 1048576: true; the input reads as it did. -/
def fnExactChainReadAtUptoRow : OpenClaim := { program := "ytnbakpdphfdacaa", sum := "006fb79c31ac8056b890f0b27a4a329ea84868e51375a7f890d1314213ceb2f0", func := "loop.example/chainfiles/laws.FnExactChainReadAt", spec := "fnExactChainReadAt", apart := false, narrowed := true }
def FnExactChainReadAtUptoSaid : Prop := fnExactChainReadAtUptoRow.holds Try.pinned (OpenSpec.upto fnExactChainReadAtSpec)

/-- 'laws.FnExactChainSwap', WHERE WHAT IT READS IS OF BULK AT MOST 1048576: true; the input reads as it did. -/
def fnExactChainSwapUptoRow : OpenClaim := { program := "ytnbakpdphfdacaa", sum := "006fb79c31ac8056b890f0b27a4a329ea84868e51375a7f890d1314213ceb2f0", func := "loop.example/chainfiles/laws.FnExactChainSwap", spec := "fnExactChainSwap", apart := false, narrowed := true }
def FnExactChainSwapUptoSaid : Prop := fnExactChainSwapUptoRow.holds Try.pinned (OpenSpec.upto fnExactChainSwapSpec)

/-- 'laws.FnSettle', WHERE WHAT IT READS IS OF BULK AT MOST 1048576: true; the input reads as it did. -/
def fnSettleUptoRow : OpenClaim := { program := "ytnbakpdphfdacaa", sum := "006fb79c31ac8056b890f0b27a4a329ea84868e51375a7f890d1314213ceb2f0", func := "loop.example/chainfiles/laws.FnSettle", spec := "fnSettle", inPlace := ["(*sync.WaitGroup).Add", "internal/race.ReleaseMerge", "internal/race.Disable", "internal/race.Enable", "internal/synctest.IsInBubble", "internal/synctest.Associate[sync.WaitGroup]", "sync.fatal", "sync/atomic.OrUint64", "sync/atomic.AddUint64", "internal/race.Read", "sync/atomic.LoadUint64", "sync/atomic.StoreUint64", "internal/synctest.Disassociate[sync.WaitGroup]", "sync.runtime_Semrelease", "(*sync.WaitGroup).Done", "(*sync.WaitGroup).Wait", "internal/race.Acquire", "internal/synctest.IsAssociated[sync.WaitGroup]", "sync/atomic.CompareAndSwapUint64", "internal/race.Write", "sync.runtime_SemacquireWaitGroup"], unfollowed := true, recurses := true, leaving := true, apart := false, narrowed := true }
def FnSettleUptoSaid : Prop := fnSettleUptoRow.holds Try.pinned (OpenSpec.upto fnSettleSpec)

/-- 'laws.FnSettleTwice', WHERE WHAT IT READS IS OF BULK AT MOST 1048576: true; the input reads as it did. -/
def fnSettleTwiceUptoRow : OpenClaim := { program := "ytnbakpdphfdacaa", sum := "006fb79c31ac8056b890f0b27a4a329ea84868e51375a7f890d1314213ceb2f0", func := "loop.example/chainfiles/laws.FnSettleTwice", spec := "fnSettleTwice", inPlace := ["(*sync.WaitGroup).Add", "internal/race.ReleaseMerge", "internal/race.Disable", "internal/race.Enable", "internal/synctest.IsInBubble", "internal/synctest.Associate[sync.WaitGroup]", "sync.fatal", "sync/atomic.OrUint64", "sync/atomic.AddUint64", "internal/race.Read", "sync/atomic.LoadUint64", "sync/atomic.StoreUint64", "internal/synctest.Disassociate[sync.WaitGroup]", "sync.runtime_Semrelease", "(*sync.WaitGroup).Done", "(*sync.WaitGroup).Wait", "internal/race.Acquire", "internal/synctest.IsAssociated[sync.WaitGroup]", "sync/atomic.CompareAndSwapUint64", "internal/race.Write", "sync.runtime_SemacquireWaitGroup"], unfollowed := true, recurses := true, leaving := true, apart := false, narrowed := true }
def FnSettleTwiceUptoSaid : Prop := fnSettleTwiceUptoRow.holds Try.pinned (OpenSpec.upto fnSettleTwiceSpec)

/-- 'laws.FnLostQuiet', WHERE WHAT IT READS IS OF BULK AT MOST 1048576: true; the input reads as it did. -/
def fnLostQuietUptoRow : OpenClaim := { program := "ytnbakpdphfdacaa", sum := "006fb79c31ac8056b890f0b27a4a329ea84868e51375a7f890d1314213ceb2f0", func := "loop.example/chainfiles/laws.FnLostQuiet", spec := "fnLostQuiet", inPlace := ["(*sync.WaitGroup).Add", "internal/race.ReleaseMerge", "internal/race.Disable", "internal/race.Enable", "internal/synctest.IsInBubble", "internal/synctest.Associate[sync.WaitGroup]", "sync.fatal", "sync/atomic.OrUint64", "sync/atomic.AddUint64", "internal/race.Read", "sync/atomic.LoadUint64", "sync/atomic.StoreUint64", "internal/synctest.Disassociate[sync.WaitGroup]", "sync.runtime_Semrelease", "(*sync.WaitGroup).Done", "(*sync.WaitGroup).Wait", "internal/race.Acquire", "internal/synctest.IsAssociated[sync.WaitGroup]", "sync/atomic.CompareAndSwapUint64", "internal/race.Write", "sync.runtime_SemacquireWaitGroup"], unfollowed := true, recurses := true, leaving := true, apart := false, narrowed := true }
def FnLostQuietUptoSaid : Prop := fnLostQuietUptoRow.holds Try.pinned (OpenSpec.upto fnLostQuietSpec)

/-- 'laws.FnReadAtSettled', WHERE WHAT IT READS IS OF BULK AT MOST 1048576: true; the input reads as it did. -/
def fnReadAtSettledUptoRow : OpenClaim := { program := "ytnbakpdphfdacaa", sum := "006fb79c31ac8056b890f0b27a4a329ea84868e51375a7f890d1314213ceb2f0", func := "loop.example/chainfiles/laws.FnReadAtSettled", spec := "fnReadAtSettled", inPlace := ["(*sync.WaitGroup).Add", "internal/race.ReleaseMerge", "internal/race.Disable", "internal/race.Enable", "internal/synctest.IsInBubble", "internal/synctest.Associate[sync.WaitGroup]", "sync.fatal", "sync/atomic.OrUint64", "sync/atomic.AddUint64", "internal/race.Read", "sync/atomic.LoadUint64", "sync/atomic.StoreUint64", "internal/synctest.Disassociate[sync.WaitGroup]", "sync.runtime_Semrelease", "(*sync.WaitGroup).Done", "(*sync.WaitGroup).Wait", "internal/race.Acquire", "internal/synctest.IsAssociated[sync.WaitGroup]", "sync/atomic.CompareAndSwapUint64", "internal/race.Write", "sync.runtime_SemacquireWaitGroup"], unfollowed := true, recurses := true, leaving := true, apart := false, narrowed := true }
def FnReadAtSettledUptoSaid : Prop := fnReadAtSettledUptoRow.holds Try.pinned (OpenSpec.upto fnReadAtSettledSpec)

/-- 'laws.FnExactChainSettle', WHERE WHAT IT READS IS OF BULK AT MOST 1048576: true; the input reads as it did. -/
def fnExactChainSettleUptoRow : OpenClaim := { program := "ytnbakpdphfdacaa", sum := "006fb79c31ac8056b890f0b27a4a329ea84868e51375a7f890d1314213ceb2f0", func := "loop.example/chainfiles/laws.FnExactChainSettle", spec := "fnExactChainSettle", inPlace := ["(*sync.WaitGroup).Add", "internal/race.ReleaseMerge", "internal/race.Disable", "internal/race.Enable", "internal/synctest.IsInBubble", "internal/synctest.Associate[sync.WaitGroup]", "sync.fatal", "sync/atomic.OrUint64", "sync/atomic.AddUint64", "internal/race.Read", "sync/atomic.LoadUint64", "sync/atomic.StoreUint64", "internal/synctest.Disassociate[sync.WaitGroup]", "sync.runtime_Semrelease", "(*sync.WaitGroup).Done", "(*sync.WaitGroup).Wait", "internal/race.Acquire", "internal/synctest.IsAssociated[sync.WaitGroup]", "sync/atomic.CompareAndSwapUint64", "internal/race.Write", "sync.runtime_SemacquireWaitGroup"], unfollowed := true, recurses := true, leaving := true, apart := false, narrowed := true }
def FnExactChainSettleUptoSaid : Prop := fnExactChainSettleUptoRow.holds Try.pinned (OpenSpec.upto fnExactChainSettleSpec)

end Rows
end Go.Proofs.Ytnbakpdphfdacaa
