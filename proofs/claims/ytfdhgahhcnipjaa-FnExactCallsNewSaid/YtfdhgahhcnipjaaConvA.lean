/- The exact statements' own helpers for calls: sizes, copies, comparisons. -/
import Derived.Test.YtfdhgahhcnipjaaLeaf
namespace Go.Proofs.Ytfdhgahhcnipjaa
open Go.RowKit

set_option maxHeartbeats 400000 in
theorem szCallS_any (A : Option Addr) (n c : Nat) (left : Int) (w : World) (h0 : 0 ≤ left) (h1 : left ≤ 1048576) (hn : n ≤ 9223372036854775807) :
    Calls Try.prog 25 #[.slice A n c, .int .i64 left] w fun e w' => e = .returned (.int .i64 (if (n : Int) ≤ left then left - n else -1)) ∧ w = w' := by
  by_cases hl : (n : Int) ≤ left
  all_goals
    go_enter Try.func25, Try.ntmps25
    go_wp2
    go_ret
    exact ⟨ret_int (by simp [hl]), rfl⟩

set_option maxHeartbeats 400000 in
theorem toUpdate_any (k v : Int) (w : World) :
    Calls Try.prog 60 #[.agg #[.int .i64 k, .int .i64 v]] w fun e w' => e = .returned (.agg #[.int .i64 k, .int .i64 v]) ∧ Below w.heap.size w w' := by
  go_enter Try.func60, Try.ntmps60
  go_wp2
  refine bodyPost_ret (v := .agg #[.int .i64 k, .int .i64 v]) (by simp [results, Try.results60, go_sem]) rfl ⟨rfl, ?_⟩
  go_grown
set_option maxHeartbeats 400000 in
theorem toCall_any (c n k v : Int) (w : World) :
    Calls Try.prog 47 #[.agg #[.int .i64 c, .int .i64 n, .int .i64 k, .int .i64 v]] w fun e w' => e = .returned (.agg #[.int .i64 c, .int .i64 n, .int .i64 k, .int .i64 v]) ∧ Below w.heap.size w w' := by
  go_enter Try.func47, Try.ntmps47
  go_wp2
  refine bodyPost_ret (v := .agg #[.int .i64 c, .int .i64 n, .int .i64 k, .int .i64 v]) (by simp [results, Try.results47, go_sem]) rfl ⟨rfl, ?_⟩
  go_grown
set_option maxHeartbeats 400000 in
theorem eqUpdate_same (k v : Int) (w : World) :
    Calls Try.prog 61 #[.agg #[.int .i64 k, .int .i64 v], .agg #[.int .i64 k, .int .i64 v]] w fun e w' => e = .returned (.bool true) ∧ Below w.heap.size w w' := by
  go_enter Try.func61, Try.ntmps61
  go_wp2
  go_ret
  exact ⟨rfl, by go_grown⟩
set_option maxHeartbeats 400000 in
theorem eqCall_same (c n k v : Int) (w : World) :
    Calls Try.prog 48 #[.agg #[.int .i64 c, .int .i64 n, .int .i64 k, .int .i64 v], .agg #[.int .i64 c, .int .i64 n, .int .i64 k, .int .i64 v]] w fun e w' => e = .returned (.bool true) ∧ Below w.heap.size w w' := by
  go_enter Try.func48, Try.ntmps48
  go_wp2
  go_ret
  exact ⟨rfl, by go_grown⟩
end Go.Proofs.Ytfdhgahhcnipjaa
