/- The exact statements' own helpers for calls: sizes, copies, comparisons. -/
import Derived.Test.YtnbakpdphfdacaaLeaf
namespace Go.Proofs.Ytnbakpdphfdacaa
open Go.RowKit


set_option maxHeartbeats 400000 in
theorem toUpdate_any (k v : Int) (w : World) :
    Calls Try.prog 118 #[.agg #[.int .i64 k, .int .i64 v]] w fun e w' => e = .returned (.agg #[.int .i64 k, .int .i64 v]) ∧ Below w.heap.size w w' := by
  go_enter Try.func118, Try.ntmps118
  go_wp2
  refine bodyPost_ret (v := .agg #[.int .i64 k, .int .i64 v]) (by simp [results, Try.results118, go_sem]) rfl ⟨rfl, ?_⟩
  go_grown
set_option maxHeartbeats 400000 in
theorem eqUpdate_same (k v : Int) (w : World) :
    Calls Try.prog 58 #[.agg #[.int .i64 k, .int .i64 v], .agg #[.int .i64 k, .int .i64 v]] w fun e w' => e = .returned (.bool true) ∧ Below w.heap.size w w' := by
  go_enter Try.func58, Try.ntmps58
  go_wp2
  go_ret
  exact ⟨rfl, by go_grown⟩
end Go.Proofs.Ytnbakpdphfdacaa
