/- The leaves: what is in range, of updates, steps and calls. -/
import Derived.Test.YtnbakpdphfdacaaProg
import Derived.Test.YtnbakpdphfdacaaMem
import Derived.Handy
import Derived.BigQuiet
import Derived.Deep.DeepFit
namespace Go.Proofs.Ytnbakpdphfdacaa
open Go.RowKit

def inB (n lo hi : Int) : Bool := decide (lo ≤ n) && decide (n ≤ hi)
def updOk (k v : Int) : Bool := inB k 0 4 && inB v 0 99
def callIn (c n : Int) : Bool := inB c 0 99 && inB n 1 9999
def cllOk (c n k v : Int) : Bool := callIn c n && updOk k v
def stpOk (r : Bool) (k v : Int) : Bool := inB k 0 4 && inB v (if r then -1 else 0) 99

set_option maxHeartbeats 400000 in
theorem l6In_any (n lo hi : Int) (w : World) :
    Calls Try.prog 66 #[.int .i64 n, .int .i64 lo, .int .i64 hi] w fun e w' => e = .returned (.bool (inB n lo hi)) ∧ w = w' := by
  go_enter Try.func66, Try.ntmps66
  go_wp2
  all_goals go_ret
  all_goals exact ⟨ret_bool (by simp [inB]; try omega), rfl⟩

set_option maxHeartbeats 400000 in
theorem keyValid_any (n : Int) (w : World) :
    Calls Try.prog 69 #[.int .i64 n] w fun e w' => e = .returned (.bool (inB n 0 4)) ∧ w = w' := by
  go_enter Try.func69, Try.ntmps69
  go_wp2
  all_goals go_ret
  all_goals exact ⟨ret_bool (by rw [Bool.eq_iff_iff]; simp [inB]; try omega), rfl⟩

set_option maxHeartbeats 400000 in
theorem updValid_any (k v : Int) (w : World) :
    Calls Try.prog 119 #[.agg #[.int .i64 k, .int .i64 v]] w fun e w' => e = .returned (.bool (updOk k v)) ∧ Below w.heap.size w w' := by
  cases hk : inB k 0 4
  all_goals
    go_enter Try.func119, Try.ntmps119
    go_wp2_with (go_at_call 69; refine (keyValid_any _ _).mono ?_; rintro e w' ⟨rfl, rfl⟩)
  all_goals go_ret
  all_goals exact ⟨ret_bool (by simp [updOk, hk]; try (rw [Bool.eq_iff_iff]; simp [inB]; omega)), (Below.refl _ _).alloc (Nat.le_refl _) _⟩


set_option maxHeartbeats 400000 in
theorem specUpdateValid_any (k v : Int) (w : World) :
    Calls Try.prog 114 #[.agg #[.int .i64 k, .int .i64 v]] w fun e w' => e = .returned (.bool (updOk k v)) ∧ Below w.heap.size w w' := by
  cases hk : inB k 0 4
  all_goals
    go_enter Try.func114, Try.ntmps114
    go_wp2_with (go_at_call 66; refine (l6In_any _ _ _ _).mono ?_; rintro e w' ⟨rfl, rfl⟩)
  all_goals go_ret
  all_goals exact ⟨ret_bool (by simp [updOk, hk]), (Below.refl _ _).alloc (Nat.le_refl _) _⟩


end Go.Proofs.Ytnbakpdphfdacaa
