/- The leaves: what is in range, of updates, steps and calls. -/
import Derived.Test.YtjcbhnbbhcfbiaaProg
import Derived.Test.YtjcbhnbbhcfbiaaMem
import Derived.Handy
import Derived.BigQuiet
import Derived.Deep.DeepFit
namespace Go.Proofs.Ytjcbhnbbhcfbiaa
open Go.RowKit

def inB (n lo hi : Int) : Bool := decide (lo ≤ n) && decide (n ≤ hi)
def updOk (k v : Int) : Bool := inB k 0 4 && inB v 0 99
def callIn (c n : Int) : Bool := inB c 0 99 && inB n 1 9999
def cllOk (c n k v : Int) : Bool := callIn c n && updOk k v
def stpOk (r : Bool) (k v : Int) : Bool := inB k 0 4 && inB v (if r then -1 else 0) 99

set_option maxHeartbeats 400000 in
theorem l6In_any (n lo hi : Int) (w : World) :
    Calls Try.prog 31 #[.int .i64 n, .int .i64 lo, .int .i64 hi] w fun e w' => e = .returned (.bool (inB n lo hi)) ∧ w = w' := by
  go_enter Try.func31, Try.ntmps31
  go_wp2
  all_goals go_ret
  all_goals exact ⟨ret_bool (by simp [inB]; try omega), rfl⟩

set_option maxHeartbeats 400000 in
theorem keyValid_any (n : Int) (w : World) :
    Calls Try.prog 40 #[.int .i64 n] w fun e w' => e = .returned (.bool (inB n 0 4)) ∧ w = w' := by
  go_enter Try.func40, Try.ntmps40
  go_wp2
  all_goals go_ret
  all_goals exact ⟨ret_bool (by rw [Bool.eq_iff_iff]; simp [inB]; try omega), rfl⟩

set_option maxHeartbeats 400000 in
theorem updValid_any (k v : Int) (w : World) :
    Calls Try.prog 39 #[.agg #[.int .i64 k, .int .i64 v]] w fun e w' => e = .returned (.bool (updOk k v)) ∧ Below w.heap.size w w' := by
  cases hk : inB k 0 4
  all_goals
    go_enter Try.func39, Try.ntmps39
    go_wp2_with (go_at_call 40; refine (keyValid_any _ _).mono ?_; rintro e w' ⟨rfl, rfl⟩)
  all_goals go_ret
  all_goals exact ⟨ret_bool (by simp [updOk, hk]; try (rw [Bool.eq_iff_iff]; simp [inB]; omega)), (Below.refl _ _).alloc (Nat.le_refl _) _⟩

set_option maxHeartbeats 400000 in
theorem updateValid_any (k v : Int) (w : World) :
    Calls Try.prog 35 #[.agg #[.int .i64 k, .int .i64 v]] w fun e w' => e = .returned (.bool (updOk k v)) ∧ Below w.heap.size w w' := by
  go_enter Try.func35, Try.ntmps35
  go_wp2_with (go_at_call 39; refine (updValid_any _ _ _).mono ?_; rintro e w1 ⟨rfl, hb⟩)
  go_ret
  exact ⟨rfl, ((Below.refl _ _).alloc (Nat.le_refl _) _).trans (hb.mono (by simp))⟩

set_option maxHeartbeats 400000 in
theorem specUpdateValid_any (k v : Int) (w : World) :
    Calls Try.prog 32 #[.agg #[.int .i64 k, .int .i64 v]] w fun e w' => e = .returned (.bool (updOk k v)) ∧ Below w.heap.size w w' := by
  cases hk : inB k 0 4
  all_goals
    go_enter Try.func32, Try.ntmps32
    go_wp2_with (go_at_call 31; refine (l6In_any _ _ _ _).mono ?_; rintro e w' ⟨rfl, rfl⟩)
  all_goals go_ret
  all_goals exact ⟨ret_bool (by simp [updOk, hk]), (Below.refl _ _).alloc (Nat.le_refl _) _⟩

set_option maxHeartbeats 400000 in
theorem callInRange_any (c n : Int) (w : World) :
    Calls Try.prog 34 #[.int .i64 c, .int .i64 n] w fun e w' => e = .returned (.bool (callIn c n)) ∧ w = w' := by
  go_enter Try.func34, Try.ntmps34
  go_wp2
  all_goals go_ret
  all_goals exact ⟨ret_bool (by rw [Bool.eq_iff_iff]; simp [callIn, inB]; try omega), rfl⟩

set_option maxHeartbeats 400000 in
theorem callValid_any (c n k v : Int) (w : World) :
    Calls Try.prog 21 #[.agg #[.int .i64 c, .int .i64 n, .int .i64 k, .int .i64 v]] w fun e w' => e = .returned (.bool (cllOk c n k v)) ∧ Below w.heap.size w w' := by
  cases hk : callIn c n
  all_goals
    go_enter Try.func21, Try.ntmps21
    go_wp2_with (first | (go_at_call 34; refine (callInRange_any _ _ _).mono ?_; rintro e w' ⟨rfl, rfl⟩) | (go_at_call 35; refine (updateValid_any _ _ _).mono ?_; rintro e w1 ⟨rfl, hb⟩))
  all_goals go_ret
  · exact ⟨ret_bool (by simp [cllOk, hk]), (Below.refl _ _).alloc (Nat.le_refl _) _⟩
  · exact ⟨ret_bool (by simp [cllOk, hk]), ((Below.refl _ _).alloc (Nat.le_refl _) _).trans (hb.mono (by simp))⟩

set_option maxHeartbeats 400000 in
theorem l15Call_any (c n k v : Int) (w : World) :
    Calls Try.prog 19 #[.agg #[.int .i64 c, .int .i64 n, .int .i64 k, .int .i64 v]] w fun e w' => e = .returned (.bool (cllOk c n k v)) ∧ Below w.heap.size w w' := by
  cases hk : inB c 0 99
  all_goals cases hn : inB n 1 9999
  all_goals
    go_enter Try.func19, Try.ntmps19
    go_wp2_with (first | (go_at_call 31; refine (l6In_any _ _ _ _).mono ?_; rintro e w' ⟨rfl, rfl⟩) | (go_at_call 32; refine (specUpdateValid_any _ _ _).mono ?_; rintro e w1 ⟨rfl, hb⟩))
  all_goals go_ret
  · exact ⟨ret_bool (by simp [cllOk, callIn, hk]), (Below.refl _ _).alloc (Nat.le_refl _) _⟩
  · exact ⟨ret_bool (by simp [cllOk, callIn, hk]), (Below.refl _ _).alloc (Nat.le_refl _) _⟩
  · exact ⟨ret_bool (by simp [cllOk, callIn, hn]), (Below.refl _ _).alloc (Nat.le_refl _) _⟩
  · exact ⟨ret_bool (by simp [cllOk, callIn, hk, hn]), ((Below.refl _ _).alloc (Nat.le_refl _) _).trans (hb.mono (by simp))⟩

set_option maxHeartbeats 400000 in
theorem stepValid_any (r : Bool) (k v : Int) (w : World) :
    Calls Try.prog 37 #[.agg #[.bool r, .int .i64 k, .int .i64 v]] w fun e w' => e = .returned (.bool (stpOk r k v)) ∧ Below w.heap.size w w' := by
  cases r
  all_goals cases hk : inB k 0 4
  all_goals
    go_enter Try.func37, Try.ntmps37
    go_wp2_with (go_at_call 40; refine (keyValid_any _ _).mono ?_; rintro e w' ⟨rfl, rfl⟩)
  all_goals go_ret
  all_goals exact ⟨ret_bool (by simp [stpOk, hk]; try (rw [Bool.eq_iff_iff]; simp [inB]; omega)), (Below.refl _ _).alloc (Nat.le_refl _) _⟩
end Go.Proofs.Ytjcbhnbbhcfbiaa
