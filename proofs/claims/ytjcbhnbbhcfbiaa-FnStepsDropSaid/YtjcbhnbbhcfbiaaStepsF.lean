/- Steps fit: both walks. -/
import Derived.Test.YtjcbhnbbhcfbiaaStepsD
namespace Go.Proofs.Ytjcbhnbbhcfbiaa
open Go.RowKit

def stepsFit (l : List Stp) : Bool := decide (stepsBad l = -1)

set_option maxHeartbeats 400000 in
theorem stepsFit_any (A : Option Addr) (m c : Nat) (l : List Stp) (w : World) (h : Flat Stp.enc 3 w 0 w.heap.size A m c l) (hm : m ≤ 1048576) :
    Calls Try.prog 7 #[.slice A m c] w fun e w' => e = .returned (.bool (stepsFit l)) ∧ Below w.heap.size w w' := by
  by_cases hb : stepsBad l = -1
  all_goals
    have hs : (stepsBad l == -1) = decide (stepsBad l = -1) := by simp [hb]
    go_enter Try.func7, Try.ntmps7
    go_wp2_with fail
    refine (stepsBad_any _ _ _ l _ h hm).mono ?_
    rintro e w1 ⟨rfl, hb1⟩
    go_wp2
    go_ret
    exact ⟨ret_bool (by simp [stepsFit, hb]), hb1⟩

set_option maxHeartbeats 400000 in
theorem specStepsFit_any (A : Option Addr) (m c : Nat) (l : List Stp) (w : World) (h : Flat Stp.enc 3 w 0 w.heap.size A m c l) (hm : m ≤ 1048576) :
    Calls Try.prog 8 #[.slice A m c] w fun e w' => e = .returned (.bool (stepsFit l)) ∧ Below w.heap.size w w' := by
  by_cases hb : stepsBad l = -1
  all_goals
    have hs : (stepsBad l == -1) = decide (stepsBad l = -1) := by simp [hb]
    go_enter Try.func8, Try.ntmps8
    go_wp2_with fail
    refine (specStepsBad_any _ _ _ l _ h hm).mono ?_
    rintro e w1 ⟨rfl, hb1⟩
    go_wp2
    go_ret
    exact ⟨ret_bool (by simp [stepsFit, hb]), hb1⟩
end Go.Proofs.Ytjcbhnbbhcfbiaa
