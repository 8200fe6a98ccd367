/- laws.sameLog on two slices that read as the same log: true. -/
import Derived.Test.YtilfomfcfpccdaaChainB
namespace Go.Proofs.Ytilfomfcfpccdaa
open Go.RowKit

set_option maxHeartbeats 1000000 in
theorem sameLog_same (A B : Option Addr) (n c d : Nat) (a : List Upd) (w : World) (h : Flat Upd.enc 2 w 0 w.heap.size A n c a) (h' : Flat Upd.enc 2 w 0 w.heap.size B n d a) (hn : n ≤ 1048576) :
    Calls Try.prog 22 #[.slice A n c, .slice B n d] w fun e w' => e = .returned (.bool true) ∧ Below w.heap.size w w' := by
  have H := Lib.hid h
  have H' := Lib.hid h'
  clear h h'
  go_enter Try.func22, Try.ntmps22
  go_wp2_with fail
  go_loopw [5] (fun i wr => ∃ k : Nat, k ≤ n ∧ i = .int .i64 k ∧ Below w.heap.size w wr) (fun i _ => n - (intOf i).toNat)
  case atStart => exact ⟨0, Nat.zero_le _, rfl, Below.refl _ _⟩
  case round =>
    obtain ⟨k, hk, rfl, hB⟩ := hrel
    have W1 := Lib.hid (H.out.below hB (Nat.le_refl _))
    have W2 := Lib.hid (H'.out.below hB (Nat.le_refl _))
    have HB := Lib.hid hB
    clear hB
    have k0 : (0 : Int) ≤ (k : Int) := by omega
    by_cases hlt : k < n
    · have kn : (k : Int) < (n : Int) := by omega
      obtain ⟨b1, off1, x, rfl, _, _, hx, c0, c1⟩ := W1.out.upd hlt
      obtain ⟨b2, off2, y, rfl, _, _, hy, d0, d1⟩ := W2.out.upd hlt
      rw [hx] at hy
      injection hy with hy
      subst hy
      clear hx
      go_wp2_with fail
      go_quiet (fail)
      go_wp2
      go_roundw
      case rel => exact ⟨k + 1, by omega, by go_num, below_drewN HB.out _⟩
      case measure => simp [intOf]; omega
    · obtain rfl : n = k := by omega
      go_wp2
      go_ret
      exact ⟨rfl, HB.out⟩
end Go.Proofs.Ytilfomfcfpccdaa
