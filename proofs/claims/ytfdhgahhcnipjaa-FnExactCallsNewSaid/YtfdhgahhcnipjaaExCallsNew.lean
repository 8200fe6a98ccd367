/- 'laws.FnExactCallsNew': the walk of the law: it returns true, and writes nothing that was there. -/
import Derived.Test.YtfdhgahhcnipjaaCallsNew
import Derived.Test.YtfdhgahhcnipjaaConvC
namespace Go.Proofs.Ytfdhgahhcnipjaa
open Go.RowKit

set_option maxHeartbeats 1000000 in
theorem exCallsNew_walk (A : Option Addr) (n c : Nat) (l : List Cll) (cl nu : Int) (w : World) (h : Flat Cll.enc 4 w 0 w.heap.size A n c l) (_ : (Lit.int .i64 cl).wf = true) (_ : (Lit.int .i64 nu).wf = true) :
    Calls Try.prog 8 #[.slice A n c, .int .i64 cl, .int .i64 nu] w fun e w' => e = .returned (.bool true) ∧ Below w.heap.size w w' := by
  have hc : n ≤ 9223372036854775807 := by have := h.2.1; have := h.2.2.1; unfold maxLen at *; omega
  have H := Lib.hid h
  have HL := Lib.hid h.len
  clear h
  by_cases hn : n ≤ 1048576
  case neg =>
    have hf : ¬ ((n : Int) ≤ 1048576) := by omega
    go_enter Try.func8, Try.ntmps8
    go_wp2_with (go_at_call 25; refine (szCallS_any _ _ _ _ _ (by omega) (by omega) hc).mono ?_; rintro e w' ⟨rfl, rfl⟩)
    go_ret
    exact ⟨rfl, Below.refl _ _⟩
  case pos =>
    have hf : (n : Int) ≤ 1048576 := by omega
    go_enter Try.func8, Try.ntmps8
    go_wp2_with (go_at_call 25; refine (szCallS_any _ _ _ _ _ (by omega) (by omega) hc).mono ?_; rintro e w' ⟨rfl, rfl⟩)
    refine (toCallS_any _ _ _ l _ H.out hn).mono ?_
    rintro e w1 ⟨rfl, hown1, hb1⟩
    have F1 := Lib.hid (own_flat' Cll.len hown1 HL.out)
    have B1 := Lib.hid hb1
    clear hown1 hb1
    go_wp2_with fail
    refine (specCallsNew_any _ _ _ l cl nu _ (F1.out.mono (Nat.zero_le _) (Nat.le_refl _)) hn).mono ?_
    rintro e w2 ⟨rfl, hb2⟩
    have B2 := Lib.hid (B1.out.trans (hb2.mono B1.out.size))
    clear hb2
    go_wp2_with fail
    refine (toCallS_any _ _ _ l _ ((H.out.below B2.out (Nat.le_refl _)).mono (Nat.zero_le _) B2.out.size) hn).mono ?_
    rintro e w3 ⟨rfl, hown3, hb3⟩
    have F3 := Lib.hid (own_flat' Cll.len hown3 HL.out)
    have B3 := Lib.hid (B2.out.trans (hb3.mono B2.out.size))
    clear hown3 hb3
    go_wp2_with fail
    refine (callsNew_any _ _ _ l cl nu _ (F3.out.mono (Nat.zero_le _) (Nat.le_refl _)) hn).mono ?_
    rintro e w4 ⟨rfl, hb4⟩
    have F4 := Lib.hid (F3.out.below hb4 (Nat.le_refl _))
    have B4 := Lib.hid (B3.out.trans (hb4.mono B3.out.size))
    have s34 := hb4.size
    clear hb4
    have hs : (callsNew l cl nu != callsNew l cl nu) = false := by simp
    go_wp2_with fail
    refine (toCallS_any _ _ _ l _ ((H.out.below B4.out (Nat.le_refl _)).mono (Nat.zero_le _) B4.out.size) hn).mono ?_
    rintro e w5 ⟨rfl, hown5, hb5⟩
    have F5 := Lib.hid (own_flat' Cll.len hown5 HL.out)
    have F4' := Lib.hid (F4.out.below hb5 s34)
    have B5 := Lib.hid (B4.out.trans (hb5.mono B4.out.size))
    have s45 := hb5.size
    clear hown5 hb5
    go_wp2_with fail
    refine (eqCallS_same _ _ _ _ _ l _ (F4'.out.mono (Nat.zero_le _) (by omega)) (F5.out.mono (Nat.zero_le _) (Nat.le_refl _)) hn).mono ?_
    rintro e w6 ⟨rfl, hb6⟩
    go_wp2
    go_ret
    exact ⟨rfl, B5.out.trans (hb6.mono B5.out.size)⟩
end Go.Proofs.Ytfdhgahhcnipjaa
