/- 'laws.FnStepsBadPart': the walk of the law: it returns true, and writes nothing that was there. (Its head printed by genlaws.py.) -/
import Derived.Test.YtfdhgahhcnipjaaStepsP
import Derived.Test.YtfdhgahhcnipjaaDrawS
import Derived.Deep.RegionHeld3
namespace Go.Proofs.Ytfdhgahhcnipjaa
open Go.RowKit

set_option maxHeartbeats 2000000 in
theorem lStepsBadPart_walk (A : Option Addr) (n c : Nat) (l : List Int) (A2 : Option Addr) (n2 c2 : Nat) (l2 : List Int) (w : World)
    (h : Flat encU8 1 w 0 w.heap.size A n c l) (hl : ∀ x ∈ l, 0 ≤ x ∧ x ≤ 255) (h2 : Flat encU8 1 w 0 w.heap.size A2 n2 c2 l2) (_ : ∀ x ∈ l2, 0 ≤ x ∧ x ≤ 255) :
    Calls Try.prog 10 #[.slice A n c, .slice A2 n2 c2] w fun e w' => e = .returned (.bool true) ∧ Below w.heap.size w w' := by
  have H := Lib.hid h
  have HL := Lib.hid hl
  clear h hl h2
  by_cases hn : 1048576 < n
  · go_enter Try.func10, Try.ntmps10
    go_wp2
    go_ret
    exact ⟨rfl, Below.refl _ _⟩
  by_cases hn2 : 1048576 < n2
  · go_enter Try.func10, Try.ntmps10
    go_wp2
    go_ret
    exact ⟨rfl, Below.refl _ _⟩
  go_enter Try.func10, Try.ntmps10
  go_wp2_with fail
  refine (drawStepsBad_any _ _ _ l _ H.out HL.out).mono ?_
  rintro e w1 ⟨B, m, d, xs, rfl, hm21, hf1, hb1⟩
  have F1 := Lib.hid hf1
  have B1 := Lib.hid hb1
  have hmd := hf1.2.1
  have s01 := hb1.size
  have hlen := Lib.hid hf1.len
  clear hf1 hb1 H HL
  go_wp2_with fail
  refine (stepsBad_any _ _ _ xs _ (F1.out.mono (Nat.zero_le _) (Nat.le_refl _)) (by omega)).mono ?_
  rintro e w2 ⟨rfl, hb2⟩
  have F2 := Lib.hid (F1.out.below hb2 (Nat.le_refl _))
  have B2 := Lib.hid (B1.out.trans (hb2.mono B1.out.size))
  have s12 := hb2.size
  clear hb2 F1 B1
  go_wp2_with fail
  refine (specStepsBad_any _ _ _ xs _ (F2.out.mono (Nat.zero_le _) s12) (by omega)).mono ?_
  rintro e w3 ⟨rfl, hb3⟩
  have F3 := Lib.hid (F2.out.below hb3 s12)
  have B3 := Lib.hid (B2.out.trans (hb3.mono B2.out.size))
  have s13 : w1.heap.size ≤ w3.heap.size := Nat.le_trans s12 hb3.size
  clear hb3 F2 B2
  have hs : (stepsBad xs != stepsBad xs) = false := by simp
  have hs' : (stepsBad xs == stepsBad xs) = true := by simp
  by_cases hneg : stepsBad xs < 0
  · go_wp2
    go_ret
    exact ⟨rfl, B3.out⟩
  obtain ⟨k, hk⟩ := Int.eq_ofNat_of_zero_le (show 0 ≤ stepsBad xs by omega)
  have HK := Lib.hid hk
  have hkl := (bad_spec hk).2.1
  have hkm : k < m := by have := hlen.out; omega
  clear hs hs' hneg
  rw [hk]
  clear hk hkl
  obtain ⟨q, hq⟩ : ∃ q, q = n2 % (m - k) := ⟨_, rfl⟩
  have hq1 : q < m - k := by rw [hq]; exact Nat.mod_lt _ (by omega)
  have hmk : (m : Int) - (k : Int) = ((m - k : Nat) : Int) := by omega
  have e3 : ((n2 : Int) % ((m : Int) - (k : Int))) = (q : Int) := by rw [hmk, hq]; simp
  have e4 : (Int.tmod (n2 : Int) ((m : Int) - (k : Int))) = (q : Int) := by rw [hmk, hq]; rfl
  have hz : ((m : Int) - (k : Int) == 0) = false := by simp; omega
  clear hq hmk
  have F4 := Lib.hid (F3.out.take_ (show k + 1 + q ≤ m by omega))
  have b1 : (k : Int) + 1 + (q : Int) ≤ (d : Int) := by omega
  have b5 : (0 : Int) ≤ (k : Int) + 1 + (q : Int) := by omega
  have b6 : ((k : Int) + 1 + (q : Int)).toNat = k + 1 + q := by omega
  go_wp2_with fail
  refine (stepsBad_any _ _ _ _ _ (F4.out.mono (Nat.zero_le _) s13) (by omega)).mono ?_
  rintro e w4 ⟨rfl, hb4⟩
  rw [bad_take HK.out (show k < k + 1 + q by omega)]
  go_wp2
  go_ret
  exact ⟨rfl, B3.out.trans (hb4.mono B3.out.size)⟩
end Go.Proofs.Ytfdhgahhcnipjaa
