/- 'laws.FnCallsNew': the walk of the law: it returns true, and writes nothing that was there. -/
import Derived.Test.YtfdhgahhcnipjaaCallsNew
import Derived.Test.YtfdhgahhcnipjaaDrawCN
namespace Go.Proofs.Ytfdhgahhcnipjaa
open Go.RowKit

theorem uniq_client : ∀ (l : List Cll) (c : Int) (x : Cll), l.Pairwise (fun x y => x.client < y.client) → x ∈ l → x.client = c → firstOf l c = some x := by
  intro l c x h hx hc
  induction l with
  | nil => cases hx
  | cons a l ih =>
    have hl := List.pairwise_cons.1 h
    unfold firstOf at ih ⊢
    rw [List.find?_cons]
    rcases List.mem_cons.1 hx with rfl | hx
    · simp [hc]
    · have := hl.1 x hx
      have hne : ¬ a.client = c := by omega
      simp only [hne, decide_false]
      exact ih hl.2 hx
theorem new_all {l : List Cll} {c n : Int} (h : callsNew l c n = true) : callsOk l = true ∧ ∀ (x : Cll), x ∈ l → x.client = c → x.number < n := by
  unfold callsNew at h
  simp only [Bool.and_eq_true] at h
  refine ⟨h.1.1, fun x hx hc => ?_⟩
  have := uniq_client l c x ((callsOk_iff l).1 h.1.1).2.2 hx hc
  rw [this] at h
  simpa [isNew] using h.2

set_option maxHeartbeats 2000000 in
theorem lCallsNew_walk (A : Option Addr) (n c : Nat) (l : List Int) (w : World)
    (h : Flat encU8 1 w 0 w.heap.size A n c l) (hl : ∀ x ∈ l, 0 ≤ x ∧ x ≤ 255) :
    Calls Try.prog 7 #[.slice A n c] w fun e w' => e = .returned (.bool true) ∧ Below w.heap.size w w' := by
  have H := Lib.hid h
  have HL := Lib.hid hl
  clear h hl
  by_cases hn : 1048576 < n
  · go_enter Try.func7, Try.ntmps7
    go_wp2
    go_ret
    exact ⟨rfl, Below.refl _ _⟩
  go_enter Try.func7, Try.ntmps7
  go_wp2_with fail
  refine (drawCallsNew_any _ _ _ l _ H.out HL.out).mono ?_
  rintro e w1 ⟨B, m, d, xs, cl, nu, rfl, hm6, hf1, hb1⟩
  have F1 := Lib.hid hf1
  have B1 := Lib.hid hb1
  have s01 := hb1.size
  have hlen := Lib.hid hf1.len
  clear hf1 hb1 H HL
  go_wp2_with fail
  refine (callsNew_any _ _ _ xs cl nu _ (F1.out.mono (Nat.zero_le _) (Nat.le_refl _)) (by omega)).mono ?_
  rintro e w2 ⟨rfl, hb2⟩
  have F2 := Lib.hid (F1.out.below hb2 (Nat.le_refl _))
  have B2 := Lib.hid (B1.out.trans (hb2.mono B1.out.size))
  have s12 := hb2.size
  clear hb2 F1 B1
  go_wp2_with fail
  refine (specCallsNew_any _ _ _ xs cl nu _ (F2.out.mono (Nat.zero_le _) s12) (by omega)).mono ?_
  rintro e w3 ⟨rfl, hb3⟩
  have F3 := Lib.hid (F2.out.below hb3 s12)
  have B3 := Lib.hid (B2.out.trans (hb3.mono B2.out.size))
  have s13 : w1.heap.size ≤ w3.heap.size := Nat.le_trans s12 hb3.size
  clear hb3 F2 B2
  cases hok : callsNew xs cl nu
  · go_wp2
    go_ret
    exact ⟨rfl, B3.out⟩
  have HA := Lib.hid (new_all hok)
  clear hok
  go_wp2_with fail
  go_loopw [8] (fun i wr => ∃ k : Nat, k ≤ m ∧ i = .int .i64 k ∧ w3 = wr)
    (fun i _ => m - (intOf i).toNat)
  case atStart => exact ⟨0, Nat.zero_le _, rfl, rfl⟩
  case round =>
    obtain ⟨k, hk, rfl, rfl⟩ := hrel
    by_cases hlt : k < m
    · obtain ⟨b, off, x, rfl, _, _, hx, c0, c1, _, _⟩ := F3.out.cll hlt
      have hno := HA.out.2 x (List.mem_of_getElem? hx)
      clear hx
      by_cases hc : x.client = cl
      · have he : (x.client == cl) = true := by simp [hc]
        have hlt' : ¬ nu ≤ x.number := by have := hno hc; omega
        clear hno
        go_wp2
        go_roundw
        case rel => exact ⟨k + 1, by omega, by go_num, trivial⟩
        case measure => simp [intOf]; omega
      · have he : (x.client == cl) = false := by simp [hc]
        clear hno
        go_wp2
        go_roundw
        case rel => exact ⟨k + 1, by omega, by go_num, trivial⟩
        case measure => simp [intOf]; omega
    · go_wp2_with fail
      refine (callsValid_any _ _ _ xs _ (F3.out.mono (Nat.zero_le _) s13) (by omega)).mono ?_
      rintro e w4 ⟨rfl, hb4⟩
      rw [HA.out.1]
      go_wp2
      go_ret
      exact ⟨rfl, B3.out.trans (hb4.mono B3.out.size)⟩
end Go.Proofs.Ytfdhgahhcnipjaa
