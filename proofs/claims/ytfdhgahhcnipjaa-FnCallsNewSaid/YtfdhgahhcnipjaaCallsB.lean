/- Calls are valid: the reference's walk. -/
import Derived.Test.YtfdhgahhcnipjaaCallsA
namespace Go.Proofs.Ytfdhgahhcnipjaa
open Go.RowKit

set_option maxHeartbeats 1000000 in
theorem specCallsValid_any (A : Option Addr) (n c : Nat) (l : List Cll) (w : World) (h : Flat Cll.enc 4 w 0 w.heap.size A n c l) (hn : n ≤ 1048576) :
    Calls Try.prog 18 #[.slice A n c] w fun e w' => e = .returned (.bool (callsOk l)) ∧ Below w.heap.size w w' := by
  have hlen := h.len
  have H := Lib.hid h
  have HL := Lib.hid hlen
  clear h hlen
  go_enter Try.func18, Try.ntmps18
  go_wp2
  go_loopw [3] (fun i wr => ∃ k : Nat, k ≤ n ∧ i = .int .i64 k ∧ Hid ((List.range k).all (cllAt l) = true) ∧ Below w.heap.size w wr)
    (fun i _ => n - (intOf i).toNat)
  case atStart => exact ⟨0, Nat.zero_le _, rfl, rfl, Below.refl _ _⟩
  case round =>
    obtain ⟨k, hk, rfl, hall, hB⟩ := hrel
    have HW := Lib.hid (H.out.below hB (Nat.le_refl _))
    have HB := Lib.hid hB
    have hsz := hB.size
    clear hB H
    by_cases hlt : k < n
    · obtain ⟨b, off, x, rfl, _, hbB, hx, c0, c1, c2, c3⟩ := HW.out.cll hlt
      have Hx := Lib.hid hx
      clear hx
      have d0 := cell_regrown c0
      have d1 := cell_regrown c1
      have d2 := cell_regrown c2
      have d3 := cell_regrown c3
      have hk0 : (0 : Int) ≤ (k : Int) := by omega
      have hkn : (k : Int) < (n : Int) := by omega
      cases hok : cllOk x.client x.number x.what.key x.what.value
      · go_wp2_with fail
        refine wp_region_quiet_below (by kernel_rfl) (by kernel_rfl) ?_
        repeat (go_big_quiet_step ((go_at_call 40; exact Calls.regrown_of (l15Call_any _ _ _ _ _))))
        refine wpQuiet_nil ?_
        intro w2 hw2
        have hb2 := Lib.hid (below_of_regrown hw2)
        clear hw2 d0 d1 d2 d3
        go_wp2
        go_ret
        refine ⟨ret_bool (callsOk_false (k := k) ?_ (by have := HL.out; omega)).symm, HB.out.trans (hb2.out.mono hsz)⟩
        simp [cllAt, Hx.out, Cll.ok, hok]
      · by_cases hpos : 0 < k
        · obtain ⟨b', off', y, e', _, _, hy, y0, _⟩ := HW.out.cll (show k - 1 < n by omega)
          obtain ⟨rfl, rfl⟩ : b = b' ∧ off = off' := by injection e' with e'; injection e' with e1 e2; exact ⟨e1, e2⟩
          have Hy := Lib.hid hy
          have d4 := cell_regrown y0
          clear hy y0 e'
          by_cases hord : y.client < x.client
          · go_wp2_with fail
            refine wp_region_quiet_below (by kernel_rfl) (by kernel_rfl) ?_
            repeat (go_big_quiet_step ((go_at_call 40; exact Calls.regrown_of (l15Call_any _ _ _ _ _))))
            refine wpQuiet_nil ?_
            intro w2 hw2
            have hb2 := Lib.hid (below_of_regrown hw2)
            clear hw2 d0 d1 d2 d3 d4
            go_wp2
            go_roundw
            case rel =>
              refine ⟨k + 1, by omega, by go_num, range_all_succ hall.out ?_, HB.out.trans (hb2.out.mono hsz)⟩
              obtain ⟨j, rfl⟩ : ∃ j, k = j + 1 := ⟨k - 1, by omega⟩
              rw [cllAt_succ Hx.out Hy.out]; simp [Cll.ok, hok, hord]
            case measure => simp [intOf]; omega
          · go_wp2_with fail
            refine wp_region_quiet_below (by kernel_rfl) (by kernel_rfl) ?_
            repeat (go_big_quiet_step ((go_at_call 40; exact Calls.regrown_of (l15Call_any _ _ _ _ _))))
            refine wpQuiet_nil ?_
            intro w2 hw2
            have hb2 := Lib.hid (below_of_regrown hw2)
            clear hw2 d0 d1 d2 d3 d4
            go_wp2
            go_ret
            refine ⟨ret_bool (callsOk_false (k := k) ?_ (by have := HL.out; omega)).symm, HB.out.trans (hb2.out.mono hsz)⟩
            obtain ⟨j, rfl⟩ : ∃ j, k = j + 1 := ⟨k - 1, by omega⟩
            rw [cllAt_succ Hx.out Hy.out]; simp [hord]
        · have hd : decide ((0 : Int) < (k : Int)) = false := by simp; omega
          go_wp2_with fail
          refine wp_region_quiet_below (by kernel_rfl) (by kernel_rfl) ?_
          repeat (go_big_quiet_step ((go_at_call 40; exact Calls.regrown_of (l15Call_any _ _ _ _ _))))
          refine wpQuiet_nil ?_
          intro w2 hw2
          have hb2 := Lib.hid (below_of_regrown hw2)
          clear hw2 d0 d1 d2 d3
          go_wp2
          go_roundw
          case rel =>
            refine ⟨k + 1, by omega, by go_num, range_all_succ hall.out ?_, HB.out.trans (hb2.out.mono hsz)⟩
            obtain rfl : k = 0 := by omega
            rw [cllAt_zero Hx.out]; exact hok
          case measure => simp [intOf]; omega
    · obtain rfl : n = k := by omega
      go_wp2
      all_goals go_ret
      all_goals
        refine ⟨ret_bool ?_, HB.out⟩
        unfold callsOk
        rw [HL.out, hall.out]
        simp; try omega
end Go.Proofs.Ytfdhgahhcnipjaa
