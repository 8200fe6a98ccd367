/- Steps are valid: the reference's walk; the first step that does not fit: the reference's walk. -/
import Derived.Test.YtjcbhnbbhcfbiaaStepsA
import Derived.Test.YtjcbhnbbhcfbiaaState
namespace Go.Proofs.Ytjcbhnbbhcfbiaa
open Go.RowKit

theorem all_take_succ {l : List Stp} {k : Nat} {s : Stp} (h : (l.take k).all Stp.ok = true) (hs : l[k]? = some s) (ho : s.ok = true) : (l.take (k + 1)).all Stp.ok = true := by
  have hk := (List.getElem?_eq_some_iff.1 hs).1
  have e : l[k] = s := by rw [List.getElem?_eq_getElem hk] at hs; injection hs
  rw [List.take_succ_eq_append_getElem hk, List.all_append, h, e]; simp [ho]
theorem puts_take_succ {l : List Stp} {k : Nat} {s : Stp} (hs : l[k]? = some s) : puts (l.take (k + 1)) = puts (l.take k) + (if s.reads then 0 else 1) := by
  have hk := (List.getElem?_eq_some_iff.1 hs).1
  have e : l[k] = s := by rw [List.getElem?_eq_getElem hk] at hs; injection hs
  rw [List.take_succ_eq_append_getElem hk, puts_snoc, e]
theorem all_false_at {l : List Stp} {k : Nat} {s : Stp} (hs : l[k]? = some s) (ho : s.ok = false) : l.all Stp.ok = false := by
  rw [List.all_eq_false]; exact ⟨s, List.mem_of_getElem? hs, by simp [ho]⟩

set_option maxHeartbeats 2000000 in
theorem specStepsValid_any (A : Option Addr) (n c : Nat) (l : List Stp) (w : World) (h : Flat Stp.enc 3 w 0 w.heap.size A n c l) (hn : n ≤ 1048576) :
    Calls Try.prog 30 #[.slice A n c] w fun e w' => e = .returned (.bool (stepsOk l)) ∧ Below w.heap.size w w' := by
  have HL := Lib.hid h.len
  have H := Lib.hid h
  clear h
  go_enter Try.func30, Try.ntmps30
  go_wp2
  go_loopw [3, 4] (fun p i wr => ∃ k : Nat, k ≤ n ∧ i = .int .i64 k ∧ p = .int .i64 (puts (l.take k) : Nat) ∧ Hid ((l.take k).all Stp.ok = true) ∧ Below w.heap.size w wr)
    (fun _ i _ => n - (intOf i).toNat)
  case atStart => exact ⟨0, Nat.zero_le _, rfl, rfl, rfl, Below.refl _ _⟩
  case round =>
    obtain ⟨k, hk, rfl, rfl, hall, hB⟩ := hrel
    have HW := Lib.hid (H.out.below hB (Nat.le_refl _))
    have HB := Lib.hid hB
    have hsz := hB.size
    have hps : puts (l.take k) ≤ 1048576 := Nat.le_trans (puts_le _) (by rw [List.length_take]; omega)
    clear hB H
    by_cases hlt : k < n
    · obtain ⟨b, off, s, rfl, _, hbB, hs, c0, c1, c2⟩ := HW.out.stp hlt
      have Hs := Lib.hid hs
      clear hs
      cases hreads : s.reads
      · rw [hreads] at c0
        have Hr := Lib.hid hreads
        clear hreads
        cases hkey : inB s.key 0 4
        · go_wp2_with (go_at_call 31; refine (l6In_any _ _ _ _).mono ?_; rintro e w' ⟨rfl, rfl⟩)
          go_ret
          exact ⟨ret_bool (by unfold stepsOk; rw [all_false_at Hs.out (by simp [Stp.ok, stpOk, hkey])]; simp), HB.out.alloc hsz _⟩
        · cases hval : inB s.value (-1) 99
          · go_wp2_with (go_at_call 31; refine (l6In_any _ _ _ _).mono ?_; rintro e w' ⟨rfl, rfl⟩)
            go_ret
            exact ⟨ret_bool (by unfold stepsOk; rw [all_false_at Hs.out (by simp only [Stp.ok, stpOk, Hr.out]; simp [inB] at hval ⊢; omega)]; simp), HB.out.alloc hsz _⟩
          · by_cases hneg : s.value < 0
            · go_wp2_with (go_at_call 31; refine (l6In_any _ _ _ _).mono ?_; rintro e w' ⟨rfl, rfl⟩)
              go_ret
              exact ⟨ret_bool (by unfold stepsOk; rw [all_false_at Hs.out (by simp only [Stp.ok, stpOk, Hr.out]; simp [inB]; omega)]; simp), HB.out.alloc hsz _⟩
            · go_wp2_with (go_at_call 31; refine (l6In_any _ _ _ _).mono ?_; rintro e w' ⟨rfl, rfl⟩)
              go_roundw
              case rel => exact ⟨k + 1, by omega, by go_num, by rw [puts_take_succ Hs.out, Hr.out]; rfl, all_take_succ hall.out Hs.out (by simp only [Stp.ok, stpOk, Hr.out, hkey]; simp [inB] at hval ⊢; omega), HB.out.alloc hsz _⟩
              case measure => simp [intOf]; omega
      · rw [hreads] at c0
        have Hr := Lib.hid hreads
        clear hreads
        cases hkey : inB s.key 0 4
        · go_wp2_with (go_at_call 31; refine (l6In_any _ _ _ _).mono ?_; rintro e w' ⟨rfl, rfl⟩)
          go_ret
          exact ⟨ret_bool (by unfold stepsOk; rw [all_false_at Hs.out (by simp [Stp.ok, stpOk, hkey])]; simp), HB.out.alloc hsz _⟩
        · cases hval : inB s.value (-1) 99
          · go_wp2_with (go_at_call 31; refine (l6In_any _ _ _ _).mono ?_; rintro e w' ⟨rfl, rfl⟩)
            go_ret
            exact ⟨ret_bool (by unfold stepsOk; rw [all_false_at Hs.out (by simp [Stp.ok, stpOk, Hr.out, hval])]; simp), HB.out.alloc hsz _⟩
          · go_wp2_with (go_at_call 31; refine (l6In_any _ _ _ _).mono ?_; rintro e w' ⟨rfl, rfl⟩)
            go_roundw
            case rel => exact ⟨k + 1, by omega, by go_num, by rw [puts_take_succ Hs.out, Hr.out]; simp, all_take_succ hall.out Hs.out (by simp [Stp.ok, stpOk, Hr.out, hkey, hval]), HB.out.alloc hsz _⟩
            case measure => simp [intOf]; omega
    · obtain rfl : n = k := by omega
      have ht : l.take n = l := List.take_of_length_le (by rw [HL.out]; exact Nat.le_refl _)
      rw [ht] at hps hall
      rw [ht]
      have HT := Lib.hid ht
      clear ht
      go_wp2
      all_goals go_ret
      all_goals
        refine ⟨ret_bool ?_, HB.out⟩
        unfold stepsOk
        rw [HL.out, hall.out, Bool.eq_iff_iff]
        simp
        try omega
end Go.Proofs.Ytjcbhnbbhcfbiaa
