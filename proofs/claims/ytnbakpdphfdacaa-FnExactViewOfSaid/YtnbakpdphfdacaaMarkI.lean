/- Marking a slice of numbers and a view, reading the marks again, comparing views. -/
import Derived.Test.YtnbakpdphfdacaaMarkC
import Derived.Test.YtnbakpdphfdacaaView
namespace Go.Proofs.Ytnbakpdphfdacaa
open Go.RowKit
set_option linter.unusedVariables false
set_option linter.unusedSimpArgs false

def marksI (k : Int) (n : Nat) : List Int := (List.range n).map fun (i : Nat) => k + (i : Int)
theorem marksI_get {k : Int} {n i : Nat} {x : Int} (h : (marksI k n)[i]? = some x) : x = k + (i : Int) := by
  simp only [marksI, List.getElem?_map, Option.map_eq_some_iff] at h
  obtain ⟨j, hj, rfl⟩ := h
  obtain ⟨_, hj⟩ := List.getElem?_eq_some_iff.1 hj
  simp at hj; subst hj; rfl
theorem marksI_length (k : Int) (n : Nat) : (marksI k n).length = n := by simp [marksI]
theorem marksI_at {k : Int} {n i : Nat} (h : i < n) : (marksI k n)[i]? = some (k + (i : Int)) := by simp [marksI, h]
theorem marksI_take (s : Int) {n c : Nat} (h : n ≤ c) : (marksI s c).take n = marksI s n := by
  unfold marksI; rw [← List.map_take, List.take_range, Nat.min_eq_left h]

set_option maxHeartbeats 2000000 in
theorem markIntS_block (g n c : Nat) (s : Int) (cs0 : Array Value) (w : World) (h : w.heap[g]? = some (.cells cs0 3 (0, 0))) (hz : cs0.size = c * 1) (hnc : n ≤ c) (hn : n ≤ 1048576) (hs0 : 0 ≤ s) (hs1 : s ≤ 4194304) :
    Calls Try.prog 53 #[.slice (some ⟨g, 0, none⟩) n c, .int .i64 s] w fun e w' => e = .returned (.int .i64 (s + (n : Int))) ∧
      (∃ cs, w'.heap[g]? = some (.cells cs 3 (0, 0)) ∧ Filled encInt 1 cs (marksI s c) n) ∧ w.grownBy w' (some g) := by
  have hlt := lt_of_block h
  have H := Lib.hid h
  have HZ := Lib.hid hz
  clear h hz
  go_enter Try.func53, Try.ntmps53
  go_wp2
  go_loopw [1, 5] (fun v i wr => ∃ k : Nat, k ≤ n ∧ v = .int .i64 (s + (k : Int)) ∧ i = .int .i64 k ∧ Hid (∃ cs, wr.heap[g]? = some (.cells cs 3 (0, 0)) ∧ Filled encInt 1 cs (marksI s c) k) ∧ w.grownBy wr (some g)) (fun _ i _ => n - (intOf i).toNat)
  case atStart => exact ⟨0, Nat.zero_le _, by simp, rfl, ⟨cs0, H.out, Filled.zero (by rw [HZ.out, marksI_length])⟩, grown_refl _ _⟩
  case round =>
    obtain ⟨k, hk, rfl, rfl, hfill, hB⟩ := hrel
    have HB := Lib.hid hB
    have q1 : IntKind.i64.wrap (s + (k : Int) + 1) = s + (k : Int) + 1 := IntWalk.i64_in _ (by omega)
    clear hB
    by_cases hl : k < n
    · obtain ⟨cs, hg, hf⟩ := hfill.out
      have Hg := Lib.hid hg
      have Hf := Lib.hid hf
      have hfs := hf.1
      rw [marksI_length] at hfs
      obtain ⟨v0, q0⟩ := row_cell (i := k) hg (by omega)
      have f0 := row_free hg k
      clear hg hf hfill hfs
      have hk0 : (0 : Int) ≤ (k : Int) := by omega
      have hkn : (k : Int) < (n : Int) := by omega
      go_wp2
      go_roundw
      case rel =>
        refine ⟨k + 1, by omega, by congr 1; push_cast; omega, by go_num, ⟨_, heap_setCell_at Hg.out _, ?_⟩, ?_⟩
        · have := Filled.step encInt_len Hf.out (marksI_at (k := s) (n := c) (i := k) (by omega))
          simpa [encInt, putRow] using this
        · exact grown_set HB.out _ _
      case measure => simp [intOf]; omega
    · obtain rfl : k = n := by omega
      obtain ⟨cs, hg, hf⟩ := hfill.out
      have Hg := Lib.hid hg
      have Hf := Lib.hid hf
      clear hg hf hfill
      go_wp2
      go_ret
      exact ⟨rfl, ⟨cs, Hg.out, Hf.out⟩, HB.out⟩

set_option maxHeartbeats 2000000 in
theorem markIntS_nil (s : Int) (w : World) :
    Calls Try.prog 53 #[.slice none 0 0, .int .i64 s] w fun e w' => e = .returned (.int .i64 s) ∧ w = w' := by
  go_enter Try.func53, Try.ntmps53
  go_wp2
  go_loopw [1, 5] (fun v i wr => v = .int .i64 s ∧ i = .int .i64 0 ∧ w = wr) (fun _ _ _ => 0)
  case atStart => exact ⟨rfl, rfl, rfl⟩
  case round =>
    obtain ⟨rfl, rfl, rfl⟩ := hrel
    go_wp2
    go_ret
    exact ⟨rfl, rfl⟩

theorem markIntS_own (lo : Nat) (A : Option Addr) (n c : Nat) (xs : List Value) (s : Int) (w : World) (h : w.ownsRow lo 3 1 (.slice A n c) n xs) (hn : n ≤ 1048576) (hs0 : 0 ≤ s) (hs1 : s ≤ 4194304) :
    Calls Try.prog 53 #[.slice A n c, .int .i64 s] w fun e w' => e = .returned (.int .i64 (s + (n : Int))) ∧
      w'.ownsRow lo 3 1 (.slice A n c) n ((marksI s n).flatMap encInt) ∧ w.grownBy w' (Value.slice A n c).ownBlock := by
  rcases h.2 with ⟨hv, h0⟩ | ⟨g, cap, cur, hv, hlo, hg, hnc, hm, hcs, _⟩
  · injection hv with e1 e2 e3
    subst e1; subst e2; subst e3
    refine (markIntS_nil s w).mono ?_
    rintro e w' ⟨rfl, rfl⟩
    exact ⟨by simp, World.ownsRow_nil _ _ _ _, grown_refl _ _⟩
  · injection hv with e1 e2 e3
    subst e1; subst e3
    refine (markIntS_block g n c s cur w hg hcs hnc hn hs0 hs1).mono ?_
    rintro e w' ⟨rfl, ⟨cs, hg', hf⟩, hgr⟩
    refine ⟨rfl, ⟨by rw [length_flatMap encInt_len, marksI_length], .inr ⟨g, c, cs, rfl, hlo, hg', hnc, hm, by have := hf.1; rwa [marksI_length] at this, ?_⟩⟩, hgr⟩
    rw [Filled.take_ encInt_len (by omega) hf (by rw [marksI_length]; exact hnc), marksI_take s hnc]

set_option maxHeartbeats 2000000 in
theorem heldIntS_marks (A : Option Addr) (n c : Nat) (s : Int) (w : World) (h : Flat encInt 1 w 0 w.heap.size A n c (marksI s n)) (hn : n ≤ 1048576) (hs0 : 0 ≤ s) (hs1 : s ≤ 4194304) :
    Calls Try.prog 54 #[.slice A n c, .int .i64 s] w fun e w' => e = .returned (.int .i64 (s + (n : Int))) ∧ Below w.heap.size w w' := by
  have H := Lib.hid h
  clear h
  go_enter Try.func54, Try.ntmps54
  go_wp2
  go_loopw [1, 5] (fun v i wr => ∃ k : Nat, k ≤ n ∧ v = .int .i64 (s + (k : Int)) ∧ i = .int .i64 k ∧ Below w.heap.size w wr) (fun _ i _ => n - (intOf i).toNat)
  case atStart => exact ⟨0, Nat.zero_le _, by simp, rfl, Below.refl _ _⟩
  case round =>
    obtain ⟨k, hk, rfl, rfl, hB⟩ := hrel
    have HW := Lib.hid (H.out.below hB (Nat.le_refl _))
    have HB := Lib.hid hB
    clear hB H
    have q1 : IntKind.i64.wrap (s + (k : Int) + 1) = s + (k : Int) + 1 := IntWalk.i64_in _ (by omega)
    by_cases hlt : k < n
    · obtain ⟨b, off, x, rfl, _, _, hx, c0⟩ := HW.out.int_ hlt
      obtain rfl := marksI_get hx
      clear hx
      have hk0 : (0 : Int) ≤ (k : Int) := by omega
      have hkn : (k : Int) < (n : Int) := by omega
      go_wp2
      go_roundw
      case rel => exact ⟨k + 1, by omega, by congr 1; push_cast; omega, by go_num, HB.out⟩
      case measure => simp [intOf]; omega
    · obtain rfl : k = n := by omega
      go_wp2
      go_ret
      exact ⟨rfl, HB.out⟩

set_option maxHeartbeats 2000000 in
theorem markView_own (num : Int) (lo : Nat) (A : Option Addr) (n c : Nat) (xs : List Value) (s : Int) (w : World) (h : w.ownsRow lo 3 1 (.slice A n c) n xs) (hn : n ≤ 1048576) (hs0 : 0 ≤ s) (hs1 : s ≤ 4194304) :
    Calls Try.prog 21 #[.agg #[.int .i64 num, .slice A n c], .int .i64 s] w fun e w' => e = .returned (.int .i64 (s + (n : Int))) ∧
      w'.ownsRow lo 3 1 (.slice A n c) n ((marksI s n).flatMap encInt) ∧ w.grownBy w' (Value.slice A n c).ownBlock := by
  have H := Lib.hid (h.alloc (.cells #[.int .i64 num, .slice A n c] 28))
  clear h
  go_enter Try.func21, Try.ntmps21
  go_wp2_with fail
  refine (markIntS_own lo _ _ _ xs s _ H.out hn hs0 hs1).mono ?_
  rintro e w1 ⟨rfl, ho1, hg1⟩
  have O1 := Lib.hid ho1
  have G1 := Lib.hid hg1
  clear ho1 hg1
  go_wp2
  go_ret
  exact ⟨rfl, O1.out, ⟨G1.out.os, G1.out.tape, G1.out.output, by have := G1.out.size; simp at this; omega, fun k hk hne => (G1.out.block k (by simp; omega) hne).trans (Below.heap_alloc _ _ _ hk)⟩⟩

set_option maxHeartbeats 2000000 in
theorem heldView_marks (num : Int) (A : Option Addr) (n c : Nat) (s : Int) (w : World) (h : Flat encInt 1 w 0 w.heap.size A n c (marksI s n)) (hn : n ≤ 1048576) (hs0 : 0 ≤ s) (hs1 : s ≤ 4194304) :
    Calls Try.prog 22 #[.agg #[.int .i64 num, .slice A n c], .int .i64 s] w fun e w' => e = .returned (.int .i64 (s + (n : Int))) ∧ Below w.heap.size w w' := by
  have H := Lib.hid (h.box (.cells #[.int .i64 num, .slice A n c] 28))
  clear h
  have hv1 : ¬ (s + (n : Int)) < 0 := by omega
  go_enter Try.func22, Try.ntmps22
  go_wp2_with fail
  refine (heldIntS_marks _ _ _ s _ H.out hn hs0 hs1).mono ?_
  rintro e w1 ⟨rfl, hb1⟩
  have B1 := Lib.hid (below_box hb1)
  clear hb1
  go_wp2
  go_ret
  exact ⟨rfl, B1.out⟩

set_option maxHeartbeats 1000000 in
theorem eqIntS_same (A B : Option Addr) (n c d : Nat) (l : List Int) (w : World) (h : Flat encInt 1 w 0 w.heap.size A n c l) (h' : Flat encInt 1 w 0 w.heap.size B n d l) (hn : n ≤ 1048576) :
    Calls Try.prog 50 #[.slice A n c, .slice B n d] w fun e w' => e = .returned (.bool true) ∧ Below w.heap.size w w' := by
  have H := Lib.hid h
  have H' := Lib.hid h'
  clear h h'
  go_enter Try.func50, Try.ntmps50
  go_wp2
  go_loopw [5] (fun i wr => ∃ k : Nat, k ≤ n ∧ i = .int .i64 k ∧ Below w.heap.size w wr) (fun i _ => n - (intOf i).toNat)
  case atStart => exact ⟨0, Nat.zero_le _, rfl, Below.refl _ _⟩
  case round =>
    obtain ⟨k, hk, rfl, hB⟩ := hrel
    have HW := Lib.hid (H.out.below hB (Nat.le_refl _))
    have HW' := Lib.hid (H'.out.below hB (Nat.le_refl _))
    have HB := Lib.hid hB
    have hsz := hB.size
    clear hB H H'
    by_cases hlt : k < n
    · obtain ⟨b, off, x, rfl, _, _, hx, c0⟩ := HW.out.int_ hlt
      obtain ⟨b', off', x', rfl, _, _, hx', c0'⟩ := HW'.out.int_ hlt
      obtain rfl : x = x' := by rw [hx] at hx'; injection hx'
      clear hx hx'
      have d0 := cell_regrown c0
      have d0' := cell_regrown c0'
      have hk0 : (0 : Int) ≤ (k : Int) := by omega
      have hkn : (k : Int) < (n : Int) := by omega
      have hxx : (x != x) = false := by simp
      go_wp2_with fail
      refine wp_region_quiet_below (by kernel_rfl) (by kernel_rfl) ?_
      repeat (go_big_quiet_step (fail))
      refine wpQuiet_nil ?_
      intro w2 hw2
      have hb2 := Lib.hid (below_of_regrown hw2)
      clear hw2 d0 d0'
      go_wp2
      go_roundw
      case rel => exact ⟨k + 1, by omega, by go_num, HB.out.trans (hb2.out.mono hsz)⟩
      case measure => simp [intOf]; omega
    · go_wp2
      go_ret
      exact ⟨rfl, HB.out⟩

set_option maxHeartbeats 1000000 in
theorem eqView_same (num : Int) (A B : Option Addr) (n c d : Nat) (l : List Int) (w : World) (h : Flat encInt 1 w 0 w.heap.size A n c l) (h' : Flat encInt 1 w 0 w.heap.size B n d l) (hn : n ≤ 1048576) :
    Calls Try.prog 18 #[.agg #[.int .i64 num, .slice A n c], .agg #[.int .i64 num, .slice B n d]] w fun e w' => e = .returned (.bool true) ∧ Below w.heap.size w w' := by
  have H0 := Lib.hid ((h.box (.cells #[.int .i64 num, .slice A n c] 28)).box (.cells #[.int .i64 num, .slice B n d] 28))
  have H0' := Lib.hid ((h'.box (.cells #[.int .i64 num, .slice A n c] 28)).box (.cells #[.int .i64 num, .slice B n d] 28))
  have hxx : (num != num) = false := by simp
  clear h h'
  go_enter Try.func18, Try.ntmps18
  go_wp2_with (go_at_call 50; refine (eqIntS_same _ _ _ _ _ l _ H0.out H0'.out hn).mono ?_; rintro e w1 ⟨rfl, hb1⟩; have B1 := Lib.hid (below_box (below_box hb1)); clear hb1)
  go_ret
  exact ⟨rfl, B1.out⟩
end Go.Proofs.Ytnbakpdphfdacaa
