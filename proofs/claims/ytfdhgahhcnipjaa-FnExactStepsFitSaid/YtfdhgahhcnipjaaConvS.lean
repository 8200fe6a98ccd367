/- The exact statements' own helpers for steps: sizes, copies, comparisons. (Printed by genexs.py.) -/
import Derived.Test.YtfdhgahhcnipjaaLeaf
namespace Go.Proofs.Ytfdhgahhcnipjaa
open Go.RowKit

set_option maxHeartbeats 400000 in
theorem szStepS_any (A : Option Addr) (n c : Nat) (left : Int) (w : World) (h0 : 0 ≤ left) (h1 : left ≤ 1048576) (hn : n ≤ 9223372036854775807) :
    Calls Try.prog 19 #[.slice A n c, .int .i64 left] w fun e w' => e = .returned (.int .i64 (if (n : Int) ≤ left then left - n else -1)) ∧ w = w' := by
  by_cases hl : (n : Int) ≤ left
  all_goals
    go_enter Try.func19, Try.ntmps19
    go_wp2
    go_ret
    exact ⟨ret_int (by simp [hl]), rfl⟩
set_option maxHeartbeats 400000 in
theorem toStep_any (r : Bool) (k v : Int) (w : World) :
    Calls Try.prog 42 #[.agg #[.bool r, .int .i64 k, .int .i64 v]] w fun e w' => e = .returned (.agg #[.bool r, .int .i64 k, .int .i64 v]) ∧ Below w.heap.size w w' := by
  go_enter Try.func42, Try.ntmps42
  go_wp2
  refine bodyPost_ret (v := .agg #[.bool r, .int .i64 k, .int .i64 v]) (by simp [results, Try.results42, go_sem]) rfl ⟨rfl, ?_⟩
  go_grown
set_option maxHeartbeats 400000 in
theorem eqStep_same (r : Bool) (k v : Int) (w : World) :
    Calls Try.prog 45 #[.agg #[.bool r, .int .i64 k, .int .i64 v], .agg #[.bool r, .int .i64 k, .int .i64 v]] w fun e w' => e = .returned (.bool true) ∧ Below w.heap.size w w' := by
  have hb : (r != r) = false := by simp
  cases r
  all_goals
    go_enter Try.func45, Try.ntmps45
    go_wp2
    go_ret
    exact ⟨rfl, by go_grown⟩

theorem infoStep : (Try.prog.info? 36).map (fun i => (i.zero, i.size, i.bytes)) = some (some (.agg #[.bool false, .int .i64 0, .int .i64 0]), 3, 24) := by kernel_rfl

set_option maxHeartbeats 1000000 in
theorem toStepS_any (A : Option Addr) (n c : Nat) (l : List Stp) (w : World) (h : Flat Stp.enc 3 w 0 w.heap.size A n c l) (hn : n ≤ 1048576) :
    Calls Try.prog 21 #[.slice A n c] w fun e w' => e = .returned (.slice (some ⟨w.heap.size, 0, none⟩) n n) ∧
      w'.ownsRow w.heap.size 36 3 (.slice (some ⟨w.heap.size, 0, none⟩) n n) n (l.flatMap Stp.enc) ∧ Below w.heap.size w w' := by
  have hlen := h.len
  obtain ⟨i0, hi, hz0, hz1, hz2⟩ := info_parts infoStep
  have hmk := fun W => make_rows (P := Try.prog) 30 36 i0 _ Try.underlying30 hi hz0 n (by rw [hz2]; omega) (by omega) W
  rw [hz1] at hmk
  have H := Lib.hid h
  have HL := Lib.hid hlen
  clear h hlen hi hz0 hz1 hz2
  obtain ⟨Z, hZ⟩ : ∃ Z, Z = madeCells (Value.agg #[.bool false, .int .i64 0, .int .i64 0]).cells (n * 3) := ⟨_, rfl⟩
  rw [← hZ] at hmk
  have hZs : Z.size = n * 3 := by rw [hZ]; exact size_madeCells _ _
  have HZ := Lib.hid hZs
  clear hZs hZ
  go_enter Try.func21, Try.ntmps21
  go_wp2
  clear hmk
  go_loopw [4] (fun i wr => ∃ k : Nat, k ≤ n ∧ i = .int .i64 k ∧ Hid (∃ cs, wr.heap[w.heap.size]? = some (.cells cs 36 (0, 0)) ∧ Filled Stp.enc 3 cs l k) ∧ Below w.heap.size w wr)
    (fun i _ => n - (intOf i).toNat)
  case atStart => exact ⟨0, Nat.zero_le _, rfl, ⟨Z, heap_alloc_new _ _, Filled.zero (by rw [HZ.out, HL.out])⟩, (Below.refl _ _).alloc (Nat.le_refl _) _⟩
  case round =>
    obtain ⟨k, hk, rfl, hfill, hB⟩ := hrel
    have HW := Lib.hid (H.out.below hB (Nat.le_refl _))
    have HB := Lib.hid hB
    have hsz := hB.size
    clear hB H
    by_cases hlt : k < n
    · obtain ⟨b, off, x, rfl, _, hbB, hx, c0, c1, c2⟩ := HW.out.stp hlt
      have Hx := Lib.hid hx
      clear hx
      obtain ⟨cs, hg, hf⟩ := hfill.out
      have Hg := Lib.hid hg
      have Hf := Lib.hid hf
      have hgs := lt_of_block hg
      have hfs := hf.1
      clear hg hf hfill
      have hlen := HL.out
      have hfs' : k * 3 + 3 ≤ cs.size := by omega
      clear hlen hfs
      go_wp2_with (go_at_call 42; refine (toStep_any _ _ _ _).mono ?_; rintro e w1 ⟨rfl, hb1⟩; have Hb1 := Lib.hid hb1; have hg1 := (hb1.block w.heap.size hgs).trans Hg.out; have Hg1 := Lib.hid hg1; obtain ⟨v0, q0⟩ := row_cell (i := k * 3) hg1 (by omega); obtain ⟨v1, q1⟩ := row_cell (i := k * 3 + 1) hg1 (by omega); obtain ⟨v2, q2⟩ := row_cell (i := k * 3 + 2) hg1 (by omega); have f0 := row_free hg1 (k * 3); have f1 := row_free hg1 (k * 3 + 1); have f2 := row_free hg1 (k * 3 + 2); clear hb1 hg1)
      go_roundw
      case rel =>
        refine ⟨k + 1, by omega, by go_num, ⟨_, heap_setCell_at (heap_setCell_at (heap_setCell_at Hg1.out _) _) _, Filled.step Stp.len Hf.out Hx.out⟩, ?_⟩
        exact (HB.out.trans (Hb1.out.mono hsz)).setCell (Nat.le_refl _) _ |>.setCell (Nat.le_refl _) _ |>.setCell (Nat.le_refl _) _
      case measure => simp [intOf]; omega
    · obtain rfl : n = k := by omega
      obtain ⟨cs, hg, hf⟩ := hfill.out
      have Hg := Lib.hid hg
      have Hf := Lib.hid hf
      clear hg hf hfill
      go_wp2
      go_ret
      exact ⟨rfl, Filled.own Stp.len (by omega) Hf.out HL.out Hg.out (Nat.le_refl _) (by unfold maxLen; omega), HB.out⟩

set_option maxHeartbeats 1000000 in
theorem eqStepS_same (A B : Option Addr) (n c d : Nat) (l : List Stp) (w : World) (h : Flat Stp.enc 3 w 0 w.heap.size A n c l) (h' : Flat Stp.enc 3 w 0 w.heap.size B n d l) (hn : n ≤ 1048576) :
    Calls Try.prog 23 #[.slice A n c, .slice B n d] w fun e w' => e = .returned (.bool true) ∧ Below w.heap.size w w' := by
  have H := Lib.hid h
  have H' := Lib.hid h'
  clear h h'
  go_enter Try.func23, Try.ntmps23
  go_wp2
  go_loopw [5] (fun i wr => ∃ k : Nat, k ≤ n ∧ i = .int .i64 k ∧ Below w.heap.size w wr) (fun i _ => n - (intOf i).toNat)
  case atStart => exact ⟨0, Nat.zero_le _, rfl, Below.refl _ _⟩
  case round =>
    obtain ⟨k, hk, rfl, hB⟩ := hrel
    have HW := Lib.hid (H.out.below hB (Nat.le_refl _))
    have HW' := Lib.hid (H'.out.below hB (Nat.le_refl _))
    have HB := Lib.hid hB
    have hsz := hB.size
    clear hB H H'
    by_cases hlt : k < n
    · obtain ⟨b, off, x, rfl, _, _, hx, c0, c1, c2⟩ := HW.out.stp hlt
      obtain ⟨b', off', x', rfl, _, _, hx', c0', c1', c2'⟩ := HW'.out.stp hlt
      obtain rfl : x = x' := by rw [hx] at hx'; injection hx'
      clear hx hx'
      have d0 := cell_regrown c0
      have d1 := cell_regrown c1
      have d2 := cell_regrown c2
      have d0' := cell_regrown c0'
      have d1' := cell_regrown c1'
      have d2' := cell_regrown c2'
      have hk0 : (0 : Int) ≤ (k : Int) := by omega
      have hkn : (k : Int) < (n : Int) := by omega
      go_wp2_with fail
      refine wp_region_quiet_below (by kernel_rfl) (by kernel_rfl) ?_
      repeat (go_big_quiet_step ((go_at_call 45; exact Calls.regrown_of (eqStep_same _ _ _ _))))
      refine wpQuiet_nil ?_
      intro w2 hw2
      have hb2 := Lib.hid (below_of_regrown hw2)
      clear hw2 d0 d1 d2 d0' d1' d2'
      go_wp2
      go_roundw
      case rel => exact ⟨k + 1, by omega, by go_num, HB.out.trans (hb2.out.mono hsz)⟩
      case measure => simp [intOf]; omega
    · go_wp2
      go_ret
      exact ⟨rfl, HB.out⟩
end Go.Proofs.Ytfdhgahhcnipjaa
