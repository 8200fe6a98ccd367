/- The exact statements' own helpers for slices of calls: copies, comparisons. -/
import Derived.Test.YtfdhgahhcnipjaaConvA
namespace Go.Proofs.Ytfdhgahhcnipjaa
open Go.RowKit

theorem infoCall : (Try.prog.info? 48).map (fun i => (i.zero, i.size, i.bytes)) = some (some (.agg #[.int .i64 0, .int .i64 0, .int .i64 0, .int .i64 0]), 4, 32) := by kernel_rfl

set_option maxHeartbeats 1000000 in
theorem toCallS_any (A : Option Addr) (n c : Nat) (l : List Cll) (w : World) (h : Flat Cll.enc 4 w 0 w.heap.size A n c l) (hn : n ≤ 1048576) :
    Calls Try.prog 26 #[.slice A n c] w fun e w' => e = .returned (.slice (some ⟨w.heap.size, 0, none⟩) n n) ∧
      w'.ownsRow w.heap.size 48 4 (.slice (some ⟨w.heap.size, 0, none⟩) n n) n (l.flatMap Cll.enc) ∧ Below w.heap.size w w' := by
  have hlen := h.len
  obtain ⟨i0, hi, hz0, hz1, hz2⟩ := info_parts infoCall
  have hmk := fun W => make_rows (P := Try.prog) 23 48 i0 _ Try.underlying23 hi hz0 n (by rw [hz2]; omega) (by omega) W
  rw [hz1] at hmk
  have H := Lib.hid h
  have HL := Lib.hid hlen
  clear h hlen hi hz0 hz1 hz2
  obtain ⟨Z, hZ⟩ : ∃ Z, Z = madeCells (Value.agg #[.int .i64 0, .int .i64 0, .int .i64 0, .int .i64 0]).cells (n * 4) := ⟨_, rfl⟩
  rw [← hZ] at hmk
  have hZs : Z.size = n * 4 := by rw [hZ]; exact size_madeCells _ _
  have HZ := Lib.hid hZs
  clear hZs hZ
  go_enter Try.func26, Try.ntmps26
  go_wp2
  clear hmk
  go_loopw [4] (fun i wr => ∃ k : Nat, k ≤ n ∧ i = .int .i64 k ∧ Hid (∃ cs, wr.heap[w.heap.size]? = some (.cells cs 48 (0, 0)) ∧ Filled Cll.enc 4 cs l k) ∧ Below w.heap.size w wr)
    (fun i _ => n - (intOf i).toNat)
  case atStart => exact ⟨0, Nat.zero_le _, rfl, ⟨Z, heap_alloc_new _ _, Filled.zero (by rw [HZ.out, HL.out])⟩, (Below.refl _ _).alloc (Nat.le_refl _) _⟩
  case round =>
    obtain ⟨k, hk, rfl, hfill, hB⟩ := hrel
    have HW := Lib.hid (H.out.below hB (Nat.le_refl _))
    have HB := Lib.hid hB
    have hsz := hB.size
    clear hB H
    by_cases hlt : k < n
    · obtain ⟨b, off, x, rfl, _, hbB, hx, c0, c1, c2, c3⟩ := HW.out.cll hlt
      have Hx := Lib.hid hx
      clear hx
      obtain ⟨cs, hg, hf⟩ := hfill.out
      have Hg := Lib.hid hg
      have Hf := Lib.hid hf
      have hgs := lt_of_block hg
      have hfs := hf.1
      clear hg hf hfill
      have hlen := HL.out
      have hfs' : k * 4 + 4 ≤ cs.size := by omega
      clear hlen hfs
      go_wp2_with (go_at_call 47; refine (toCall_any _ _ _ _ _).mono ?_; rintro e w1 ⟨rfl, hb1⟩; have Hb1 := Lib.hid hb1; have hg1 := (hb1.block w.heap.size hgs).trans Hg.out; have Hg1 := Lib.hid hg1; obtain ⟨v0, q0⟩ := row_cell (i := k * 4) hg1 (by omega); obtain ⟨v1, q1⟩ := row_cell (i := k * 4 + 1) hg1 (by omega); obtain ⟨v2, q2⟩ := row_cell (i := k * 4 + 2) hg1 (by omega); obtain ⟨v3, q3⟩ := row_cell (i := k * 4 + 3) hg1 (by omega); have f0 := row_free hg1 (k * 4); have f1 := row_free hg1 (k * 4 + 1); have f2 := row_free hg1 (k * 4 + 2); have f3 := row_free hg1 (k * 4 + 3); clear hb1 hg1)
      go_roundw
      case rel =>
        refine ⟨k + 1, by omega, by go_num, ⟨_, heap_setCell_at (heap_setCell_at (heap_setCell_at (heap_setCell_at Hg1.out _) _) _) _, Filled.step Cll.len Hf.out Hx.out⟩, ?_⟩
        exact (HB.out.trans (Hb1.out.mono hsz)).setCell (Nat.le_refl _) _ |>.setCell (Nat.le_refl _) _ |>.setCell (Nat.le_refl _) _ |>.setCell (Nat.le_refl _) _
      case measure => simp [intOf]; omega
    · obtain rfl : n = k := by omega
      obtain ⟨cs, hg, hf⟩ := hfill.out
      have Hg := Lib.hid hg
      have Hf := Lib.hid hf
      clear hg hf hfill
      go_wp2
      go_ret
      exact ⟨rfl, Filled.own Cll.len (by omega) Hf.out HL.out Hg.out (Nat.le_refl _) (by unfold maxLen; omega), HB.out⟩

set_option maxHeartbeats 1000000 in
theorem eqCallS_same (A B : Option Addr) (n c d : Nat) (l : List Cll) (w : World) (h : Flat Cll.enc 4 w 0 w.heap.size A n c l) (h' : Flat Cll.enc 4 w 0 w.heap.size B n d l) (hn : n ≤ 1048576) :
    Calls Try.prog 27 #[.slice A n c, .slice B n d] w fun e w' => e = .returned (.bool true) ∧ Below w.heap.size w w' := by
  have H := Lib.hid h
  have H' := Lib.hid h'
  clear h h'
  go_enter Try.func27, Try.ntmps27
  go_wp2
  go_loopw [5] (fun i wr => ∃ k : Nat, k ≤ n ∧ i = .int .i64 k ∧ Below w.heap.size w wr) (fun i _ => n - (intOf i).toNat)
  case atStart => exact ⟨0, Nat.zero_le _, rfl, Below.refl _ _⟩
  case round =>
    obtain ⟨k, hk, rfl, hB⟩ := hrel
    have HW := Lib.hid (H.out.below hB (Nat.le_refl _))
    have HW' := Lib.hid (H'.out.below hB (Nat.le_refl _))
    have HB := Lib.hid hB
    have hsz := hB.size
    clear hB H H'
    by_cases hlt : k < n
    · obtain ⟨b, off, x, rfl, _, _, hx, c0, c1, c2, c3⟩ := HW.out.cll hlt
      obtain ⟨b', off', x', rfl, _, _, hx', c0', c1', c2', c3'⟩ := HW'.out.cll hlt
      obtain rfl : x = x' := by rw [hx] at hx'; injection hx'
      clear hx hx'
      have d0 := cell_regrown c0
      have d1 := cell_regrown c1
      have d2 := cell_regrown c2
      have d3 := cell_regrown c3
      have d0' := cell_regrown c0'
      have d1' := cell_regrown c1'
      have d2' := cell_regrown c2'
      have d3' := cell_regrown c3'
      have hk0 : (0 : Int) ≤ (k : Int) := by omega
      have hkn : (k : Int) < (n : Int) := by omega
      go_wp2_with fail
      refine wp_region_quiet_below (by kernel_rfl) (by kernel_rfl) ?_
      repeat (go_big_quiet_step ((go_at_call 48; exact Calls.regrown_of (eqCall_same _ _ _ _ _))))
      refine wpQuiet_nil ?_
      intro w2 hw2
      have hb2 := Lib.hid (below_of_regrown hw2)
      clear hw2 d0 d1 d2 d3 d0' d1' d2' d3'
      go_wp2
      go_roundw
      case rel => exact ⟨k + 1, by omega, by go_num, HB.out.trans (hb2.out.mono hsz)⟩
      case measure => simp [intOf]; omega
    · go_wp2
      go_ret
      exact ⟨rfl, HB.out⟩
end Go.Proofs.Ytfdhgahhcnipjaa
