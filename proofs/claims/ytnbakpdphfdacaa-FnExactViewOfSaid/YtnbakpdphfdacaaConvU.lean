/- The exact statements' own helpers for logs and nodes: sizes, copies, comparisons. -/
import Derived.Test.YtnbakpdphfdacaaNodeF
import Derived.Test.YtnbakpdphfdacaaBlk
import Derived.Test.YtnbakpdphfdacaaConvA
namespace Go.Proofs.Ytnbakpdphfdacaa
open Go.RowKit

set_option maxHeartbeats 400000 in
theorem szUpdateS_any (A : Option Addr) (n c : Nat) (left : Int) (w : World) (h0 : 0 ≤ left) (h1 : left ≤ 1048576) (hn : n ≤ 9223372036854775807) :
    Calls Try.prog 106 #[.slice A n c, .int .i64 left] w fun e w' => e = .returned (.int .i64 (if (n : Int) ≤ left then left - n else -1)) ∧ w = w' := by
  by_cases hl : (n : Int) ≤ left
  all_goals
    go_enter Try.func106, Try.ntmps106
    go_wp2
    go_ret
    exact ⟨ret_int (by simp), rfl⟩

set_option maxHeartbeats 400000 in
theorem szNode_any (id done : Int) (A : Option Addr) (n c : Nat) (left : Int) (w : World) (h0 : 0 ≤ left) (h1 : left ≤ 1048576) (hn : n ≤ 9223372036854775807) :
    Calls Try.prog 81 #[.agg #[.int .i64 id, .slice A n c, .int .i64 done], .int .i64 left] w fun e w' => e = .returned (.int .i64 (if (n : Int) ≤ left then left - n else -1)) ∧ Below w.heap.size w w' := by
  by_cases hl : (n : Int) ≤ left
  · have hif : (if (n : Int) ≤ left then left - n else -1) = left - n := if_pos hl
    rw [hif]
    have HI := Lib.hid hif
    clear hif
    have hnn : 0 ≤ left - (n : Int) := by omega
    go_enter Try.func81, Try.ntmps81
    go_wp2_with (go_at_call 106; refine (szUpdateS_any _ _ _ _ _ h0 h1 hn).mono ?_; rintro e w' ⟨rfl, rfl⟩; rw [HI.out])
    go_ret
    exact ⟨rfl, (Below.refl _ _).alloc (Nat.le_refl _) _⟩
  · have hif : (if (n : Int) ≤ left then left - n else -1) = -1 := if_neg hl
    rw [hif]
    have HI := Lib.hid hif
    clear hif
    go_enter Try.func81, Try.ntmps81
    go_wp2_with (go_at_call 106; refine (szUpdateS_any _ _ _ _ _ h0 h1 hn).mono ?_; rintro e w' ⟨rfl, rfl⟩; rw [HI.out])
    go_ret
    exact ⟨rfl, (Below.refl _ _).alloc (Nat.le_refl _) _⟩

set_option maxHeartbeats 1000000 in
theorem toUpdateS_any (A : Option Addr) (n c : Nat) (l : List Upd) (w : World) (h : Flat Upd.enc 2 w 0 w.heap.size A n c l) (hn : n ≤ 1048576) :
    Calls Try.prog 107 #[.slice A n c] w (LogCopied w n l) := by
  have hlen := h.len
  obtain ⟨i0, hi, hz0, hz1, hz2⟩ := info_parts infoUpd
  have hmk := fun W => make_rows (P := Try.prog) 40 72 i0 _ Try.underlying40 hi hz0 n (by rw [hz2]; omega) (by omega) W
  rw [hz1] at hmk
  have H := Lib.hid h
  have HL := Lib.hid hlen
  clear h hlen hi hz0 hz1 hz2
  obtain ⟨Z, hZ⟩ : ∃ Z, Z = madeCells (Value.agg #[.int .i64 0, .int .i64 0]).cells (n * 2) := ⟨_, rfl⟩
  rw [← hZ] at hmk
  have hZs : Z.size = n * 2 := by rw [hZ]; exact size_madeCells _ _
  have HZ := Lib.hid hZs
  clear hZs hZ
  go_enter Try.func107, Try.ntmps107
  go_wp2
  clear hmk
  go_loopw [4] (fun i wr => ∃ k : Nat, k ≤ n ∧ i = .int .i64 k ∧ Hid (∃ cs, wr.heap[w.heap.size]? = some (.cells cs 72 (0, 0)) ∧ Filled Upd.enc 2 cs l k) ∧ Below w.heap.size w wr)
    (fun i _ => n - (intOf i).toNat)
  case atStart => exact ⟨0, Nat.zero_le _, rfl, ⟨Z, heap_alloc_new _ _, Filled.zero (by rw [HZ.out, HL.out])⟩, (Below.refl _ _).alloc (Nat.le_refl _) _⟩
  case round =>
    obtain ⟨k, hk, rfl, hfill, hB⟩ := hrel
    have HW := Lib.hid (H.out.below hB (Nat.le_refl _))
    have HB := Lib.hid hB
    have hsz := hB.size
    clear hB H
    by_cases hlt : k < n
    · obtain ⟨b, off, x, rfl, _, hbB, hx, c0, c1⟩ := HW.out.upd hlt
      have Hx := Lib.hid hx
      clear hx
      obtain ⟨cs, hg, hf⟩ := hfill.out
      have Hg := Lib.hid hg
      have Hf := Lib.hid hf
      have hgs := lt_of_block hg
      have hfs := hf.1
      clear hg hf hfill
      have hlen := HL.out
      have hfs' : k * 2 + 2 ≤ cs.size := by omega
      clear hlen hfs
      go_wp2_with (go_at_call 118; refine (toUpdate_any _ _ _).mono ?_; rintro e w1 ⟨rfl, hb1⟩; have Hb1 := Lib.hid hb1; have hg1 := (hb1.block w.heap.size hgs).trans Hg.out; have Hg1 := Lib.hid hg1; obtain ⟨v0, q0⟩ := row_cell (i := k * 2) hg1 (by omega); obtain ⟨v1, q1⟩ := row_cell (i := k * 2 + 1) hg1 (by omega); have f0 := row_free hg1 (k * 2); have f1 := row_free hg1 (k * 2 + 1); clear hb1 hg1)
      go_roundw
      case rel =>
        refine ⟨k + 1, by omega, by go_num, ⟨_, heap_setCell_at (heap_setCell_at Hg1.out _) _, Filled.step Upd.len Hf.out Hx.out⟩, ?_⟩
        exact (HB.out.trans (Hb1.out.mono hsz)).setCell (Nat.le_refl _) _ |>.setCell (Nat.le_refl _) _
      case measure => simp [intOf]; omega
    · obtain rfl : n = k := by omega
      obtain ⟨cs, hg, hf⟩ := hfill.out
      have Hg := Lib.hid hg
      have Hf := Lib.hid hf
      clear hg hf hfill
      go_wp2
      go_ret
      exact ⟨rfl, Filled.own Upd.len (by omega) Hf.out HL.out Hg.out (Nat.le_refl _) (by unfold maxLen; omega), HB.out⟩

set_option maxHeartbeats 1000000 in
theorem eqUpdateS_same (A B : Option Addr) (n c d : Nat) (l : List Upd) (w : World) (h : Flat Upd.enc 2 w 0 w.heap.size A n c l) (h' : Flat Upd.enc 2 w 0 w.heap.size B n d l) (hn : n ≤ 1048576) :
    Calls Try.prog 25 #[.slice A n c, .slice B n d] w fun e w' => e = .returned (.bool true) ∧ Below w.heap.size w w' := by
  have H := Lib.hid h
  have H' := Lib.hid h'
  clear h h'
  go_enter Try.func25, Try.ntmps25
  go_wp2
  go_loopw [5] (fun i wr => ∃ k : Nat, k ≤ n ∧ i = .int .i64 k ∧ Below w.heap.size w wr) (fun i _ => n - (intOf i).toNat)
  case atStart => exact ⟨0, Nat.zero_le _, rfl, Below.refl _ _⟩
  case round =>
    obtain ⟨k, hk, rfl, hB⟩ := hrel
    have HW := Lib.hid (H.out.below hB (Nat.le_refl _))
    have HW' := Lib.hid (H'.out.below hB (Nat.le_refl _))
    have HB := Lib.hid hB
    have hsz := hB.size
    clear hB H H'
    by_cases hlt : k < n
    · obtain ⟨b, off, x, rfl, _, _, hx, c0, c1⟩ := HW.out.upd hlt
      obtain ⟨b', off', x', rfl, _, _, hx', c0', c1'⟩ := HW'.out.upd hlt
      obtain rfl : x = x' := by rw [hx] at hx'; injection hx'
      clear hx hx'
      have d0 := cell_regrown c0
      have d1 := cell_regrown c1
      have d0' := cell_regrown c0'
      have d1' := cell_regrown c1'
      have hk0 : (0 : Int) ≤ (k : Int) := by omega
      have hkn : (k : Int) < (n : Int) := by omega
      go_wp2_with fail
      refine wp_region_quiet_below (by kernel_rfl) (by kernel_rfl) ?_
      repeat (go_big_quiet_step ((go_at_call 58; exact Calls.regrown_of (eqUpdate_same _ _ _))))
      refine wpQuiet_nil ?_
      intro w2 hw2
      have hb2 := Lib.hid (below_of_regrown hw2)
      clear hw2 d0 d1 d0' d1'
      go_wp2
      go_roundw
      case rel => exact ⟨k + 1, by omega, by go_num, HB.out.trans (hb2.out.mono hsz)⟩
      case measure => simp [intOf]; omega
    · go_wp2
      go_ret
      exact ⟨rfl, HB.out⟩

set_option maxHeartbeats 2000000 in
theorem toNode_any (x : Nod) (A : Option Addr) (n c : Nat) (w : World) (h : Flat Upd.enc 2 w 0 w.heap.size A n c x.log) (hn : n ≤ 1048576) :
    Calls Try.prog 85 #[.agg #[.int .i64 x.id, .slice A n c, .int .i64 x.done]] w (NodeCopied w x n) := by
  have HL := Lib.hid h.len
  have H := Lib.hid h
  clear h
  go_enter Try.func85, Try.ntmps85
  go_wp2_with fail
  have F0 := Lib.hid (((H.out.box (.cells #[.int .i64 x.id, .slice A n c, .int .i64 x.done] 100)).box (.cells #[.int .i64 0, .slice none 0 0, .int .i64 0] 57)).box (.cells #[.int .i64 x.id, .slice none 0 0, .int .i64 0] 57))
  have KB := Lib.hid (((Blk.new w #[.int .i64 x.id, .slice A n c, .int .i64 x.done] 100).alloc (.cells #[.int .i64 0, .slice none 0 0, .int .i64 0] 57)).alloc (.cells #[.int .i64 x.id, .slice none 0 0, .int .i64 0] 57))
  have KR := Lib.hid ((Blk.new (w.alloc (.cells #[.int .i64 x.id, .slice A n c, .int .i64 x.done] 100)) #[.int .i64 0, .slice none 0 0, .int .i64 0] 57).alloc (.cells #[.int .i64 x.id, .slice none 0 0, .int .i64 0] 57))
  have KS := Lib.hid (Blk.new ((w.alloc (.cells #[.int .i64 x.id, .slice A n c, .int .i64 x.done] 100)).alloc (.cells #[.int .i64 0, .slice none 0 0, .int .i64 0] 57)) #[.int .i64 x.id, .slice none 0 0, .int .i64 0] 57)
  refine (toUpdateS_any _ _ _ x.log _ F0.out hn).mono ?_
  rintro e w1 ⟨rfl, hown1, hb1⟩
  have B1 := Lib.hid (below_box (below_box' (below_box' hb1)))
  have kb := KB.out.below hb1
  have kr := KR.out.below hb1
  have ks := KS.out.below hb1
  simp only [World.size_alloc] at kr ks hown1
  have b2 := kb.cell (i := 2) rfl
  have s0 := ks.cell (i := 0) rfl
  have s1 := ks.cell (i := 1) rfl
  have s2 := ks.cell (i := 2) rfl
  have t1 := ks.free 1
  have t2 := ks.free 2
  have z0 := kr.cell (i := 0) rfl
  have z1 := kr.cell (i := 1) rfl
  have z2 := kr.cell (i := 2) rfl
  have y0 := kr.free 0
  have y1 := kr.free 1
  have y2 := kr.free 2
  have r1 := kr.far (a := ⟨w.heap.size + 1 + 1, 1, none⟩) (show w.heap.size + 1 ≠ w.heap.size + 1 + 1 by omega) (.slice (some ⟨w.heap.size + 1 + 1 + 1, 0, none⟩) n n)
  have r2 := r1.far (a := ⟨w.heap.size + 1 + 1, 2, none⟩) (show w.heap.size + 1 ≠ w.heap.size + 1 + 1 by omega) (.int .i64 x.done)
  obtain ⟨e0, e1, e2⟩ := three_stores _ (w.heap.size + 1) (r2.cell (i := 0) rfl) (r2.cell (i := 1) rfl) (r2.cell (i := 2) rfl)
  have E := Lib.hid (And.intro e0 (And.intro e1 e2))
  have O1 := Lib.hid hown1
  clear hb1 hown1 kb kr ks r1 r2 e0 e1 e2
  go_wp2
  obtain ⟨e0, e1, e2⟩ := E.out
  refine bodyPost_ret (v := .agg #[.int .i64 x.id, .slice (some ⟨w.heap.size + 1 + 1 + 1, 0, none⟩) n n, .int .i64 x.done]) (by simp [results, Try.results85, go_sem, e0, e1, e2]) rfl ⟨w.heap.size + 1 + 1 + 1, rfl, ?_, ?_⟩
  · refine own_keep (O1.out.mono (by omega)) (fun q hq => ?_)
    have : w.heap.size + 1 + 1 + 1 = q := by simpa [Value.ownBlock] using hq
    have hr : q ≠ w.heap.size + 1 := by omega
    have hs : q ≠ w.heap.size + 1 + 1 := by omega
    rw [Below.heap_setCell _ _ _ _ hr, Below.heap_setCell _ _ _ _ hr, Below.heap_setCell _ _ _ _ hr, Below.heap_setCell _ _ _ _ hs, Below.heap_setCell _ _ _ _ hs]
  · have hr : w.heap.size ≤ w.heap.size + 1 := by omega
    have hs : w.heap.size ≤ w.heap.size + 1 + 1 := by omega
    exact ((((B1.out.setCell (p := ⟨w.heap.size + 1 + 1, 1, none⟩) hs _).setCell (p := ⟨w.heap.size + 1 + 1, 2, none⟩) hs _).setCell (p := ⟨w.heap.size + 1, 0, none⟩) hr _).setCell (p := ⟨w.heap.size + 1, 1, none⟩) hr _).setCell (p := ⟨w.heap.size + 1, 2, none⟩) hr _

set_option maxHeartbeats 2000000 in
theorem eqNode_same (x : Nod) (A B : Option Addr) (n c d : Nat) (w : World) (h : Flat Upd.enc 2 w 0 w.heap.size A n c x.log) (h' : Flat Upd.enc 2 w 0 w.heap.size B n d x.log) (hn : n ≤ 1048576) :
    Calls Try.prog 89 #[.agg #[.int .i64 x.id, .slice A n c, .int .i64 x.done], .agg #[.int .i64 x.id, .slice B n d, .int .i64 x.done]] w fun e w' => e = .returned (.bool true) ∧ Below w.heap.size w w' := by
  have H := Lib.hid h
  have H' := Lib.hid h'
  have H0 := Lib.hid ((h.box (.cells #[.int .i64 x.id, .slice A n c, .int .i64 x.done] 57)).box (.cells #[.int .i64 x.id, .slice B n d, .int .i64 x.done] 57))
  have H0' := Lib.hid ((h'.box (.cells #[.int .i64 x.id, .slice A n c, .int .i64 x.done] 57)).box (.cells #[.int .i64 x.id, .slice B n d, .int .i64 x.done] 57))
  clear h h'
  go_enter Try.func89, Try.ntmps89
  go_wp2_with (go_at_call 25; refine (eqUpdateS_same _ _ _ _ _ x.log _ H0.out H0'.out hn).mono ?_; rintro e w1 ⟨rfl, hb1⟩; have B1 := Lib.hid (below_box (below_box' hb1)); have q2 := (two_box hb1).1 2; have r2 := (two_box hb1).2.1 2; clear hb1)
  go_ret
  exact ⟨rfl, B1.out⟩
end Go.Proofs.Ytnbakpdphfdacaa
