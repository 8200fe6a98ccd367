/- The exact statements' own helpers for chains: sizes, copies, comparisons. -/
import Derived.Test.YtnbakpdphfdacaaConvU
import Derived.Test.YtnbakpdphfdacaaRow
import Derived.Test.YtnbakpdphfdacaaChainA
import Derived.Lib.QuietBelow
namespace Go.Proofs.Ytnbakpdphfdacaa
open Go.RowKit Go.Sort

/-- what reckoning the size leaves: -1, or all is small -/
def SizeLeft (w : World) (left : Int) (n : Nat) (l : List Nod) (e : Ending) (w' : World) : Prop :=
  ∃ v : Int, e = .returned (.int .i64 v) ∧ (v < 0 ∨ (0 ≤ v ∧ v ≤ left ∧ (n : Int) ≤ left ∧ ∀ x ∈ l, (x.log.length : Int) ≤ left)) ∧ Below w.heap.size w w'

set_option maxHeartbeats 1000000 in
theorem szNodeS_any (A : Option Addr) (n c : Nat) (l : List Nod) (left : Int) (w : World) (h : Nods w 0 w.heap.size A n c l) (h0 : 0 ≤ left) (h1 : left ≤ 1048576) :
    Calls Try.prog 46 #[.slice A n c, .int .i64 left] w (SizeLeft w left n l) := by
  have hnc : n ≤ 9223372036854775807 := by have := h.cap; unfold maxLen at this; omega
  have HL := Lib.hid h.len
  have H := Lib.hid h
  clear h
  by_cases hle : (n : Int) ≤ left
  case neg =>
    go_enter Try.func46, Try.ntmps46
    go_wp2
    go_ret
    exact ⟨-1, rfl, .inl (by omega), Below.refl _ _⟩
  case pos =>
  go_enter Try.func46, Try.ntmps46
  go_wp2_with fail
  go_loopw [1, 5] (fun q i wr => ∃ (k : Nat) (v : Int), k ≤ n ∧ i = .int .i64 k ∧ q = .int .i64 v ∧ 0 ≤ v ∧ v ≤ left ∧ Hid (∀ (j : Nat) (x : Nod), j < k → l[j]? = some x → (x.log.length : Int) ≤ left) ∧ Below w.heap.size w wr)
    (fun _ i _ => n - (intOf i).toNat)
  case atStart => exact ⟨0, left - n, Nat.zero_le _, rfl, rfl, by omega, by omega, fun _ _ h => absurd h (by omega), Below.refl _ _⟩
  case round =>
    obtain ⟨k, v, hk, rfl, rfl, hv0, hv1, hall, hB⟩ := hrel
    have HW := Lib.hid (H.out.below hB (Nat.le_refl _))
    have HB := Lib.hid hB
    have hsz := hB.size
    clear hB H
    by_cases hlt : k < n
    · obtain ⟨b, off, x, A', m, d, rfl, _, hbB, hx, c0, c1, c2, hf⟩ := HW.out.nod hlt
      have hm : m ≤ 9223372036854775807 := by have := hf.2.1; have := hf.2.2.1; unfold maxLen at *; omega
      have HM := Lib.hid hf.len
      have Hx := Lib.hid hx
      clear hx hf
      by_cases hmv : (m : Int) ≤ v
      · have hif : (if (m : Int) ≤ v then v - m else -1) = v - m := if_pos hmv
        have HI := Lib.hid hif
        have hnn : 0 ≤ v - (m : Int) := by omega
        clear hif
        go_wp2_with (go_at_call 81; refine (szNode_any _ _ _ _ _ _ _ hv0 (by omega) hm).mono ?_; rintro e w1 ⟨rfl, hb1⟩; rw [HI.out]; have B1 := Lib.hid (HB.out.trans (hb1.mono hsz)); clear hb1)
        go_roundw
        case rel =>
          refine ⟨k + 1, v - m, by omega, by go_num, rfl, by omega, by omega, ?_, B1.out⟩
          intro j y hj hy
          by_cases e : j = k
          · subst e
            have := Hx.out
            rw [this] at hy; injection hy with hy; subst hy
            have := HM.out; omega
          · exact hall.out j y (by omega) hy
        case measure => simp [intOf]; omega
      · have hif : (if (m : Int) ≤ v then v - m else -1) = -1 := if_neg hmv
        have HI := Lib.hid hif
        clear hif
        go_wp2_with (go_at_call 81; refine (szNode_any _ _ _ _ _ _ _ hv0 (by omega) hm).mono ?_; rintro e w1 ⟨rfl, hb1⟩; rw [HI.out]; have B1 := Lib.hid (HB.out.trans (hb1.mono hsz)); clear hb1)
        go_ret
        exact ⟨-1, rfl, .inl (by omega), B1.out⟩
    · obtain rfl : n = k := by omega
      go_wp2
      go_ret
      refine ⟨v, rfl, .inr ⟨hv0, hv1, hle, fun x hx => ?_⟩, HB.out⟩
      obtain ⟨j, hj⟩ := List.getElem?_of_mem hx
      exact hall.out j x (by have := (List.getElem?_eq_some_iff.1 hj).1; have := HL.out; omega) hj

set_option maxHeartbeats 1000000 in
theorem szChain_any (view : Int) (A : Option Addr) (n c : Nat) (l : List Nod) (left : Int) (w : World) (h : Nods w 0 w.heap.size A n c l) (h0 : 0 ≤ left) (h1 : left ≤ 1048576) :
    Calls Try.prog 14 #[.agg #[.int .i64 view, .slice A n c], .int .i64 left] w (SizeLeft w left n l) := by
  have H := Lib.hid (h.box (.cells #[.int .i64 view, .slice A n c] 24))
  clear h
  go_enter Try.func14, Try.ntmps14
  go_wp2_with fail
  refine (szNodeS_any _ _ _ l _ _ H.out h0 h1).mono ?_
  rintro e w1 ⟨v, rfl, hv, hb1⟩
  have HV := Lib.hid hv
  have B1 := Lib.hid (below_box hb1)
  clear hv hb1
  by_cases hv0 : v < 0
  · go_wp2
    go_ret
    exact ⟨-1, rfl, .inl (by omega), B1.out⟩
  · go_wp2
    go_ret
    exact ⟨v, rfl, HV.out, B1.out⟩

set_option maxHeartbeats 2000000 in
theorem toNodeS_any (A : Option Addr) (n c : Nat) (l : List Nod) (w : World) (h : Nods w 0 w.heap.size A n c l) (hn : n ≤ 1048576) (hlog : ∀ x ∈ l, x.log.length ≤ 1048576) :
    Calls Try.prog 48 #[.slice A n c] w fun e w' => e = .returned (.slice (some ⟨w.heap.size, 0, none⟩) n n) ∧ NodRow w' w.heap.size w'.heap.size (.slice (some ⟨w.heap.size, 0, none⟩) n n) l ∧ Below w.heap.size w w' := by
  have hlen := h.len
  obtain ⟨i0, hi, hz0, hz1, hz2⟩ := info_parts infoNode
  have hmk := fun W => make_rows (P := Try.prog) 31 57 i0 _ Try.underlying31 hi hz0 n (by rw [hz2]; omega) (by omega) W
  rw [hz1] at hmk
  have H := Lib.hid h
  have HL := Lib.hid hlen
  have HG := Lib.hid hlog
  clear h hlen hlog hi hz0 hz1 hz2
  obtain ⟨Z, hZ⟩ : ∃ Z, Z = madeCells (Value.agg #[.int .i64 0, .slice none 0 0, .int .i64 0]).cells (n * 3) := ⟨_, rfl⟩
  rw [← hZ] at hmk
  have hZs : Z.size = n * 3 := by rw [hZ]; exact size_madeCells _ _
  have HZ := Lib.hid hZs
  clear hZs hZ
  go_enter Try.func48, Try.ntmps48
  go_wp2
  clear hmk
  go_loopw [4] (fun i wr => ∃ k : Nat, k ≤ n ∧ i = .int .i64 k ∧ RowTo wr w.heap.size w.heap.size n l k ∧ Below w.heap.size w wr)
    (fun i _ => n - (intOf i).toNat)
  case atStart => exact ⟨0, Nat.zero_le _, rfl, RowTo.zero (heap_alloc_new _ _) HZ.out (Nat.le_refl _), (Below.refl _ _).alloc (Nat.le_refl _) _⟩
  case round =>
    obtain ⟨k, hk, rfl, hrow, hB⟩ := hrel
    have HW := Lib.hid (H.out.below hB (Nat.le_refl _))
    have HB := Lib.hid hB
    have HR := Lib.hid hrow
    have hsz := hB.size
    clear hB hrow
    by_cases hlt : k < n
    · obtain ⟨b, off, x, A', m, d, rfl, _, hbB, hx, c0, c1, c2, hf⟩ := HW.out.nod hlt
      have hm : m ≤ 1048576 := by have := hf.len; have := HG.out x (List.mem_of_getElem? hx); omega
      have HM := Lib.hid hf.len
      have Hx := Lib.hid hx
      have HF := Lib.hid (hf.mono (Nat.zero_le _) hsz)
      obtain ⟨cs, hg, hcs⟩ := HR.out.block
      have hgs := lt_of_block hg
      have Hg := Lib.hid hg
      have hfs' : k * 3 + 3 ≤ cs.size := by rw [hcs]; omega
      clear hx hf hg hcs
      go_wp2_with (go_at_call 85; refine (toNode_any x _ _ _ _ HF.out hm).mono ?_; rintro e w1 ⟨g1, rfl, hown1, hb1⟩; have Hb1 := Lib.hid hb1; have O1 := Lib.hid hown1; have hg1 := (hb1.block w.heap.size hgs).trans Hg.out; obtain ⟨v0, q0⟩ := row_cell (i := k * 3) hg1 (by omega); obtain ⟨v1, q1⟩ := row_cell (i := k * 3 + 1) hg1 (by omega); obtain ⟨v2, q2⟩ := row_cell (i := k * 3 + 2) hg1 (by omega); have f0 := row_free hg1 (k * 3); have f1 := row_free hg1 (k * 3 + 1); have f2 := row_free hg1 (k * 3 + 2); clear hb1 hg1 hown1)
      go_roundw
      case rel =>
        refine ⟨k + 1, by omega, by go_num, HR.out.step (r := ⟨x.id, some ⟨g1, 0, none⟩, m, m, x.done⟩) Hb1.out Hx.out ⟨rfl, rfl, HM.out⟩ hlt O1.out, ?_⟩
        exact (HB.out.trans (Hb1.out.mono hsz)).setCell (Nat.le_refl _) _ |>.setCell (Nat.le_refl _) _ |>.setCell (Nat.le_refl _) _
      case measure => simp [intOf]; omega
    · obtain rfl : n = k := by omega
      go_wp2
      go_ret
      exact ⟨rfl, HR.out.done HL.out (by unfold maxLen; omega), HB.out⟩

theorem two_cells (w : World) (g : Nat) {a b : Value} (h0 : w.cell? ⟨g, 0, none⟩ = some a) (h1 : w.cell? ⟨g, 1, none⟩ = some b) (u v : Value) :
    ((w.setCell ⟨g, 0, none⟩ u).setCell ⟨g, 1, none⟩ v).cell? ⟨g, 0, none⟩ = some u ∧ ((w.setCell ⟨g, 0, none⟩ u).setCell ⟨g, 1, none⟩ v).cell? ⟨g, 1, none⟩ = some v := by
  obtain ⟨e0, e1⟩ := two_stores w g h0 h1
  refine ⟨?_, e1 u v⟩
  rw [World.cell?_setCell_other _ _ _ _ (by simp)]; exact e0 u

set_option maxHeartbeats 2000000 in
theorem toChain_any (view : Int) (A : Option Addr) (n c : Nat) (l : List Nod) (w : World) (h : Nods w 0 w.heap.size A n c l) (hn : n ≤ 1048576) (hlog : ∀ x ∈ l, x.log.length ≤ 1048576) :
    Calls Try.prog 16 #[.agg #[.int .i64 view, .slice A n c]] w (ChainLeft w view l) := by
  have HL := Lib.hid h.len
  have HG := Lib.hid hlog
  have H := Lib.hid h
  clear h hlog
  go_enter Try.func16, Try.ntmps16
  go_wp2_with fail
  have F0 := Lib.hid (((H.out.box (.cells #[.int .i64 view, .slice A n c] 24)).box (.cells #[.int .i64 0, .slice none 0 0] 33)).box (.cells #[.int .i64 view, .slice none 0 0] 33))
  have KR := Lib.hid ((Blk.new (w.alloc (.cells #[.int .i64 view, .slice A n c] 24)) #[.int .i64 0, .slice none 0 0] 33).alloc (.cells #[.int .i64 view, .slice none 0 0] 33))
  have KS := Lib.hid (Blk.new ((w.alloc (.cells #[.int .i64 view, .slice A n c] 24)).alloc (.cells #[.int .i64 0, .slice none 0 0] 33)) #[.int .i64 view, .slice none 0 0] 33)
  refine (toNodeS_any _ _ _ l _ F0.out hn HG.out).mono ?_
  rintro e w1 ⟨rfl, hrow1, hb1⟩
  have B1 := Lib.hid (below_box (below_box (below_box hb1)))
  have kr := KR.out.below hb1
  have ks := KS.out.below hb1
  simp only [World.size_alloc] at kr ks hrow1
  have s0 := ks.cell (i := 0) (v := .int .i64 view) rfl
  have s1 := ks.cell (i := 1) (v := .slice none 0 0) rfl
  have t1 := ks.free 1
  have z0 := kr.cell (i := 0) (v := .int .i64 0) rfl
  have z1 := kr.cell (i := 1) (v := .slice none 0 0) rfl
  have y0 := kr.free 0
  have y1 := kr.free 1
  have r1 := kr.far (a := ⟨w.heap.size + 1 + 1, 1, none⟩) (show w.heap.size + 1 ≠ w.heap.size + 1 + 1 by omega) (.slice (some ⟨w.heap.size + 1 + 1 + 1, 0, none⟩) n n)
  obtain ⟨e0, e1⟩ := two_stores _ (w.heap.size + 1) (r1.cell (i := 0) rfl) (r1.cell (i := 1) rfl)
  have E := Lib.hid (And.intro e0 e1)
  have R1 := Lib.hid hrow1
  clear hb1 hrow1 kr ks r1 e0 e1
  go_wp2
  obtain ⟨e0, e1⟩ := E.out
  refine bodyPost_ret (v := .agg #[.int .i64 view, .slice (some ⟨w.heap.size + 1 + 1 + 1, 0, none⟩) n n]) (by simp [results, Try.results16, go_sem, e0, e1]) rfl ⟨_, n, n, rfl, HL.out, ?_, ?_⟩
  · refine (R1.out.keep (w' := _) (fun q hq _ => ?_)).lower (by omega) |>.mono (by simp [World.setCell])
    have hr : q ≠ w.heap.size + 1 := by omega
    have hs : q ≠ w.heap.size + 1 + 1 := by omega
    rw [Below.heap_setCell _ _ _ _ hr, Below.heap_setCell _ _ _ _ hr, Below.heap_setCell _ _ _ _ hs]
  · have hr : w.heap.size ≤ w.heap.size + 1 := by omega
    have hs : w.heap.size ≤ w.heap.size + 1 + 1 := by omega
    exact ((B1.out.setCell (p := ⟨w.heap.size + 1 + 1, 1, none⟩) hs _).setCell (p := ⟨w.heap.size + 1, 0, none⟩) hr _).setCell (p := ⟨w.heap.size + 1, 1, none⟩) hr _

set_option maxHeartbeats 2000000 in
theorem eqNodeS_same (A B : Option Addr) (n c d : Nat) (l : List Nod) (w : World) (h : Nods w 0 w.heap.size A n c l) (h' : Nods w 0 w.heap.size B n d l) (hn : n ≤ 1048576) (hlog : ∀ x ∈ l, x.log.length ≤ 1048576) :
    Calls Try.prog 51 #[.slice A n c, .slice B n d] w fun e w' => e = .returned (.bool true) ∧ Below w.heap.size w w' := by
  have H := Lib.hid h
  have H' := Lib.hid h'
  have HG := Lib.hid hlog
  clear h h' hlog
  go_enter Try.func51, Try.ntmps51
  go_wp2
  go_loopw [5] (fun i wr => ∃ k : Nat, k ≤ n ∧ i = .int .i64 k ∧ Below w.heap.size w wr) (fun i _ => n - (intOf i).toNat)
  case atStart => exact ⟨0, Nat.zero_le _, rfl, Below.refl _ _⟩
  case round =>
    obtain ⟨k, hk, rfl, hB⟩ := hrel
    have HW := Lib.hid (H.out.below hB (Nat.le_refl _))
    have HW' := Lib.hid (H'.out.below hB (Nat.le_refl _))
    have HB := Lib.hid hB
    have hsz := hB.size
    clear hB H H'
    by_cases hlt : k < n
    · obtain ⟨b, off, x, A1, m, d1, rfl, _, _, hx, c0, c1, c2, hf⟩ := HW.out.nod hlt
      obtain ⟨b', off', x', A2, m', d2, rfl, _, _, hx', c0', c1', c2', hf'⟩ := HW'.out.nod hlt
      obtain rfl : x = x' := by rw [hx] at hx'; injection hx'
      have hmm : m' = m := by rw [← hf.len, ← hf'.len]
      have hm : m ≤ 1048576 := by have := hf.len; have := HG.out x (List.mem_of_getElem? hx); omega
      subst hmm
      have F := Lib.hid (hf.mono (Nat.zero_le _) hsz)
      have F' := Lib.hid (hf'.mono (Nat.zero_le _) hsz)
      clear hx hx' hf hf'
      have e0 := cell_regrown c0
      have e1 := cell_regrown c1
      have e2 := cell_regrown c2
      have e0' := cell_regrown c0'
      have e1' := cell_regrown c1'
      have e2' := cell_regrown c2'
      have hk0 : (0 : Int) ≤ (k : Int) := by omega
      have hkn : (k : Int) < (n : Int) := by omega
      go_wp2_with fail
      refine wp_region_quiet_below (by kernel_rfl) (by kernel_rfl) ?_
      repeat (go_big_quiet_step ((go_at_call 89; exact Calls.regrown_of (eqNode_same x _ _ _ _ _ _ (F.out.on (below_regrown _ _ _)) (F'.out.on (below_regrown _ _ _)) hm))))
      refine wpQuiet_nil ?_
      intro w2 hw2
      have hb2 := Lib.hid (below_of_regrown hw2)
      clear hw2 e0 e1 e2 e0' e1' e2'
      go_wp2
      go_roundw
      case rel => exact ⟨k + 1, by omega, by go_num, HB.out.trans (hb2.out.mono hsz)⟩
      case measure => simp [intOf]; omega
    · go_wp2
      go_ret
      exact ⟨rfl, HB.out⟩

set_option maxHeartbeats 1000000 in
theorem eqChain_same (view : Int) (A B : Option Addr) (n c d : Nat) (l : List Nod) (w : World) (h : Nods w 0 w.heap.size A n c l) (h' : Nods w 0 w.heap.size B n d l) (hn : n ≤ 1048576) (hlog : ∀ x ∈ l, x.log.length ≤ 1048576) :
    Calls Try.prog 19 #[.agg #[.int .i64 view, .slice A n c], .agg #[.int .i64 view, .slice B n d]] w fun e w' => e = .returned (.bool true) ∧ Below w.heap.size w w' := by
  have H0 := Lib.hid ((h.box (.cells #[.int .i64 view, .slice A n c] 33)).box (.cells #[.int .i64 view, .slice B n d] 33))
  have H0' := Lib.hid ((h'.box (.cells #[.int .i64 view, .slice A n c] 33)).box (.cells #[.int .i64 view, .slice B n d] 33))
  have HG := Lib.hid hlog
  clear h h' hlog
  go_enter Try.func19, Try.ntmps19
  go_wp2_with (go_at_call 51; refine (eqNodeS_same _ _ _ _ _ l _ H0.out H0'.out hn HG.out).mono ?_; rintro e w1 ⟨rfl, hb1⟩; have B1 := Lib.hid (below_box (below_box hb1)); clear hb1)
  go_ret
  exact ⟨rfl, B1.out⟩
end Go.Proofs.Ytnbakpdphfdacaa
