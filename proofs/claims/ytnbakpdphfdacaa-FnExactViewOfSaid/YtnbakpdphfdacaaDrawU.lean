/- Drawing updates, logs and nodes: what a draw hands back lies in new memory; nothing that was there but the reader's place changes. -/
import Derived.Test.YtnbakpdphfdacaaNodeA
import Derived.Test.YtnbakpdphfdacaaBlk
namespace Go.Proofs.Ytnbakpdphfdacaa
open Go.RowKit

/-- what drawing an update leaves -/
def DrewUpd (w : World) (rb B p : Nat) (e : Ending) (w' : World) : Prop :=
  ∃ (u : Upd) (p' : Nat), e = .returned (.agg #[.int .i64 u.key, .int .i64 u.value]) ∧ p' ≤ p + 4 ∧ Rd w' rb B p' ∧ w.grownBy w' (some rb)

set_option maxHeartbeats 2000000 in
theorem l91Update_any (rb B p : Nat) (w : World) (h : Rd w rb B p) (hp : p ≤ 549755813888) :
    Calls Try.prog 113 #[.pointer (some ⟨rb, 0, none⟩)] w (DrewUpd w rb B p) := by
  have hrb := h.lt
  have R0 := Lib.hid (h.alloc (.cells #[.int .i64 0, .int .i64 0] 72))
  have K0 := Lib.hid (Blk.new w #[.int .i64 0, .int .i64 0] 72)
  have G0 := Lib.hid (only_alloc (only_refl w rb) (.cells #[.int .i64 0, .int .i64 0] 72))
  clear h
  go_enter Try.func113, Try.ntmps113
  go_wp2_with fail
  refine (pick_any rb B p _ _ R0.out (by omega)).mono ?_
  rintro e w1 ⟨v1, rfl, _, _, _, hr1, hg1⟩
  have R1 := Lib.hid hr1
  have K1 := Lib.hid (K0.out.pick hg1 (by omega))
  have G1 := Lib.hid (only_trans G0.out hg1)
  clear hr1 hg1 R0 K0 G0
  go_wp2_with fail
  refine (pick_any rb B _ _ _ R1.out (by omega)).mono ?_
  rintro e w2 ⟨v2, rfl, _, _, _, hr2, hg2⟩
  have K2 := Lib.hid ((K1.out.pick hg2 (by omega)).alloc (.cells #[.int .i64 v1, .int .i64 v2] 72))
  have R2 := Lib.hid (hr2.alloc (.cells #[.int .i64 v1, .int .i64 v2] 72))
  have L2 := Lib.hid (Blk.new w2 #[.int .i64 v1, .int .i64 v2] 72)
  have G2 := Lib.hid (only_alloc (only_trans G1.out hg2) (.cells #[.int .i64 v1, .int .i64 v2] 72))
  have s2 : w.heap.size + 1 ≤ w2.heap.size := by have := K2.out.lt; have := (only_trans G1.out hg2).size; have := K1.out.lt; have := hg2.size; omega
  clear hr2 hg2 R1 K1 G1
  go_wp2_with fail
  refine (pick_any rb B _ _ _ R2.out (by omega)).mono ?_
  rintro e w3 ⟨v3, rfl, _, _, _, hr3, hg3⟩
  have K3 := Lib.hid (K2.out.pick hg3 (by omega))
  have L3 := Lib.hid (L2.out.pick hg3 (by omega))
  have R3 := Lib.hid hr3
  have G3 := Lib.hid (only_trans G2.out hg3)
  have s3 : w2.heap.size + 1 ≤ w3.heap.size := by have := hg3.size; simp at this; omega
  clear hr3 hg3 R2 K2 L2 G2
  have hne : w2.heap.size ≠ w.heap.size := by omega
  have hne' : w.heap.size ≠ w2.heap.size := by omega
  have hnr : w2.heap.size ≠ rb := by omega
  have hnr' : w.heap.size ≠ rb := by omega
  by_cases h0 : v3 = 0
  · subst h0
    go_wp2_with fail
    refine (pick_any rb B _ _ _ (R3.out.alloc _) (by omega)).mono ?_
    rintro e w4 ⟨v4, rfl, hi0, hi1, _, hr4, hg4⟩
    obtain ⟨ix, rfl⟩ := Int.eq_ofNat_of_zero_le hi0
    have hix := hi1 (by omega)
    have hq : Blk w4 w3.heap.size #[.int .i64 (-1), .int .i64 4, .int .i64 5] 3 := (Blk.new w3 _ _).pick hg4 (by omega)
    obtain ⟨x, hx⟩ : ∃ x, w4.cell? ⟨w3.heap.size, ix, none⟩ = some (.int .i64 x) := by
      have : ix = 0 ∨ ix = 1 ∨ ix = 2 := by omega
      rcases this with rfl | rfl | rfl <;> exact ⟨_, hq.cell rfl⟩
    have K4 := (K3.out.alloc (.cells #[.int .i64 (-1), .int .i64 4, .int .i64 5] 3)).pick hg4 (by omega)
    have L4 := (L3.out.alloc (.cells #[.int .i64 (-1), .int .i64 4, .int .i64 5] 3)).pick hg4 (by omega)
    have z0 := K4.cell (i := 0) rfl
    have z1 := K4.cell (i := 1) rfl
    have y0 := K4.free 0
    have y1 := K4.free 1
    have d0 := L4.cell (i := 0) rfl
    have d1 := L4.cell (i := 1) rfl
    have f0 := L4.free 0
    have R4 := Lib.hid hr4
    have G4 := Lib.hid (only_trans (only_alloc G3.out (.cells #[.int .i64 (-1), .int .i64 4, .int .i64 5] 3)) hg4)
    have hM := ((L4.set 0 (.int .i64 x)))
    have hN := K4.far (a := ⟨w2.heap.size, 0, none⟩) hne' (.int .i64 x)
    obtain ⟨e0, e1⟩ := two_stores _ w.heap.size (hN.cell (i := 0) rfl) (hN.cell (i := 1) rfl)
    clear hi1 hq hr4 hg4 K4 L4 hM hN R3 K3 L3 G3
    go_wp2
    refine bodyPost_ret (v := .agg #[.int .i64 x, .int .i64 v2]) (by simp [results, Try.results113, go_sem, e0, e1]) rfl ⟨⟨x, v2⟩, p + 1 + 1 + 1 + 1, rfl, (by omega), ?_, ?_⟩
    · exact ((R4.out.far (a := ⟨w2.heap.size, 0, none⟩) (by show rb < w2.heap.size; omega) _).far (a := ⟨w.heap.size, 0, none⟩) hrb _).far (a := ⟨w.heap.size, 1, none⟩) hrb _
    · exact only_set (a := ⟨w.heap.size, 1, none⟩) (only_set (a := ⟨w.heap.size, 0, none⟩) (only_set (a := ⟨w2.heap.size, 0, none⟩) G4.out (by show w.heap.size ≤ w2.heap.size; omega) _) (Nat.le_refl _) _) (Nat.le_refl _) _
  by_cases h1 : v3 = 1
  · subst h1
    go_wp2_with fail
    refine (pick_any rb B _ _ _ (R3.out.alloc _) (by omega)).mono ?_
    rintro e w4 ⟨v4, rfl, hi0, hi1, _, hr4, hg4⟩
    obtain ⟨ix, rfl⟩ := Int.eq_ofNat_of_zero_le hi0
    have hix := hi1 (by omega)
    have hq : Blk w4 w3.heap.size #[.int .i64 (-1), .int .i64 99, .int .i64 100] 3 := (Blk.new w3 _ _).pick hg4 (by omega)
    obtain ⟨x, hx⟩ : ∃ x, w4.cell? ⟨w3.heap.size, ix, none⟩ = some (.int .i64 x) := by
      have : ix = 0 ∨ ix = 1 ∨ ix = 2 := by omega
      rcases this with rfl | rfl | rfl <;> exact ⟨_, hq.cell rfl⟩
    have K4 := (K3.out.alloc (.cells #[.int .i64 (-1), .int .i64 99, .int .i64 100] 3)).pick hg4 (by omega)
    have L4 := (L3.out.alloc (.cells #[.int .i64 (-1), .int .i64 99, .int .i64 100] 3)).pick hg4 (by omega)
    have z0 := K4.cell (i := 0) rfl
    have z1 := K4.cell (i := 1) rfl
    have y0 := K4.free 0
    have y1 := K4.free 1
    have d0 := L4.cell (i := 0) rfl
    have d1 := L4.cell (i := 1) rfl
    have f1 := L4.free 1
    have R4 := Lib.hid hr4
    have G4 := Lib.hid (only_trans (only_alloc G3.out (.cells #[.int .i64 (-1), .int .i64 99, .int .i64 100] 3)) hg4)
    have hN := K4.far (a := ⟨w2.heap.size, 1, none⟩) hne' (.int .i64 x)
    obtain ⟨e0, e1⟩ := two_stores _ w.heap.size (hN.cell (i := 0) rfl) (hN.cell (i := 1) rfl)
    clear hi1 hq hr4 hg4 K4 L4 hN R3 K3 L3 G3
    go_wp2
    refine bodyPost_ret (v := .agg #[.int .i64 v1, .int .i64 x]) (by simp [results, Try.results113, go_sem, e0, e1]) rfl ⟨⟨v1, x⟩, p + 1 + 1 + 1 + 1, rfl, (by omega), ?_, ?_⟩
    · exact ((R4.out.far (a := ⟨w2.heap.size, 1, none⟩) (by show rb < w2.heap.size; omega) _).far (a := ⟨w.heap.size, 0, none⟩) hrb _).far (a := ⟨w.heap.size, 1, none⟩) hrb _
    · exact only_set (a := ⟨w.heap.size, 1, none⟩) (only_set (a := ⟨w.heap.size, 0, none⟩) (only_set (a := ⟨w2.heap.size, 1, none⟩) G4.out (by show w.heap.size ≤ w2.heap.size; omega) _) (Nat.le_refl _) _) (Nat.le_refl _) _
  · have hz0 : (v3 == 0) = false := by simp [h0]
    have hz1 : (v3 == 1) = false := by simp [h1]
    have z0 := K3.out.cell (i := 0) rfl
    have z1 := K3.out.cell (i := 1) rfl
    have y0 := K3.out.free 0
    have y1 := K3.out.free 1
    have d0 := L3.out.cell (i := 0) rfl
    have d1 := L3.out.cell (i := 1) rfl
    obtain ⟨e0, e1⟩ := two_stores _ w.heap.size z0 z1
    clear h0 h1 K3 L3
    go_wp2
    refine bodyPost_ret (v := .agg #[.int .i64 v1, .int .i64 v2]) (by simp [results, Try.results113, go_sem, e0, e1]) rfl ⟨⟨v1, v2⟩, p + 1 + 1 + 1, rfl, (by omega), ?_, ?_⟩
    · exact (R3.out.far (a := ⟨w.heap.size, 0, none⟩) hrb _).far (a := ⟨w.heap.size, 1, none⟩) hrb _
    · exact only_set (a := ⟨w.heap.size, 1, none⟩) (only_set (a := ⟨w.heap.size, 0, none⟩) G3.out (Nat.le_refl _) _) (Nat.le_refl _) _

abbrev DrU (w0 w : World) (rb B p : Nat) (v : Value) (l : List Upd) : Prop := DrF Upd.enc 2 72 w0 w rb B p v l
/-- what drawing a log leaves -/
def DrewLog (w : World) (rb B p : Nat) (e : Ending) (w' : World) : Prop :=
  ∃ v l p', e = .returned v ∧ l.length ≤ 13 ∧ p' ≤ p + 80 ∧ DrU w w' rb B p' v l

theorem DrF.only {α : Type} {enc : α → List Value} {sz : Nat} {e : TypeId} {w0 w w' : World} {rb B p p' : Nat} {v : Value} {l : List α} (h : DrF enc sz e w0 w rb B p v l) (hr : Rd w' rb B p') (hg : w.grownBy w' (some rb)) : DrF enc sz e w0 w' rb B p' v l := h.picked hr hg

set_option maxHeartbeats 2000000 in
theorem l91Log_any (rb B p : Nat) (w : World) (h : Rd w rb B p) (hp : p ≤ 274877906944) :
    Calls Try.prog 98 #[.pointer (some ⟨rb, 0, none⟩)] w (DrewLog w rb B p) := by
  obtain ⟨i0, hi, hz0, hz1, hz2⟩ := info_parts infoUpd
  have h0 : DrU w (w.alloc (.cells #[] 72)) rb B p (.slice (some ⟨w.heap.size, 0, none⟩) 0 0) [] :=
    ⟨h.below ((Below.refl _ _).alloc (Nat.le_refl _) _), World.ownsRow_made w #[] 0 (Nat.le_refl _) (Nat.zero_le _) (by simp), only_of_below ((Below.refl _ _).alloc (Nat.le_refl _) _), h.lt⟩
  have H0 := Lib.hid h0
  clear h0 h
  go_enter Try.func98, Try.ntmps98
  go_wp2_with fail
  refine (pick_any rb B p _ _ H0.out.1 (by omega)).mono ?_
  rintro e w1 ⟨n, rfl, hn0, hn1, _, hr1, hg1⟩
  have H1 := Lib.hid (H0.out.picked hr1 hg1)
  clear hr1 hg1 H0
  have hn5 := hn1 (by omega)
  clear hn1
  go_wp2_with fail
  refine (pick_any rb B _ _ _ H1.out.1 (by omega)).mono ?_
  rintro e w2 ⟨n16, rfl, _, _, _, hr2, hg2⟩
  have H2 := Lib.hid (H1.out.picked hr2 hg2)
  clear hr2 hg2 H1
  by_cases hz : n16 = 0
  case' pos =>
    have hz' : (n16 == 0) = true := by simp [hz]
    clear hz
    go_wp2_with fail
    refine (pick_any rb B _ _ _ H2.out.1 (by omega)).mono ?_
    rintro e w3 ⟨n3, rfl, hn3, hn4, _, hr3, hg3⟩
    have H4 := Lib.hid (H2.out.picked hr3 hg3)
    have hn5 := hn4 (by omega)
    clear hr3 hg3 H2 hn4
    go_wp2_with fail
    obtain ⟨m, hm, hm0, hm6⟩ : ∃ m : Int, 11 + n3 = m ∧ 0 ≤ m ∧ m ≤ 13 := ⟨11 + n3, rfl, by omega, by omega⟩
    try rw [hm]
  case' neg =>
    have hz' : (n16 == 0) = false := by simp [hz]
    clear hz
    have H4 := H2
    clear H2
    go_wp2_with fail
    obtain ⟨m, hm, hm0, hm6⟩ : ∃ m : Int, n = m ∧ 0 ≤ m ∧ m ≤ 13 := ⟨n, rfl, by omega, by omega⟩
    rw [hm]
  all_goals
    clear hm
    go_loopw [3, 5] (fun v i wr => ∃ (k : Nat) (l : List Upd) (p' : Nat), i = .int .i64 k ∧ (k : Int) ≤ m ∧ Hid (l.length = k) ∧ p' ≤ p + 3 + 4 * k ∧ DrU w wr rb B p' v l)
      (fun _ i _ => 13 - (intOf i).toNat)
    case atStart => exact ⟨0, [], _, rfl, by omega, rfl, (by have : p + 1 + 1 + 1 ≤ p + 3 + 4 * 0 := by omega
                                                             first | exact this | omega), H4.out⟩
    case round =>
      obtain ⟨k, l, p', rfl, hkm, hlen, hpp, hdr⟩ := hrel
      have HD := Lib.hid hdr
      clear hdr H4
      have hl1 : l.length ≤ k := Nat.le_of_eq hlen.out
      have hl2 : k ≤ l.length := Nat.le_of_eq hlen.out.symm
      by_cases hlt : (k : Int) < m
      · go_wp2_with fail
        refine (l91Update_any rb B _ _ HD.out.1 (by omega)).mono ?_
        rintro e w4 ⟨u, p4, rfl, hp4, hr4, hg4⟩
        have H5 := Lib.hid (HD.out.picked hr4 hg4)
        have hsz6 : w.heap.size ≤ w4.heap.size := H5.out.2.2.1.size
        clear hr4 hg4 HD
        go_wp2_with (at_builtin; refine wpList_append_own _ rfl _ _ 40 rfl w.heap.size 72 i0 _ 2 16 Try.underlying40 hi hz0 hz1 hz2 rfl (by decide) _ l.length (l.flatMap Upd.enc) rfl (H5.out.2.1.alloc _) ⟨w4.heap.size, 0, none⟩ 1 1 (Upd.enc u) rfl rfl (new_cells _ _ _ _ rfl) (Upd.one _) (by unfold maxLen; omega) (by omega) (by simp; omega) ?_; intro v7 w7 hown7 hg7 _; have H7 := Lib.hid (H5.out.appended hown7 hg7); clear hown7 hg7 H5)
        go_roundw
        case rel => exact ⟨k + 1, l ++ [u], p4, by go_num, by omega, by simp [Hid]; omega, by omega, H7.out⟩
        case measure => simp [intOf]; omega
      · go_wp2
        go_ret
        exact ⟨_, l, p', rfl, by omega, by omega, HD.out⟩
end Go.Proofs.Ytnbakpdphfdacaa
