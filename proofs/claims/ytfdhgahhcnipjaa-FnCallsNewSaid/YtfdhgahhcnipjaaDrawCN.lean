/- Drawing calls, a client and a number. -/
import Derived.Test.YtfdhgahhcnipjaaDrawC
import Derived.Deep.RegionHeld3
namespace Go.Proofs.Ytfdhgahhcnipjaa
open Go.RowKit

/-- what 'DrawCallsNew' leaves -/
def DrawnCallsNew (w : World) (e : Ending) (w' : World) : Prop :=
  ∃ A n c l a b, e = .returned (.tuple #[.slice A n c, .int .i64 a, .int .i64 b]) ∧ n ≤ 6 ∧ Flat Cll.enc 4 w' w.heap.size w'.heap.size A n c l ∧ Below w.heap.size w w'

set_option maxHeartbeats 1000000 in
theorem drawCallsNew_any (A : Option Addr) (n c : Nat) (l : List Int) (w : World) (h : Flat encU8 1 w 0 w.heap.size A n c l) (hl : ∀ x ∈ l, 0 ≤ x ∧ x ≤ 255) :
    Calls Try.prog 28 #[.slice A n c] w (DrawnCallsNew w) := by
  have H := Lib.hid h
  have HL := Lib.hid hl
  clear h hl
  go_enter Try.func28, Try.ntmps28
  go_wp2_with fail
  refine (open_any _ _ _ l _ H.out HL.out).mono ?_
  rintro e w1 ⟨rb, rfl, hrb, hr1, hb1⟩
  have R1 := Lib.hid hr1
  have B1 := Lib.hid hb1
  clear hr1 hb1
  go_wp2_with fail
  refine (l92Calls_any rb _ _ _ R1.out (by omega)).mono ?_
  rintro e w2 ⟨v, l', p', rfl, hl6, hp', hd⟩
  obtain ⟨A', c', hv, hf⟩ := own_flat Cll.len hd.2.1 rfl
  rw [hv]
  have hlt1 := R1.out.lt
  have F2 := Lib.hid hf
  have B2 := Lib.hid (B1.out.trans (only_to_below hd.2.2.1 hrb hlt1))
  have R2 := Lib.hid hd.1
  have s01 := B1.out.size
  have s12 := hd.2.2.1.size
  obtain ⟨m, hm⟩ : ∃ m, m = l'.length := ⟨_, rfl⟩
  rw [← hm] at F2 hl6 ⊢
  clear hd hv hf hm R1 B1
  by_cases hm0 : m = 0
  · subst hm0
    go_wp2_with fail
    refine (pick_any rb _ _ _ _ R2.out (by omega)).mono ?_
    rintro e w3 ⟨r12, rfl, _, h12, _, hr3, hg3⟩
    have h12' := h12 (by omega)
    have R3 := Lib.hid hr3
    have F3 := Lib.hid (F2.out.grown hg3 (Nat.le_refl _) (fun g e => by cases e; exact .inl hlt1))
    have B3 := Lib.hid (B2.out.grown hg3 B2.out.size (fun g e => by cases e; exact hrb))
    have s23 := hg3.size
    clear hr3 hg3 h12 R2 F2 B2
    go_wp2_with fail
    refine (pick_any rb _ _ _ _ R3.out (by omega)).mono ?_
    rintro e w4 ⟨r20, rfl, h20, h21, _, hr4, hg4⟩
    have h20' := h21 (by omega)
    obtain ⟨q, rfl⟩ := Int.eq_ofNat_of_zero_le h20
    have R4 := Lib.hid hr4
    have F4 := Lib.hid (F3.out.grown hg4 s23 (fun g e => by cases e; exact .inl hlt1))
    have B4 := Lib.hid (B3.out.grown hg4 B3.out.size (fun g e => by cases e; exact hrb))
    have s24 : w2.heap.size ≤ w4.heap.size := Nat.le_trans s23 hg4.size
    have hq : ((q : Int) / 19) = ((q / 19 : Nat) : Int) := by simp
    have hq' : (Int.tdiv (q : Int) 19) = ((q / 19 : Nat) : Int) := rfl
    have hq2 : q / 19 ≤ 1 := by omega
    obtain ⟨d, hd⟩ : ∃ d, d = q / 19 := ⟨_, rfl⟩
    rw [← hd] at hq hq' hq2
    clear hr4 hg4 h21 R3 F3 B3 hd
    go_wp2_with fail
    refine (pick_any rb _ _ _ _ R4.out (by omega)).mono ?_
    rintro e w5 ⟨r9, rfl, _, _, _, hr5, hg5⟩
    have F5 := Lib.hid (F4.out.grown hg5 s24 (fun g e => by cases e; exact .inl hlt1))
    have B5 := Lib.hid (B4.out.grown hg5 B4.out.size (fun g e => by cases e; exact hrb))
    have s25 : w2.heap.size ≤ w5.heap.size := Nat.le_trans s24 hg5.size
    clear hr5 hg5 R4 F4 B4
    go_wp2
    refine bodyPost_ret (v := .tuple #[.slice A' 0 c', .int .i64 (r12 - (d : Int) * 12), .int .i64 r9]) (by simp [results, Try.results28, go_sem]) rfl ⟨A', 0, c', l', _, _, rfl, hl6, F5.out.mono (by omega) s25, B5.out⟩
  · have hmp : (0 : Int) < (m : Int) := by omega
    go_wp2_with fail
    refine (pick_any rb _ _ _ _ R2.out (by omega)).mono ?_
    rintro e w3 ⟨r4, rfl, h4, _, _, hr3, hg3⟩
    have R3 := Lib.hid hr3
    have F3 := Lib.hid (F2.out.grown hg3 (Nat.le_refl _) (fun g e => by cases e; exact .inl hlt1))
    have B3 := Lib.hid (B2.out.grown hg3 B2.out.size (fun g e => by cases e; exact hrb))
    have s23 := hg3.size
    clear hr3 hg3 R2 F2 B2
    by_cases hz : 0 < r4
    · go_wp2_with fail
      refine (pick_any rb _ _ _ _ R3.out (by omega)).mono ?_
      rintro e w4 ⟨ix, rfl, hi0, hi1, _, hr4, hg4⟩
      have hi2 := hi1 (by omega)
      obtain ⟨k, rfl⟩ := Int.eq_ofNat_of_zero_le hi0
      have R4 := Lib.hid hr4
      have F4 := Lib.hid (F3.out.grown hg4 s23 (fun g e => by cases e; exact .inl hlt1))
      have B4 := Lib.hid (B3.out.grown hg4 B3.out.size (fun g e => by cases e; exact hrb))
      have s24 : w2.heap.size ≤ w4.heap.size := Nat.le_trans s23 hg4.size
      clear hr4 hg4 hi1 R3 F3 B3
      obtain ⟨b, off, x, hA, _, _, hx, c0, c1, c2, c3⟩ := F4.out.cll (show k < m by omega)
      subst hA
      clear hx
      go_wp2_with fail
      obtain ⟨W, hW⟩ : ∃ W, w4.alloc (.cells #[.int .i64 x.client, .int .i64 x.number, .int .i64 x.what.key, .int .i64 x.what.value] 48) = W := ⟨_, rfl⟩
      have hbW : Below w4.heap.size w4 W := by rw [← hW]; exact (Below.refl _ _).alloc (Nat.le_refl _) _
      have d0 : W.cell? ⟨w4.heap.size, 0, none⟩ = some (.int .i64 x.client) := by rw [← hW]; exact World.cell?_alloc_at _ _ _ _ rfl
      have d1 : W.cell? ⟨w4.heap.size, 1, none⟩ = some (.int .i64 x.number) := by rw [← hW]; exact World.cell?_alloc_at _ _ _ _ rfl
      have hWs : w4.heap.size < W.heap.size := by rw [← hW]; simp
      rw [hW]
      have D0 : W.drew.cell? ⟨w4.heap.size, 0, none⟩ = some (.int .i64 x.client) := d0
      have D1 : W.drew.cell? ⟨w4.heap.size, 1, none⟩ = some (.int .i64 x.number) := d1
      have hbD : Below w4.heap.size w4 W.drew := hbW.drew
      have R5 := Lib.hid (R4.out.below hbD)
      have F5 := Lib.hid (F4.out.below hbD s24)
      have B5 := Lib.hid (B4.out.trans (hbD.mono B4.out.size))
      have hrb4 := R4.out.lt
      clear R4 F4 B4 hW hbW hbD
      go_region_held3 (fun V => V.cell? ⟨w4.heap.size, 0, none⟩ = some (.int .i64 x.client) ∧ V.cell? ⟨w4.heap.size, 1, none⟩ = some (.int .i64 x.number)) (first | exact ⟨D0, D1⟩ | exact ⟨d0, d1⟩ | exact ⟨e0, e1⟩)
        ((first | (go_at_call 49; refine (pick_any rb _ _ _ _ R5.out (by omega)).mono ?_; rintro e w5 ⟨r3, rfl, _, _, _, hr5, hg5⟩; have e0 : w5.cell? ⟨w4.heap.size, 0, none⟩ = some (.int .i64 x.client) := (World.cell?_of_block (hg5.block w4.heap.size (show w4.heap.size < W.heap.size from hWs) (fun e => by injection e with e; omega))).trans D0; have e1 : w5.cell? ⟨w4.heap.size, 1, none⟩ = some (.int .i64 x.number) := (World.cell?_of_block (hg5.block w4.heap.size (show w4.heap.size < W.heap.size from hWs) (fun e => by injection e with e; omega))).trans D1)))
      have F6 := Lib.hid (F5.out.grown hg5 (by show w2.heap.size ≤ W.heap.size; omega) (fun g e => by cases e; exact .inl hlt1))
      have B6 := Lib.hid (B5.out.grown hg5 B5.out.size (fun g e => by cases e; exact hrb))
      have s25 : w2.heap.size ≤ w5.heap.size := Nat.le_trans (show w2.heap.size ≤ W.heap.size by omega) hg5.size
      clear hr5 hg5 R5 F5 B5
      go_wp2
      refine bodyPost_ret (v := .tuple #[.slice (some ⟨b, off, none⟩) m c', .int .i64 x.client, .int .i64 (IntKind.i64.wrap (IntKind.i64.wrap (x.number + r3) - 1))]) (by simp [results, Try.results28, go_sem]) rfl ⟨some ⟨b, off, none⟩, m, c', l', _, _, rfl, hl6, F6.out.mono (by omega) s25, B6.out⟩
    · go_wp2_with fail
      refine (pick_any rb _ _ _ _ R3.out (by omega)).mono ?_
      rintro e w4 ⟨r12, rfl, _, h12, _, hr4, hg4⟩
      have h12' := h12 (by omega)
      have R4 := Lib.hid hr4
      have F4 := Lib.hid (F3.out.grown hg4 s23 (fun g e => by cases e; exact .inl hlt1))
      have B4 := Lib.hid (B3.out.grown hg4 B3.out.size (fun g e => by cases e; exact hrb))
      have s24 : w2.heap.size ≤ w4.heap.size := Nat.le_trans s23 hg4.size
      clear hr4 hg4 h12 R3 F3 B3
      go_wp2_with fail
      refine (pick_any rb _ _ _ _ R4.out (by omega)).mono ?_
      rintro e w5 ⟨r20, rfl, h20, h21, _, hr5, hg5⟩
      have h20' := h21 (by omega)
      obtain ⟨q, rfl⟩ := Int.eq_ofNat_of_zero_le h20
      have R5 := Lib.hid hr5
      have F5 := Lib.hid (F4.out.grown hg5 s24 (fun g e => by cases e; exact .inl hlt1))
      have B5 := Lib.hid (B4.out.grown hg5 B4.out.size (fun g e => by cases e; exact hrb))
      have s25 : w2.heap.size ≤ w5.heap.size := Nat.le_trans s24 hg5.size
      have hq : ((q : Int) / 19) = ((q / 19 : Nat) : Int) := by simp
      have hq' : (Int.tdiv (q : Int) 19) = ((q / 19 : Nat) : Int) := rfl
      have hq2 : q / 19 ≤ 1 := by omega
      obtain ⟨d, hd⟩ : ∃ d, d = q / 19 := ⟨_, rfl⟩
      rw [← hd] at hq hq' hq2
      clear hr5 hg5 h21 R4 F4 B4 hd
      go_wp2_with fail
      refine (pick_any rb _ _ _ _ R5.out (by omega)).mono ?_
      rintro e w6 ⟨r9, rfl, _, _, _, hr6, hg6⟩
      have F6 := Lib.hid (F5.out.grown hg6 s25 (fun g e => by cases e; exact .inl hlt1))
      have B6 := Lib.hid (B5.out.grown hg6 B5.out.size (fun g e => by cases e; exact hrb))
      have s26 : w2.heap.size ≤ w6.heap.size := Nat.le_trans s25 hg6.size
      clear hr6 hg6 R5 F5 B5
      go_wp2
      refine bodyPost_ret (v := .tuple #[.slice A' m c', .int .i64 (r12 - (d : Int) * 12), .int .i64 r9]) (by simp [results, Try.results28, go_sem]) rfl ⟨A', m, c', l', _, _, rfl, hl6, F6.out.mono (by omega) s26, B6.out⟩
end Go.Proofs.Ytfdhgahhcnipjaa
