/- Drawing out of bytes: a chain and the id of a new node. -/
import Derived.Test.YtilfomfcfpccdaaDrawJ
import Derived.Deep.RegionLaw
import Derived.IntWalk
namespace Go.Proofs.Ytilfomfcfpccdaa
open Go.RowKit

set_option maxHeartbeats 4000000 in
theorem drawChainAdd_any (A : Option Addr) (n c : Nat) (l : List Int) (w : World) (h : Flat encU8 1 w 0 w.heap.size A n c l) (hl : ∀ x ∈ l, 0 ≤ x ∧ x ≤ 255) :
    Calls Try.prog 15 #[.slice A n c] w (DrawnChainId w) := by
  have H := Lib.hid (h.below ((Below.refl w.heap.size w).alloc (Nat.le_refl _) (.cells #[.int .i64 0, .slice none 0 0] 25)) (Nat.le_refl _))
  have HL := Lib.hid hl
  clear h hl
  go_enter Try.func15, Try.ntmps15
  go_wp2_with fail
  refine (openLow_any _ _ _ w.heap.size l _ H.out (by simp) HL.out).mono ?_
  rintro e w1 ⟨rb, rfl, hrb, hr1, hb1⟩
  simp only [World.size_alloc] at hrb hb1
  have R1 := Lib.hid hr1
  have B1 := Lib.hid hb1
  clear hr1 hb1 H
  go_wp2_with fail
  refine (l91Id_any rb _ _ _ R1.out (by omega)).mono ?_
  rintro e w2 ⟨view, A', n', c', p', l', id, rfl, h1, h2, h3, h4, hp, hr2, h6, h7⟩
  have D2 := Lib.hid (DJ.start (view := view) B1.out hrb hr2 h7 h6)
  have HL' := Lib.hid (And.intro h1 (And.intro h2 (And.intro h3 h4)))
  obtain ⟨g, cc, hv, _⟩ := h6.form (by omega)
  injection hv with e1 e2 e3
  subst e1
  obtain ⟨x, A2, m2, d, hx, c0, _, _, _, _, _⟩ := D2.out.row.at_ (k := 0) (by omega)
  have n0 : 0 < n' := by omega
  have n0' : (0 : Int) < (n' : Int) := by omega
  clear h1 h2 h4 hr2 h6 h7 R1 B1 e2 e3 hx c0
  go_wp2_with fail
  refine (pick_any rb _ _ _ _ D2.out.rd (by omega)).mono ?_
  rintro e w3 ⟨v, rfl, _, _, _, hr3, hg3⟩
  have D3 := Lib.hid (D2.out.picked hr3 hg3)
  clear hr3 hg3 D2
  obtain ⟨x, A2, m2, d, hx, c0, _, _, _, _, _⟩ := D3.out.row.at_ (k := 0) (by have := HL'.out.1; omega)
  have c0' : w3.cell? ⟨g, 0, none⟩ = some (.int .i64 x.id) := by simpa using c0
  have z0 := D3.out.res.cell (i := 0) (v := .int .i64 0) rfl
  have z1 := D3.out.res.cell (i := 1) (v := .slice none 0 0) rfl
  have y0 := D3.out.res.free 0
  have y1 := D3.out.res.free 1
  have d0 := D3.out.chn.cell (i := 0) (v := .int .i64 view) rfl
  have d1 := D3.out.chn.cell (i := 1) (v := .slice (some ⟨g, 0, none⟩) n' c') rfl
  have hs0 := D3.out.s0
  have hgn : g ≠ w.heap.size := by
    rintro rfl
    obtain ⟨rs, ho, _⟩ := D3.out.row
    obtain ⟨ds, hd⟩ := own_blk ho rfl
    exact absurd (blk_type hd D3.out.res) (by decide)
  have hgn' : w.heap.size ≠ g := fun e => hgn e.symm
  have hn : w.heap.size ≠ w2.heap.size := by omega
  have hn' : w2.heap.size ≠ w.heap.size := by omega
  have Y := Lib.hid (D3.out.store (u := .int .i64 view) (v := .slice (some ⟨g, 0, none⟩) n' c'))
  have YD := Lib.hid (D3.out.store (u := .int .i64 view) (v := .slice (some ⟨g, 0, none⟩) n' c')).drew
  clear hx c0 hs0 c0'
  have DD := Lib.hid D3.out.drew
  have RD := Lib.hid D3.out.drew.rd
  have RS := Lib.hid YD.out.rd
  have hp9 : p' + 1 ≤ 1099511627776 := by omega
  by_cases hv0 : 0 < v
  · have hgt : (v > 0) = True := by simp [hv0]
    clear hgt
    go_wp2_with fail
    go_region_law ((first
      | (rw [if_pos (by rfl)]; go_simp; go_at_call 49; (with_reducible refine (pick_any rb _ (p' + 1) 9 _ RD.out hp9).mono ?_); rintro e w4 ⟨v3, rfl, t0, t1, _, hr4, hg4⟩; have t2 := t1 (by omega); have D4 := Lib.hid (DD.out.picked hr4 hg4); have Z := Lib.hid (D4.out.store (u := .int .i64 view) (v := .slice (some ⟨g, 0, none⟩) n' c'))
         have x0 := D4.out.chn.cell (i := 0) (v := .int .i64 view) rfl; have x1 := D4.out.chn.cell (i := 1) (v := .slice (some ⟨g, 0, none⟩) n' c') rfl; have x2 := D4.out.res.cell (i := 0) (v := .int .i64 0) rfl; have x3 := D4.out.res.cell (i := 1) (v := .slice none 0 0) rfl; have x4 := D4.out.res.free 0; have x5 := D4.out.res.free 1; clear hr4 hg4 t1)
      | (rw [if_pos (by rfl)]; go_simp; go_at_call 49; (with_reducible refine (pick_any rb _ (p' + 1) 9 _ RS.out hp9).mono ?_); rintro e w4 ⟨v3, rfl, t0, t1, _, hr4, hg4⟩; have t2 := t1 (by omega); have Z := Lib.hid (YD.out.picked hr4 hg4); clear hr4 hg4 t1)))
    all_goals
      have r0 := Z.out.res.cell (i := 0) (v := .int .i64 view) rfl
      have r1 := Z.out.res.cell (i := 1) (v := .slice (some ⟨g, 0, none⟩) n' c') rfl
      go_wp2
      obtain ⟨h1, h2, h3, h4⟩ := HL'.out
      have hw : IntKind.i64.wrap (60 + v3) = 60 + v3 := IntWalk.i64_in _ (by omega)
      exact bodyPost_ret (v := .tuple #[.agg #[.int .i64 view, .slice (some ⟨g, 0, none⟩) n' c'], .int .i64 (60 + v3)]) (by simp [results, Try.results15, go_sem, r0, r1, hw]) rfl ⟨view, some ⟨g, 0, none⟩, n', c', l', 60 + v3, rfl, h1, h2, h3, h4, Z.out.post⟩
  · have r0 := Y.out.res.cell (i := 0) (v := .int .i64 view) rfl
    have r1 := Y.out.res.cell (i := 1) (v := .slice (some ⟨g, 0, none⟩) n' c') rfl
    have R := Lib.hid (And.intro r0 r1)
    clear r0 r1
    obtain ⟨e0, e1⟩ := two_stores _ w.heap.size z0 z1
    have E := Lib.hid (And.intro e0 e1)
    clear e0 e1
    go_wp2
    obtain ⟨h1, h2, h3, h4⟩ := HL'.out
    exact bodyPost_ret (v := .tuple #[.agg #[.int .i64 view, .slice (some ⟨g, 0, none⟩) n' c'], .int .i64 id]) (by simp [results, Try.results15, go_sem, R.out.1, R.out.2]) rfl ⟨view, some ⟨g, 0, none⟩, n', c', l', id, rfl, h1, h2, h3, h4, Y.out.post⟩
end Go.Proofs.Ytilfomfcfpccdaa
