/- Drawing out of bytes: a chain, an id and a key. -/
import Derived.Test.YtilfomfcfpccdaaDrawJ
import Derived.Deep.RegionLaw
namespace Go.Proofs.Ytilfomfcfpccdaa
open Go.RowKit

/-- what drawing a chain and two numbers out of bytes leaves -/
def DrawnChainTwo (w : World) (e : Ending) (w' : World) : Prop :=
  ∃ (view : Int) (A : Option Addr) (n c : Nat) (l : List Nod) (id key : Int), e = .returned (.tuple #[.agg #[.int .i64 view, .slice A n c], .int .i64 id, .int .i64 key]) ∧ l.length = n ∧ 1 ≤ n ∧ n ≤ 5 ∧ (∀ x ∈ l, x.log.length ≤ 13) ∧ NodRow w' w.heap.size w'.heap.size (.slice A n c) l ∧ Below w.heap.size w w'

set_option maxHeartbeats 4000000 in
theorem drawChainReadAt_any (A : Option Addr) (n c : Nat) (l : List Int) (w : World) (h : Flat encU8 1 w 0 w.heap.size A n c l) (hl : ∀ x ∈ l, 0 ≤ x ∧ x ≤ 255) :
    Calls Try.prog 41 #[.slice A n c] w (DrawnChainTwo w) := by
  have H := Lib.hid (h.below ((Below.refl w.heap.size w).alloc (Nat.le_refl _) (.cells #[.int .i64 0, .slice none 0 0] 25)) (Nat.le_refl _))
  have HL := Lib.hid hl
  clear h hl
  go_enter Try.func41, Try.ntmps41
  go_wp2_with fail
  refine (openLow_any _ _ _ w.heap.size l _ H.out (by simp) HL.out).mono ?_
  rintro e w1 ⟨rb, rfl, hrb, hr1, hb1⟩
  simp only [World.size_alloc] at hrb hb1
  have R1 := Lib.hid hr1
  have B1 := Lib.hid hb1
  clear hr1 hb1 H
  go_wp2_with fail
  refine (l91Id_any rb _ _ _ R1.out (by omega)).mono ?_
  rintro e w2 ⟨view, A', n', c', p', l', id, rfl, h1, h2, h3, h4, hp, hr2, h6, h7⟩
  have D2 := Lib.hid (DJ.start (view := view) B1.out hrb hr2 h7 h6)
  have HL' := Lib.hid (And.intro h1 (And.intro h2 (And.intro h3 h4)))
  obtain ⟨g, cc, hv, _⟩ := h6.form (by omega)
  injection hv with e1 e2 e3
  subst e1
  have n0 : 0 < n' := by omega
  have n0' : (0 : Int) < (n' : Int) := by omega
  clear h1 h2 h4 hr2 h6 h7 R1 B1 e2 e3
  go_wp2_with fail
  generalize w2.alloc (.cells #[.int .i64 view, .slice (some ⟨g, 0, none⟩) n' c'] 25) = w3 at *
  have z0 := D2.out.res.cell (i := 0) (v := .int .i64 0) rfl
  have z1 := D2.out.res.cell (i := 1) (v := .slice none 0 0) rfl
  have y0 := D2.out.res.free 0
  have y1 := D2.out.res.free 1
  have d0 := D2.out.chn.cell (i := 0) (v := .int .i64 view) rfl
  have d1 := D2.out.chn.cell (i := 1) (v := .slice (some ⟨g, 0, none⟩) n' c') rfl
  have hs0 := D2.out.s0
  have hgn : g ≠ w.heap.size := by
    rintro rfl
    obtain ⟨rs, ho, _⟩ := D2.out.row
    obtain ⟨ds, hd⟩ := own_blk ho rfl
    exact absurd (blk_type hd D2.out.res) (by decide)
  have hgn' : w.heap.size ≠ g := fun e => hgn e.symm
  have hn : w.heap.size ≠ w2.heap.size := by omega
  have hn' : w2.heap.size ≠ w.heap.size := by omega
  have Y := Lib.hid (D2.out.store (u := .int .i64 view) (v := .slice (some ⟨g, 0, none⟩) n' c'))
  have YD := Lib.hid (D2.out.store (u := .int .i64 view) (v := .slice (some ⟨g, 0, none⟩) n' c')).drew
  clear hs0
  have DD := Lib.hid D2.out.drew
  have RD := Lib.hid D2.out.drew.rd
  have RS := Lib.hid YD.out.rd
  have hp9 : p' ≤ 1099511627776 := by omega
  go_region_law ((first
    | (rw [if_pos (by rfl)]; go_simp; go_at_call 49; (with_reducible refine (pick_any rb _ p' 3 _ RD.out hp9).mono ?_); rintro e w4 ⟨v3, rfl, t0, t1, _, hr4, hg4⟩; have t2 := t1 (by omega); have D4 := Lib.hid (DD.out.picked hr4 hg4); have Z := Lib.hid (D4.out.store (u := .int .i64 view) (v := .slice (some ⟨g, 0, none⟩) n' c'))
       have x0 := D4.out.chn.cell (i := 0) (v := .int .i64 view) rfl; have x1 := D4.out.chn.cell (i := 1) (v := .slice (some ⟨g, 0, none⟩) n' c') rfl; have x2 := D4.out.res.cell (i := 0) (v := .int .i64 0) rfl; have x3 := D4.out.res.cell (i := 1) (v := .slice none 0 0) rfl; have x4 := D4.out.res.free 0; have x5 := D4.out.res.free 1; clear hr4 hg4 t1)
    | (rw [if_pos (by rfl)]; go_simp; go_at_call 49; (with_reducible refine (pick_any rb _ p' 3 _ RS.out hp9).mono ?_); rintro e w4 ⟨v3, rfl, t0, t1, _, hr4, hg4⟩; have t2 := t1 (by omega); have Z := Lib.hid (YD.out.picked hr4 hg4); clear hr4 hg4 t1)))
  all_goals
    have r0 := Z.out.res.cell (i := 0) (v := .int .i64 view) rfl
    have r1 := Z.out.res.cell (i := 1) (v := .slice (some ⟨g, 0, none⟩) n' c') rfl
    go_wp2
    obtain ⟨h1, h2, h3, h4⟩ := HL'.out
    exact bodyPost_ret (v := .tuple #[.agg #[.int .i64 view, .slice (some ⟨g, 0, none⟩) n' c'], .int .i64 id, .int .i64 v3]) (by simp [results, Try.results41, go_sem, r0, r1]) rfl ⟨view, some ⟨g, 0, none⟩, n', c', l', id, v3, rfl, h1, h2, h3, h4, Z.out.post⟩
end Go.Proofs.Ytilfomfcfpccdaa
