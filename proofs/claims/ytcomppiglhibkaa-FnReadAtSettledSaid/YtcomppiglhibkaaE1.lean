/- The texts DrawL, joined. -/
import Derived.Test.YtcomppiglhibkaaC1
/- Drawing out of bytes: a chain and the id of a node to drop. -/
namespace Go.Proofs.Ytcomppiglhibkaa
open Go.RowKit

set_option maxHeartbeats 2000000 in
theorem drawChainDrop_any (A : Option Addr) (n c : Nat) (l : List Int) (w : World) (h : Flat encU8 1 w 0 w.heap.size A n c l) (hl : ∀ x ∈ l, 0 ≤ x ∧ x ≤ 255) :
    Calls Mo.prog 14 #[.slice A n c] w (DrawnChainId w) := by
  have H := Lib.hid (h.box (.cells #[.int .i64 0, .slice none 0 0] 25))
  have HL := Lib.hid hl
  clear h hl
  go_enter Mo.func14, Try.ntmps14
  go_wp2_with fail
  refine (open_any _ _ _ l _ H.out HL.out).mono ?_
  rintro e w1 ⟨rb, rfl, hrb, hr1, hb1⟩
  simp only [World.size_alloc] at hr1 hrb hb1
  have R1 := Lib.hid hr1
  have B1 := Lib.hid hb1
  clear hr1 hb1 H
  go_wp2_with fail
  refine (l91Id_any rb _ _ _ R1.out (by omega)).mono ?_
  rintro e w2 ⟨view, A', n', c', p', l', id, rfl, h1, h2, h3, h4, _, _, h6, h7⟩
  have hd := drawn_chain R1.out hrb B1.out h6 h7 (.int .i64 view) (.slice A' n' c')
  have D := Lib.hid hd
  have HL' := Lib.hid (And.intro h1 (And.intro h2 (And.intro h3 h4)))
  have z0 := hd.1.cell (i := 0) (v := .int .i64 0) rfl
  have z1 := hd.1.cell (i := 1) (v := .slice none 0 0) rfl
  have y0 := hd.1.free 0
  have y1 := hd.1.free 1
  obtain ⟨e0, e1⟩ := two_stores _ w.heap.size z0 z1
  have E := Lib.hid (And.intro e0 e1)
  clear hd e0 e1 h1 h2 h3 h4 h6 h7 R1 B1
  go_wp2
  obtain ⟨e0, e1⟩ := E.out
  obtain ⟨h1, h2, h3, h4⟩ := HL'.out
  exact bodyPost_ret (v := .tuple #[.agg #[.int .i64 view, .slice A' n' c'], .int .i64 id]) (by simp [results, Try.results14, go_sem, e0, e1]) rfl ⟨view, A', n', c', l', id, rfl, h1, h2, h3, h4, D.out.2⟩
end Go.Proofs.Ytcomppiglhibkaa
