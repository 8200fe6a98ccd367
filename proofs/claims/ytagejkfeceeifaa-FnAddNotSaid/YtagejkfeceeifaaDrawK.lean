/- Drawing out of bytes: a chain; a chain and an id. -/
import Derived.Test.YtagejkfeceeifaaDrawI
namespace Go.Proofs.Ytagejkfeceeifaa
open Go.RowKit

/-- opened, a chain drawn, and its two cells put into the result's block -/
theorem drawn_chain {w w1 w2 : World} {rb B p : Nat} {nv : Value} {l : List Nod} (_ : Rd w1 rb B p) (hrb : w.heap.size + 1 ≤ rb) (hb : Below (w.heap.size + 1) (w.alloc (.cells #[.int .i64 0, .slice none 0 0] 29)) w1)
    (h : NodRow w2 w1.heap.size w2.heap.size nv l) (hg : w1.grownBy w2 (some rb)) (a b : Value) :
    Blk w2 w.heap.size #[.int .i64 0, .slice none 0 0] 29 ∧
    NodRow ((w2.setCell ⟨w.heap.size, 0, none⟩ a).setCell ⟨w.heap.size, 1, none⟩ b) w.heap.size ((w2.setCell ⟨w.heap.size, 0, none⟩ a).setCell ⟨w.heap.size, 1, none⟩ b).heap.size nv l ∧
    Below w.heap.size w ((w2.setCell ⟨w.heap.size, 0, none⟩ a).setCell ⟨w.heap.size, 1, none⟩ b) := by
  have hs := hb.size
  simp only [World.size_alloc] at hs
  have hB : Below w.heap.size w w1 := ((Below.refl w.heap.size w).alloc (Nat.le_refl _) (.cells #[.int .i64 0, .slice none 0 0] 29)).trans (hb.mono (by omega))
  have hB2 : Below w.heap.size w w2 := hB.grown hg (by omega) (fun k e => by cases e; omega)
  have hb' : Below (w.alloc (.cells #[.int .i64 0, .slice none 0 0] 29)).heap.size (w.alloc (.cells #[.int .i64 0, .slice none 0 0] 29)) w1 := by rw [World.size_alloc]; exact hb
  refine ⟨((Blk.new w #[.int .i64 0, .slice none 0 0] 29).below hb').pick hg (by omega), ?_, (hB2.setCell (p := ⟨w.heap.size, 0, none⟩) (Nat.le_refl _) _).setCell (p := ⟨w.heap.size, 1, none⟩) (Nat.le_refl _) _⟩
  refine ((h.keep (fun k h1 _ => ?_)).mono (by simp [World.setCell])).lower (by omega)
  rw [Below.heap_setCell _ _ _ _ (by show k ≠ w.heap.size; omega), Below.heap_setCell _ _ _ _ (by show k ≠ w.heap.size; omega)]
/-- what drawing a chain out of bytes leaves -/
def DrawnChain (w : World) (e : Ending) (w' : World) : Prop :=
  ∃ (view : Int) (A : Option Addr) (n c : Nat) (l : List Nod), e = .returned (.agg #[.int .i64 view, .slice A n c]) ∧ l.length = n ∧ 1 ≤ n ∧ n ≤ 5 ∧ (∀ x ∈ l, x.log.length ≤ 13) ∧ NodRow w' w.heap.size w'.heap.size (.slice A n c) l ∧ Below w.heap.size w w'
/-- what drawing a chain and an id out of bytes leaves -/
def DrawnChainId (w : World) (e : Ending) (w' : World) : Prop :=
  ∃ (view : Int) (A : Option Addr) (n c : Nat) (l : List Nod) (id : Int), e = .returned (.tuple #[.agg #[.int .i64 view, .slice A n c], .int .i64 id]) ∧ l.length = n ∧ 1 ≤ n ∧ n ≤ 5 ∧ (∀ x ∈ l, x.log.length ≤ 13) ∧ NodRow w' w.heap.size w'.heap.size (.slice A n c) l ∧ Below w.heap.size w w'

set_option maxHeartbeats 2000000 in
theorem drawAddCost_any (A : Option Addr) (n c : Nat) (l : List Int) (w : World) (h : Flat encU8 1 w 0 w.heap.size A n c l) (hl : ∀ x ∈ l, 0 ≤ x ∧ x ≤ 255) :
    Calls Try.prog 20 #[.slice A n c] w (DrawnChain w) := by
  have H := Lib.hid (h.box (.cells #[.int .i64 0, .slice none 0 0] 29))
  have HL := Lib.hid hl
  clear h hl
  go_enter Try.func20, Try.ntmps20
  go_wp2_with fail
  refine (open_any _ _ _ l _ H.out HL.out).mono ?_
  rintro e w1 ⟨rb, rfl, hrb, hr1, hb1⟩
  simp only [World.size_alloc] at hr1 hrb hb1
  have R1 := Lib.hid hr1
  have B1 := Lib.hid hb1
  clear hr1 hb1 H
  go_wp2_with fail
  refine (l91Chain_any rb _ _ _ R1.out (by omega)).mono ?_
  rintro e w2 ⟨view, A', n', c', p', l', rfl, h1, h2, h3, h4, _, _, h6, h7⟩
  have hd := drawn_chain R1.out hrb B1.out h6 h7 (.int .i64 view) (.slice A' n' c')
  have D := Lib.hid hd
  have HL' := Lib.hid (And.intro h1 (And.intro h2 (And.intro h3 h4)))
  have z0 := hd.1.cell (i := 0) (v := .int .i64 0) rfl
  have z1 := hd.1.cell (i := 1) (v := .slice none 0 0) rfl
  have y0 := hd.1.free 0
  have y1 := hd.1.free 1
  obtain ⟨e0, e1⟩ := two_stores _ w.heap.size z0 z1
  have E := Lib.hid (And.intro e0 e1)
  clear hd e0 e1 h1 h2 h3 h4 h6 h7 R1 B1
  go_wp2
  obtain ⟨e0, e1⟩ := E.out
  obtain ⟨h1, h2, h3, h4⟩ := HL'.out
  exact bodyPost_ret (v := .agg #[.int .i64 view, .slice A' n' c']) (by simp [results, Try.results20, go_sem, e0, e1]) rfl ⟨view, A', n', c', l', rfl, h1, h2, h3, h4, D.out.2⟩

set_option maxHeartbeats 2000000 in
theorem drawDropRole_any (A : Option Addr) (n c : Nat) (l : List Int) (w : World) (h : Flat encU8 1 w 0 w.heap.size A n c l) (hl : ∀ x ∈ l, 0 ≤ x ∧ x ≤ 255) :
    Calls Try.prog 23 #[.slice A n c] w (DrawnChainId w) := by
  have H := Lib.hid (h.box (.cells #[.int .i64 0, .slice none 0 0] 29))
  have HL := Lib.hid hl
  clear h hl
  go_enter Try.func23, Try.ntmps23
  go_wp2_with fail
  refine (open_any _ _ _ l _ H.out HL.out).mono ?_
  rintro e w1 ⟨rb, rfl, hrb, hr1, hb1⟩
  simp only [World.size_alloc] at hr1 hrb hb1
  have R1 := Lib.hid hr1
  have B1 := Lib.hid hb1
  clear hr1 hb1 H
  go_wp2_with fail
  refine (l91Id_any rb _ _ _ R1.out (by omega)).mono ?_
  rintro e w2 ⟨view, A', n', c', p', l', id, rfl, h1, h2, h3, h4, _, _, h6, h7⟩
  have hd := drawn_chain R1.out hrb B1.out h6 h7 (.int .i64 view) (.slice A' n' c')
  have D := Lib.hid hd
  have HL' := Lib.hid (And.intro h1 (And.intro h2 (And.intro h3 h4)))
  have z0 := hd.1.cell (i := 0) (v := .int .i64 0) rfl
  have z1 := hd.1.cell (i := 1) (v := .slice none 0 0) rfl
  have y0 := hd.1.free 0
  have y1 := hd.1.free 1
  obtain ⟨e0, e1⟩ := two_stores _ w.heap.size z0 z1
  have E := Lib.hid (And.intro e0 e1)
  clear hd e0 e1 h1 h2 h3 h4 h6 h7 R1 B1
  go_wp2
  obtain ⟨e0, e1⟩ := E.out
  obtain ⟨h1, h2, h3, h4⟩ := HL'.out
  exact bodyPost_ret (v := .tuple #[.agg #[.int .i64 view, .slice A' n' c'], .int .i64 id]) (by simp [results, Try.results23, go_sem, e0, e1]) rfl ⟨view, A', n', c', l', id, rfl, h1, h2, h3, h4, D.out.2⟩
end Go.Proofs.Ytagejkfeceeifaa
