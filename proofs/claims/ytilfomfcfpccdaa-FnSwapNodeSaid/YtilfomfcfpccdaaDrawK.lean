/- Drawing out of bytes: a chain; a chain and an id. -/
import Derived.Test.YtilfomfcfpccdaaDrawI
namespace Go.Proofs.Ytilfomfcfpccdaa
open Go.RowKit

/-- opened, a chain drawn, and its two cells put into the result's block -/
theorem drawn_chain {w w1 w2 : World} {rb B p : Nat} {nv : Value} {l : List Nod} (_ : Rd w1 rb B p) (hrb : w.heap.size + 1 ≤ rb) (hb : Below (w.heap.size + 1) (w.alloc (.cells #[.int .i64 0, .slice none 0 0] 25)) w1)
    (h : NodRow w2 w1.heap.size w2.heap.size nv l) (hg : w1.grownBy w2 (some rb)) (a b : Value) :
    Blk w2 w.heap.size #[.int .i64 0, .slice none 0 0] 25 ∧
    NodRow ((w2.setCell ⟨w.heap.size, 0, none⟩ a).setCell ⟨w.heap.size, 1, none⟩ b) w.heap.size ((w2.setCell ⟨w.heap.size, 0, none⟩ a).setCell ⟨w.heap.size, 1, none⟩ b).heap.size nv l ∧
    Below w.heap.size w ((w2.setCell ⟨w.heap.size, 0, none⟩ a).setCell ⟨w.heap.size, 1, none⟩ b) := by
  have hs := hb.size
  simp only [World.size_alloc] at hs
  have hB : Below w.heap.size w w1 := ((Below.refl w.heap.size w).alloc (Nat.le_refl _) (.cells #[.int .i64 0, .slice none 0 0] 25)).trans (hb.mono (by omega))
  have hB2 : Below w.heap.size w w2 := hB.grown hg (by omega) (fun k e => by cases e; omega)
  have hb' : Below (w.alloc (.cells #[.int .i64 0, .slice none 0 0] 25)).heap.size (w.alloc (.cells #[.int .i64 0, .slice none 0 0] 25)) w1 := by rw [World.size_alloc]; exact hb
  refine ⟨((Blk.new w #[.int .i64 0, .slice none 0 0] 25).below hb').pick hg (by omega), ?_, (hB2.setCell (p := ⟨w.heap.size, 0, none⟩) (Nat.le_refl _) _).setCell (p := ⟨w.heap.size, 1, none⟩) (Nat.le_refl _) _⟩
  refine ((h.keep (fun k h1 _ => ?_)).mono (by simp [World.setCell])).lower (by omega)
  rw [Below.heap_setCell _ _ _ _ (by show k ≠ w.heap.size; omega), Below.heap_setCell _ _ _ _ (by show k ≠ w.heap.size; omega)]
/-- what drawing a chain out of bytes leaves -/
def DrawnChain (w : World) (e : Ending) (w' : World) : Prop :=
  ∃ (view : Int) (A : Option Addr) (n c : Nat) (l : List Nod), e = .returned (.agg #[.int .i64 view, .slice A n c]) ∧ l.length = n ∧ 1 ≤ n ∧ n ≤ 5 ∧ (∀ x ∈ l, x.log.length ≤ 13) ∧ NodRow w' w.heap.size w'.heap.size (.slice A n c) l ∧ Below w.heap.size w w'
/-- what drawing a chain and an id out of bytes leaves -/
def DrawnChainId (w : World) (e : Ending) (w' : World) : Prop :=
  ∃ (view : Int) (A : Option Addr) (n c : Nat) (l : List Nod) (id : Int), e = .returned (.tuple #[.agg #[.int .i64 view, .slice A n c], .int .i64 id]) ∧ l.length = n ∧ 1 ≤ n ∧ n ≤ 5 ∧ (∀ x ∈ l, x.log.length ≤ 13) ∧ NodRow w' w.heap.size w'.heap.size (.slice A n c) l ∧ Below w.heap.size w w'


end Go.Proofs.Ytilfomfcfpccdaa
