/- A block that is known whole: small boxes and results of a call, kept over calls and stores; no program in sight. -/
import Derived.Test.YtnbakpdphfdacaaRd
namespace Go.Proofs.Ytnbakpdphfdacaa
open Go.RowKit

def Blk (w : World) (b : Nat) (cs : Array Value) (t : TypeId) : Prop := w.heap[b]? = some (.cells cs t (0, 0))
section
variable {w w' : World} {b : Nat} {cs : Array Value} {t : TypeId}
theorem Blk.lt (h : Blk w b cs t) : b < w.heap.size := lt_of_block h
theorem Blk.cell (h : Blk w b cs t) {i : Nat} {v : Value} (hv : cs[i]? = some v) : w.cell? ⟨b, i, none⟩ = some v := by
  have h' : w.heap[b]? = some (.cells cs t (0, 0)) := h
  have e : w.cell? ⟨b, i, none⟩ = cs[i]? := by simp only [World.cell?, h']; rfl
  rw [e, hv]
theorem Blk.free (h : Blk w b cs t) (i : Nat) : w.frozen? ⟨b, i, none⟩ = false := row_free h i
theorem Blk.new (w : World) (cs : Array Value) (t : TypeId) : Blk (w.alloc (.cells cs t)) w.heap.size cs t := heap_alloc_new w _
theorem Blk.alloc (h : Blk w b cs t) (o : Obj) : Blk (w.alloc o) b cs t := (Below.heap_alloc _ _ _ h.lt).trans h
theorem Blk.grown {row : Option Nat} (h : Blk w b cs t) (hg : w.grownBy w' row) (hne : some b ≠ row) : Blk w' b cs t := (hg.block b h.lt hne).trans h
theorem Blk.pick {rb : Nat} (h : Blk w b cs t) (hg : w.grownBy w' (some rb)) (hne : b ≠ rb) : Blk w' b cs t := h.grown hg (fun e => hne (by injection e))
theorem Blk.below (h : Blk w b cs t) (hb : Below w.heap.size w w') : Blk w' b cs t := (hb.block b h.lt).trans h
theorem Blk.below' {B : Nat} (h : Blk w b cs t) (hb : Below B w w') (hB : b < B) : Blk w' b cs t := (hb.block b hB).trans h
theorem Blk.set (h : Blk w b cs t) (i : Nat) (v : Value) : Blk (w.setCell ⟨b, i, none⟩ v) b (cs.setIfInBounds i v) t := heap_setCell_at h v
theorem Blk.far (h : Blk w b cs t) {a : Addr} (ha : b ≠ a.block) (v : Value) : Blk (w.setCell a v) b cs t := (Below.heap_setCell _ _ _ _ ha).trans h
theorem Blk.drew (h : Blk w b cs t) : Blk w.drew b cs t := h
end
theorem two_stores (w : World) (g : Nat) {a b : Value} (h0 : w.cell? ⟨g, 0, none⟩ = some a) (h1 : w.cell? ⟨g, 1, none⟩ = some b) :
    (∀ u, (w.setCell ⟨g, 0, none⟩ u).cell? ⟨g, 0, none⟩ = some u) ∧ (∀ u v, ((w.setCell ⟨g, 0, none⟩ u).setCell ⟨g, 1, none⟩ v).cell? ⟨g, 1, none⟩ = some v) := by
  refine ⟨fun u => World.cell?_setCell_same' _ _ _ (by rw [h0]; rfl), fun u v => World.cell?_setCell_same' _ _ _ ?_⟩
  rw [World.cell?_setCell_other _ _ _ _ (by simp), h1]; rfl
theorem Rd.far {w : World} {rb B p : Nat} (h : Rd w rb B p) {a : Addr} (ha : rb < a.block) (v : Value) : Rd (w.setCell a v) rb B p := h.keep fun k hk => Below.heap_setCell _ _ _ _ (by omega)
theorem Rd.alloc {w : World} {rb B p : Nat} (h : Rd w rb B p) (o : Obj) : Rd (w.alloc o) rb B p := h.below ((Below.refl _ _).alloc (Nat.le_refl _) _)
/-- one store into a new block, seen from before -/
theorem only_set {w0 w : World} {rb : Nat} (h : w0.grownBy w (some rb)) {a : Addr} (ha : w0.heap.size ≤ a.block) (v : Value) : w0.grownBy (w.setCell a v) (some rb) :=
  ⟨h.os, h.tape, h.output, by simpa [World.setCell] using h.size, fun k hk hn => (Below.heap_setCell _ _ _ _ (by omega)).trans (h.block k hk hn)⟩
theorem only_alloc {w0 w : World} {rb : Nat} (h : w0.grownBy w (some rb)) (o : Obj) : w0.grownBy (w.alloc o) (some rb) :=
  only_trans h (only_of_below ((Below.refl _ _).alloc (Nat.le_refl _) _))
theorem only_drew {w0 w : World} {rb : Nat} (h : w0.grownBy w (some rb)) : w0.grownBy w.drew (some rb) := ⟨h.os, h.tape, h.output, h.size, h.block⟩
end Go.Proofs.Ytnbakpdphfdacaa
