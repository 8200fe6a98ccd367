/- States: five numbers in one block; making a new one, and putting a value there. -/
import Derived.Test.YtagejkfeceeifaaLeaf
namespace Go.Proofs.Ytagejkfeceeifaa
open Go.RowKit

/-- block g begins with the numbers st, and they may be written -/
def StAt (W : World) (g : Nat) (st : List Int) : Prop :=
  g < W.heap.size ∧ (∀ i x, st[i]? = some x → W.cell? ⟨g, i, none⟩ = some (.int .i64 x)) ∧ (∀ i, i < st.length → W.frozen? ⟨g, i, none⟩ = false)
section
variable {W W' : World} {g : Nat} {st : List Int}
theorem StAt.keep (h : StAt W g st) (hk : W'.heap[g]? = W.heap[g]?) (hs : g < W'.heap.size) : StAt W' g st :=
  ⟨hs, fun i x hx => (World.cell?_of_block (w := W) hk).trans (h.2.1 i x hx), fun i hi => (World.frozen?_of_block (w := W) hk).trans (h.2.2 i hi)⟩
theorem StAt.below (h : StAt W g st) (hb : Below W.heap.size W W') : StAt W' g st := h.keep (hb.block g h.1) (Nat.lt_of_lt_of_le h.1 hb.size)
theorem StAt.alloc (h : StAt W g st) (o : Obj) : StAt (W.alloc o) g st := h.below ((Below.refl _ _).alloc (Nat.le_refl _) _)
theorem StAt.kept {row : Option Nat} (h : StAt W g st) (hg : W.grownBy W' row) (hne : some g ≠ row) : StAt W' g st := h.keep (hg.block g h.1 hne) (Nat.lt_of_lt_of_le h.1 hg.size)
theorem StAt.far (h : StAt W g st) {p : Addr} (hp : g ≠ p.block) (u : Value) : StAt (W.setCell p u) g st := h.keep (Below.heap_setCell W p u g hp) (by simpa [World.setCell] using h.1)
theorem StAt.at_ (h : StAt W g st) {k : Nat} (hk : k < st.length) : ∃ x, st[k]? = some x ∧ W.cell? ⟨g, k, none⟩ = some (.int .i64 x) :=
  ⟨st[k], List.getElem?_eq_getElem hk, h.2.1 k _ (List.getElem?_eq_getElem hk)⟩
theorem StAt.put (h : StAt W g st) (k : Nat) (v : Int) : StAt (W.setCell ⟨g, k, none⟩ (.int .i64 v)) g (st.set k v) := by
  refine ⟨by simpa [World.setCell] using h.1, fun i x hx => ?_, fun i hi => ?_⟩
  · by_cases hik : i = k
    · subst hik
      have hi := (List.getElem?_eq_some_iff.1 hx).1
      rw [List.length_set] at hi
      rw [List.getElem?_set_self (by omega)] at hx
      injection hx with hx
      subst hx
      obtain ⟨y, _, hy⟩ := h.at_ hi
      exact World.cell?_setCell_same' _ _ _ (by rw [hy]; rfl)
    · rw [List.getElem?_set_ne (by omega)] at hx
      rw [World.cell?_setCell_other W _ _ _ (by simp only [ne_eq, Addr.mk.injEq]; omega)]
      exact h.2.1 i x hx
  · rw [World.frozen?_setCell]
    exact h.2.2 i (by simpa using hi)
end
theorem StAt.of_own {W : World} {lo g n cap : Nat} {e : TypeId} {st : List Int} (h : W.ownsRow lo e 1 (.slice (some ⟨g, 0, none⟩) n cap) n (st.flatMap encInt)) (hn : st.length = n) : StAt W g st := by
  refine ⟨(h.lt g rfl).2, fun i x hx => ?_, fun i _ => h.frozenAt i⟩
  have hi := (List.getElem?_eq_some_iff.1 hx).1
  have := h.cellAt i (by omega)
  rw [this]
  have := flatMap_get encInt_len st i x hx 0 (.int .i64 x) rfl
  simpa using this

def st0 : List Int := [-1, -1, -1, -1, -1]

theorem intInfo : (Try.prog.info? 3).map (fun i => (i.zero, i.size, i.bytes)) = some (some (.int .i64 0), 1, 8) := by kernel_rfl



end Go.Proofs.Ytagejkfeceeifaa
