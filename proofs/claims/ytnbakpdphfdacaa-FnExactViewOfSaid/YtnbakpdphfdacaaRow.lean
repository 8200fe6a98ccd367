/- A row of nodes that is made whole and filled node by node, each log in a block of its own: plain lemmas on worlds. -/
import Derived.Test.YtnbakpdphfdacaaNodeA
import Derived.Test.YtnbakpdphfdacaaBlk
namespace Go.Proofs.Ytnbakpdphfdacaa
open Go.RowKit

theorem infoNode : (Try.prog.info? 57).map (fun i => (i.zero, i.size, i.bytes)) = some (some (.agg #[.int .i64 0, .slice none 0 0, .int .i64 0]), 3, 40) := by kernel_rfl

/-- the first k of n nodes are laid in block g -/
def RowTo (W : World) (lo g n : Nat) (l : List Nod) (k : Nat) : Prop :=
  ∃ (cs : Array Value) (rs : List RN), W.heap[g]? = some (.cells cs 57 (0, 0)) ∧ cs.size = n * 3 ∧ rs.length = k ∧ lo ≤ g ∧
    (∀ (i : Nat) (r : RN), rs[i]? = some r → ∀ j u, r.enc[j]? = some u → cs[i * 3 + j]? = some u) ∧
    (∀ (i : Nat) (r : RN) (x : Nod), rs[i]? = some r → l[i]? = some x → r.id = x.id ∧ r.done = x.done ∧ x.log.length = r.n ∧ W.ownsRow lo 72 2 (.slice r.A r.n r.c) r.n (x.log.flatMap Upd.enc)) ∧
    (∀ (i j : Nat) (r s : RN) (b : Nat), rs[i]? = some r → rs[j]? = some s → i < j → (Value.slice r.A r.n r.c).ownBlock = some b → (Value.slice s.A s.n s.c).ownBlock ≠ some b)

theorem RowTo.zero {W : World} {lo g n : Nat} {l : List Nod} {cs : Array Value} (h : W.heap[g]? = some (.cells cs 57 (0, 0))) (hs : cs.size = n * 3) (hlo : lo ≤ g) : RowTo W lo g n l 0 :=
  ⟨cs, [], h, hs, rfl, hlo, fun i r h => by simp at h, fun i r x h => by simp at h, fun i j r s b h => by simp at h⟩
theorem RowTo.block {W : World} {lo g n : Nat} {l : List Nod} {k : Nat} (h : RowTo W lo g n l k) : ∃ cs : Array Value, W.heap[g]? = some (.cells cs 57 (0, 0)) ∧ cs.size = n * 3 := by
  obtain ⟨cs, rs, h1, h2, _⟩ := h; exact ⟨cs, h1, h2⟩

/-- the world grows, and one node's three cells are stored -/
theorem RowTo.step {W W1 : World} {lo g n : Nat} {l : List Nod} {k : Nat} {x : Nod} {r : RN} (h : RowTo W lo g n l k) (hb : Below W.heap.size W W1) (hx : l[k]? = some x) (hr : r.id = x.id ∧ r.done = x.done ∧ x.log.length = r.n) (hkn : k < n)
    (hlog : W1.ownsRow W.heap.size 72 2 (.slice r.A r.n r.c) r.n (x.log.flatMap Upd.enc)) :
    RowTo (((W1.setCell ⟨g, k * 3, none⟩ (.int .i64 r.id)).setCell ⟨g, k * 3 + 1, none⟩ (.slice r.A r.n r.c)).setCell ⟨g, k * 3 + 2, none⟩ (.int .i64 r.done)) lo g n l (k + 1) := by
  obtain ⟨cs, rs, h1, h2, h3, h4, h5, h6, h7⟩ := h
  have hg1 := (hb.block g (lt_of_block h1)).trans h1
  have hroom : k * 3 + 3 ≤ cs.size := by rw [h2]; omega
  have hgs := lt_of_block h1
  have keep : ∀ q, q ≠ g → ((((W1.setCell ⟨g, k * 3, none⟩ (.int .i64 r.id)).setCell ⟨g, k * 3 + 1, none⟩ (.slice r.A r.n r.c)).setCell ⟨g, k * 3 + 2, none⟩ (.int .i64 r.done))).heap[q]? = W1.heap[q]? := fun q hq => by
    rw [Below.heap_setCell _ _ _ _ hq, Below.heap_setCell _ _ _ _ hq, Below.heap_setCell _ _ _ _ hq]
  have offg : ∀ {A : Option Addr} {m c : Nat} {xs : List Value} {lo' : Nat}, W1.ownsRow lo' 72 2 (.slice A m c) m xs → ∀ q, (Value.slice A m c).ownBlock = some q → q ≠ g := fun ho q hq e => by
    subst e
    obtain ⟨ys, h8⟩ := own_blk ho hq
    rw [hg1] at h8; injection h8 with h8; injection h8 with _ h8; exact absurd h8 (by decide)
  have old : ∀ (i : Nat) (r' : RN) (x' : Nod), rs[i]? = some r' → l[i]? = some x' → W1.ownsRow lo 72 2 (.slice r'.A r'.n r'.c) r'.n (x'.log.flatMap Upd.enc) := fun i r' x' e1 e2 => own_keep (h6 i r' x' e1 e2).2.2.2 (fun q hq => hb.block q ((h6 i r' x' e1 e2).2.2.2.lt q hq).2)
  refine ⟨putRow cs (k * 3) r.enc, rs ++ [r], heap_setCell_at (heap_setCell_at (heap_setCell_at hg1 _) _) _, by rw [size_putRow]; exact h2, by simp [h3], h4, ?_, ?_, ?_⟩
  · intro i r' hi j u hu
    have hj : j < 3 := by have := (List.getElem?_eq_some_iff.1 hu).1; rw [RN.len] at this; exact this
    rw [List.getElem?_append] at hi
    by_cases hik : i < rs.length
    · rw [if_pos hik] at hi
      rw [putRow_out _ _ _ _ (.inl (by omega))]
      exact h5 i r' hi j u hu
    · rw [if_neg hik] at hi
      have e0 : i - rs.length = 0 := by have := (List.getElem?_eq_some_iff.1 hi).1; simp at this; omega
      rw [e0] at hi; simp at hi; subst hi
      have : i = k := by omega
      subst this
      rw [putRow_in _ _ _ _ (by rw [RN.len]; exact hroom) (by rw [RN.len]; exact hj), hu]
  · intro i r' x' hi hxi
    rw [List.getElem?_append] at hi
    by_cases hik : i < rs.length
    · rw [if_pos hik] at hi
      obtain ⟨a, b, c, d⟩ := h6 i r' x' hi hxi
      exact ⟨a, b, c, own_keep (old i r' x' hi hxi) (fun q hq => keep q (offg (old i r' x' hi hxi) q hq))⟩
    · rw [if_neg hik] at hi
      have e0 : i - rs.length = 0 := by have := (List.getElem?_eq_some_iff.1 hi).1; simp at this; omega
      rw [e0] at hi; simp at hi; subst hi
      have : i = k := by omega
      subst this
      rw [hx] at hxi; injection hxi with hxi; subst hxi
      exact ⟨hr.1, hr.2.1, hr.2.2, own_keep (hlog.mono (by omega)) (fun q hq => keep q (offg hlog q hq))⟩
  · intro i j r1 r2 b e1 e2 hij o1 o2
    rw [List.getElem?_append] at e1 e2
    by_cases hj : j < rs.length
    · rw [if_pos (by omega)] at e1
      rw [if_pos hj] at e2
      exact h7 i j r1 r2 b e1 e2 hij o1 o2
    · rw [if_neg hj] at e2
      have e0 : j - rs.length = 0 := by have := (List.getElem?_eq_some_iff.1 e2).1; simp at this; omega
      rw [e0] at e2; simp at e2; subst e2
      rw [if_pos (by omega)] at e1
      have hi' : i < l.length := by have := (List.getElem?_eq_some_iff.1 hx).1; omega
      have := ((h6 i r1 l[i] e1 (List.getElem?_eq_getElem hi')).2.2.2.lt b o1).2
      have := (hlog.lt b o2).1
      omega
theorem RowTo.done {W : World} {lo g n : Nat} {l : List Nod} (h : RowTo W lo g n l n) (hl : l.length = n) (hn : n ≤ maxLen) : NodRow W lo W.heap.size (.slice (some ⟨g, 0, none⟩) n n) l := by
  obtain ⟨cs, rs, h1, h2, h3, h4, h5, h6, h7⟩ := h
  subst hl
  refine ⟨rs, ?_, fun q e => ?_, h3, fun i r x e1 e2 => ?_, h7⟩
  · exact Filled.own RN.len (by omega) ⟨by rw [h2, h3], fun i r _ hr j u hu => h5 i r hr j u hu⟩ h3 h1 h4 hn
  · have : g = q := by simpa [Value.ownBlock] using e
    subst this; exact lt_of_block h1
  · obtain ⟨a, b, c, d⟩ := h6 i r x e1 e2
    exact ⟨a, b, c, d, fun q e => (d.lt q e).2⟩
/-- what a chain in new memory leaves -/
def ChainLeft (w : World) (view : Int) (l : List Nod) (e : Ending) (w' : World) : Prop :=
  ∃ A n c, e = .returned (.agg #[.int .i64 view, .slice A n c]) ∧ l.length = n ∧ NodRow w' w.heap.size w'.heap.size (.slice A n c) l ∧ Below w.heap.size w w'
end Go.Proofs.Ytnbakpdphfdacaa
