/- A row of nodes of the call's own: kept by types, one cell of one node written; a chain under way in a draw. -/
import Derived.Test.YtnbakpdphfdacaaRow
import Derived.Test.YtnbakpdphfdacaaDrawU
namespace Go.Proofs.Ytnbakpdphfdacaa
open Go.RowKit

theorem blk_type {W : World} {b : Nat} {cs ds : Array Value} {t u : TypeId} {fr gr : Nat × Nat} (h1 : W.heap[b]? = some (.cells cs t fr)) (h2 : W.heap[b]? = some (.cells ds u gr)) : t = u := by
  rw [h1] at h2; injection h2 with h2; injection h2
section
variable {w w' : World} {lo hi : Nat} {v : Value} {l : List Nod}
/-- what is written is neither a row of nodes nor a log -/
theorem NodRow.keepT (h : NodRow w lo hi v l) (hk : ∀ (k : Nat) (cs : Array Value) (t : TypeId), w.heap[k]? = some (.cells cs t (0, 0)) → t = 57 ∨ t = 72 → w'.heap[k]? = w.heap[k]?) : NodRow w' lo hi v l := by
  obtain ⟨rs, ho, hv, hl, hr, hd⟩ := h
  have kp : ∀ {lo' n sz : Nat} {t : TypeId} {u : Value} {xs : List Value}, t = 57 ∨ t = 72 → w.ownsRow lo' t sz u n xs → w'.ownsRow lo' t sz u n xs := fun ht hh => own_keep hh fun g e => by
    obtain ⟨cs, hb⟩ := own_blk hh e
    exact hk g cs _ hb ht
  refine ⟨rs, kp (.inl rfl) ho, hv, hl, fun i r x h1 h2 => ?_, hd⟩
  obtain ⟨a, b, c, d, f⟩ := hr i r x h1 h2
  exact ⟨a, b, c, kp (.inr rfl) d, f⟩
/-- one cell of one node is written: the id or what is known to be everywhere -/
theorem NodRow.setCell {g n c i j : Nat} {x x' : Nod} {u : Value} (h : NodRow w lo hi (.slice (some ⟨g, 0, none⟩) n c) l) (hx : l[i]? = some x) (hj : j < 3)
    (hu : ∀ r : RN, r.id = x.id → r.done = x.done → ∃ r' : RN, r'.enc = r.enc.set j u ∧ r'.A = r.A ∧ r'.n = r.n ∧ r'.c = r.c ∧ r'.id = x'.id ∧ r'.done = x'.done) (hl' : x'.log = x.log) :
    NodRow (w.setCell ⟨g, i * 3 + j, none⟩ u) lo hi (.slice (some ⟨g, 0, none⟩) n c) (l.set i x') := by
  obtain rfl : n = l.length := h.nods'.1
  obtain ⟨rs, ho, hv, hl, hr, hd⟩ := h
  have hi := (List.getElem?_eq_some_iff.1 hx).1
  have hri : rs[i]? = some (rs[i]'(by omega)) := List.getElem?_eq_getElem _
  obtain ⟨a1, a2, a3, a4, a5⟩ := hr i _ x hri hx
  obtain ⟨r', e1, e2, e3, e4, e5, e6⟩ := hu _ a1 a2
  have hst := (ho.stored (i * 3 + j) u).1
  rw [flatMap_set RN.len e1 hj rs i hri] at hst
  have offg : ∀ {A : Option Addr} {m c' : Nat} {xs : List Value} {lo' : Nat}, w.ownsRow lo' 72 2 (.slice A m c') m xs → ∀ q, (Value.slice A m c').ownBlock = some q → q ≠ g := fun hh q hq e => by
    subst e
    exact own_part hh ho (by decide) hq rfl
  refine ⟨rs.set i r', by rw [List.length_set]; exact hst, hv, by simp [hl], fun k r y h1 h2 => ?_, fun p q r s b h1 h2 hpq o1 o2 => ?_⟩
  · by_cases hk : i = k
    · subst hk
      rw [List.getElem?_set_self (by omega)] at h1
      rw [List.getElem?_set_self (by omega)] at h2
      injection h1 with h1; injection h2 with h2
      subst h1; subst h2
      refine ⟨e5, e6, by rw [hl', e3]; exact a3, ?_, by rw [e2, e3, e4]; exact a5⟩
      rw [e2, e3, e4, hl']
      exact own_keep a4 (fun q hq => Below.heap_setCell _ _ _ _ (offg a4 q hq))
    · rw [List.getElem?_set_ne hk] at h1 h2
      obtain ⟨b1, b2, b3, b4, b5⟩ := hr k r y h1 h2
      exact ⟨b1, b2, b3, own_keep b4 (fun q hq => Below.heap_setCell _ _ _ _ (offg b4 q hq)), b5⟩
  · have same : ∀ (k : Nat) (t : RN), (rs.set i r')[k]? = some t → ∃ t0 : RN, rs[k]? = some t0 ∧ t0.A = t.A ∧ t0.n = t.n ∧ t0.c = t.c := fun k t ht => by
      by_cases hk : i = k
      · subst hk
        rw [List.getElem?_set_self (by omega)] at ht
        injection ht with ht; subst ht
        exact ⟨_, hri, e2.symm, e3.symm, e4.symm⟩
      · rw [List.getElem?_set_ne hk] at ht
        exact ⟨t, ht, rfl, rfl, rfl⟩
    obtain ⟨r0, f1, f2, f3, f4⟩ := same p r h1
    obtain ⟨s0, g1, g2, g3, g4⟩ := same q s h2
    rw [← f2, ← f3, ← f4] at o1
    rw [← g2, ← g3, ← g4] at o2
    exact hd p q r0 s0 b f1 g1 hpq o1 o2
theorem NodRow.setDone {g n c i : Nat} {x : Nod} (h : NodRow w lo hi (.slice (some ⟨g, 0, none⟩) n c) l) (hx : l[i]? = some x) (d : Int) :
    NodRow (w.setCell ⟨g, i * 3 + 2, none⟩ (.int .i64 d)) lo hi (.slice (some ⟨g, 0, none⟩) n c) (l.set i { x with done := d }) :=
  h.setCell hx (by omega) (fun r h1 h2 => ⟨{ r with done := d }, rfl, rfl, rfl, rfl, h1, rfl⟩) rfl
theorem NodRow.setId {g n c i : Nat} {x : Nod} (h : NodRow w lo hi (.slice (some ⟨g, 0, none⟩) n c) l) (hx : l[i]? = some x) (d : Int) :
    NodRow (w.setCell ⟨g, i * 3 + 0, none⟩ (.int .i64 d)) lo hi (.slice (some ⟨g, 0, none⟩) n c) (l.set i { x with id := d }) :=
  h.setCell hx (by omega) (fun r h1 h2 => ⟨{ r with id := d }, rfl, rfl, rfl, rfl, rfl, h2⟩) rfl
theorem NodRow.form (h : NodRow w lo hi v l) (hn : 0 < l.length) : ∃ g c, v = .slice (some ⟨g, 0, none⟩) l.length c ∧ lo ≤ g ∧ g < w.heap.size ∧ l.length ≤ c := by
  obtain ⟨rs, ho, _⟩ := h
  exact own_form ho hn
/-- one node's cells, in a row of the call's own -/
theorem NodRow.at_ {g n c k : Nat} (h : NodRow w lo hi (.slice (some ⟨g, 0, none⟩) n c) l) (hk : k < l.length) :
    ∃ x A' m d, l[k]? = some x ∧ w.cell? ⟨g, k * 3, none⟩ = some (.int .i64 x.id) ∧ w.cell? ⟨g, k * 3 + 1, none⟩ = some (.slice A' m d) ∧ w.cell? ⟨g, k * 3 + 2, none⟩ = some (.int .i64 x.done) ∧ x.log.length = m ∧ m ≤ d ∧
      (∀ j, w.frozen? ⟨g, j, none⟩ = false) := by
  obtain ⟨hn, hN⟩ := h.nods'
  subst hn
  obtain ⟨b, off, x, A', m, d, e, _, _, hx, c0, c1, c2, hf⟩ := hN.nod (k := k) (by omega)
  injection e with e; injection e with e1 e2
  subst e1; subst e2
  obtain ⟨rs, ho, _⟩ := h
  refine ⟨x, A', m, d, hx, by simpa using c0, by simpa using c1, by simpa using c2, hf.len, hf.2.1, fun j => ho.frozenAt j⟩
end
end Go.Proofs.Ytnbakpdphfdacaa
