/- A list of nodes in links: what a list of links in memory is, and what keeps it; no program in sight but the types' numbers. -/
import Derived.Test.YtnbakpdphfdacaaChn
namespace Go.Proofs.Ytnbakpdphfdacaa
open Go.RowKit

/-- block g is a link: a node as it lies, and the next -/
def Lnk (w : World) (g : Nat) (r : RN) (q : Option Addr) : Prop := Blk w g #[.int .i64 r.id, .slice r.A r.n r.c, .int .i64 r.done, .pointer q] 80
theorem Lnk.same {w : World} {g : Nat} {r r' : RN} {q q' : Option Addr} (h : Lnk w g r q) (h' : Lnk w g r' q') : q = q' := by
  have h1 : w.heap[g]? = some _ := h
  have h2 : w.heap[g]? = some _ := h'
  rw [h1] at h2
  injection h2 with h2; injection h2 with h2
  injection h2 with h2
  injection h2 with _ h2; injection h2 with _ h2; injection h2 with _ h2; injection h2 with h2
  injection h2
/-- from p on the links rs, the last one's next is e; each in a block from lo on and below hi, the next one in a lower block -/
def SegD (w : World) (lo : Nat) : Nat → Option Addr → List RN → Option Addr → Prop
  | _, p, [], e => p = e
  | hi, p, r :: rs, e => ∃ g q, p = some ⟨g, 0, none⟩ ∧ lo ≤ g ∧ g < hi ∧ Lnk w g r q ∧ SegD w lo g q rs e
/-- the same, in blocks in any order -/
def Seg (w : World) : Option Addr → List RN → Option Addr → Prop
  | p, [], e => p = e
  | p, r :: rs, e => ∃ g q, p = some ⟨g, 0, none⟩ ∧ Lnk w g r q ∧ Seg w q rs e
theorem SegD.keep {w w' : World} {lo : Nat} : ∀ {rs : List RN} {hi : Nat} {p e : Option Addr}, SegD w lo hi p rs e → (∀ k, lo ≤ k → k < hi → w'.heap[k]? = w.heap[k]?) → SegD w' lo hi p rs e := by
  intro rs
  induction rs with
  | nil => intro hi p e h _; exact h
  | cons r rs ih =>
    intro hi p e h hk
    obtain ⟨g, q, e1, h1, h2, h3, h4⟩ := h
    exact ⟨g, q, e1, h1, h2, (hk g h1 h2).trans h3, ih h4 (fun k a b => hk k a (by omega))⟩
theorem SegD.mono {w : World} {lo hi hi' : Nat} {rs : List RN} {p e : Option Addr} (h : SegD w lo hi p rs e) (hh : hi ≤ hi') : SegD w lo hi' p rs e := by
  cases rs with
  | nil => exact h
  | cons r rs =>
    obtain ⟨g, q, e1, h1, h2, h3, h4⟩ := h
    exact ⟨g, q, e1, h1, by omega, h3, h4⟩
theorem SegD.split {w : World} {lo : Nat} {r : RN} : ∀ {rs : List RN} {hi : Nat} {p : Option Addr}, SegD w lo hi p (rs ++ [r]) none → ∃ g, lo ≤ g ∧ g < hi ∧ Lnk w g r none ∧ SegD w (g + 1) hi p rs (some ⟨g, 0, none⟩) := by
  intro rs
  induction rs with
  | nil =>
    intro hi p h
    obtain ⟨g, q, e1, h1, h2, h3, h4⟩ := h
    have h4' : q = none := h4
    subst h4'
    exact ⟨g, h1, h2, h3, e1⟩
  | cons r0 rs ih =>
    intro hi p h
    obtain ⟨g0, q, e1, h1, h2, h3, h4⟩ := h
    obtain ⟨g, a, b, c, d⟩ := ih h4
    exact ⟨g, a, by omega, c, g0, q, e1, b, h2, h3, d⟩
/-- a segment's start is a link, if it leads to one -/
theorem SegD.start {w : World} {lo hi g : Nat} {rs : List RN} {p : Option Addr} (h : SegD w lo hi p rs (some ⟨g, 0, none⟩)) : ∃ g', p = some ⟨g', 0, none⟩ := by
  cases rs with
  | nil => exact ⟨g, h⟩
  | cons r rs => obtain ⟨g0, q, e1, _⟩ := h; exact ⟨g0, e1⟩
theorem SegD.seg {w w' : World} {lo : Nat} : ∀ {rs : List RN} {hi : Nat} {p e : Option Addr}, SegD w lo hi p rs e → (∀ k, lo ≤ k → k < hi → w'.heap[k]? = w.heap[k]?) → Seg w' p rs e := by
  intro rs
  induction rs with
  | nil => intro hi p e h _; exact h
  | cons r rs ih =>
    intro hi p e h hk
    obtain ⟨g, q, e1, h1, h2, h3, h4⟩ := h
    exact ⟨g, q, e1, (hk g h1 h2).trans h3, ih h4 (fun k a b => hk k a (by omega))⟩
theorem Seg.join {w : World} {rest : List RN} {e m : Option Addr} : ∀ {rs : List RN} {p : Option Addr}, Seg w p rs m → Seg w m rest e → Seg w p (rs ++ rest) e := by
  intro rs
  induction rs with
  | nil => intro p h h2; rw [show p = m from h]; exact h2
  | cons r rs ih =>
    intro p h h2
    obtain ⟨g, q, e1, h1, h3⟩ := h
    exact ⟨g, q, e1, h1, ih h3 h2⟩
theorem Seg.keepT {w w' : World} : ∀ {rs : List RN} {p e : Option Addr}, Seg w p rs e → (∀ (k : Nat) (cs : Array Value), w.heap[k]? = some (.cells cs 80 (0, 0)) → w'.heap[k]? = w.heap[k]?) → Seg w' p rs e := by
  intro rs
  induction rs with
  | nil => intro p e h _; exact h
  | cons r rs ih =>
    intro p e h hk
    obtain ⟨g, q, e1, h1, h3⟩ := h
    exact ⟨g, q, e1, (hk g _ h1).trans h1, ih h3 hk⟩
theorem Seg.len {w : World} : ∀ {rs rs' : List RN} {p : Option Addr}, Seg w p rs none → Seg w p rs' none → rs.length = rs'.length := by
  intro rs
  induction rs with
  | nil =>
    intro rs' p h h'
    cases rs' with
    | nil => rfl
    | cons r rs' =>
      obtain ⟨g, q, e1, _⟩ := h'
      rw [show p = none from h] at e1; cases e1
  | cons r rs ih =>
    intro rs' p h h'
    obtain ⟨g, q, e1, h1, h3⟩ := h
    cases rs' with
    | nil => rw [show p = none from h'] at e1; cases e1
    | cons r' rs' =>
      obtain ⟨g', q', e1', h1', h3'⟩ := h'
      rw [e1] at e1'; injection e1' with e1'; injection e1' with e1'
      subst e1'
      have := h1.same h1'
      subst this
      simp only [List.length_cons]
      rw [ih h3 h3']
/-- how many links are left -/
theorem links_measure : ∃ f : World → Value → Nat, ∀ (w : World) (p : Option Addr) (rs : List RN), Seg w p rs none → f w (.pointer p) = rs.length := by
  classical
  refine ⟨fun w v => if h : ∃ rs : List RN, ∀ p, v = .pointer p → Seg w p rs none then (Classical.choose h).length else 0, fun w p rs hs => ?_⟩
  have h : ∃ rs : List RN, ∀ p', Value.pointer p = .pointer p' → Seg w p' rs none := ⟨rs, fun p' e => by injection e with e; subst e; exact hs⟩
  show (if h : _ then _ else _) = _
  rw [dif_pos h]
  exact (Classical.choose_spec h p rfl).len hs

/-- the logs of nodes, each in a block of its own -/
def LogsAt (w : World) (lo hi : Nat) (l : List Nod) (rs : List RN) : Prop :=
  rs.length = l.length ∧
    (∀ (i : Nat) (r : RN) (x : Nod), rs[i]? = some r → l[i]? = some x → r.id = x.id ∧ r.done = x.done ∧ x.log.length = r.n ∧ w.ownsRow lo 72 2 (.slice r.A r.n r.c) r.n (x.log.flatMap Upd.enc) ∧ ∀ g, (Value.slice r.A r.n r.c).ownBlock = some g → g < hi) ∧
    (∀ (i j : Nat) (r s : RN) (g : Nat), rs[i]? = some r → rs[j]? = some s → i < j → (Value.slice r.A r.n r.c).ownBlock = some g → (Value.slice s.A s.n s.c).ownBlock ≠ some g)
theorem LogsAt.nil (w : World) (lo hi : Nat) : LogsAt w lo hi [] [] := ⟨rfl, fun i r x h => by simp at h, fun i j r s g h => by simp at h⟩
section
variable {w w' : World} {lo hi : Nat} {l : List Nod} {rs : List RN}
theorem LogsAt.keep (h : LogsAt w lo hi l rs) (hk : ∀ k, lo ≤ k → k < hi → w'.heap[k]? = w.heap[k]?) : LogsAt w' lo hi l rs := by
  obtain ⟨hl, hr, hd⟩ := h
  refine ⟨hl, fun i r x h1 h2 => ?_, hd⟩
  obtain ⟨a, b, c, d, f⟩ := hr i r x h1 h2
  exact ⟨a, b, c, own_keep d (fun g e => hk g (d.lt g e).1 (f g e)), f⟩
theorem LogsAt.keepT (h : LogsAt w lo hi l rs) (hk : ∀ (k : Nat) (cs : Array Value), w.heap[k]? = some (.cells cs 72 (0, 0)) → w'.heap[k]? = w.heap[k]?) : LogsAt w' lo hi l rs := by
  obtain ⟨hl, hr, hd⟩ := h
  refine ⟨hl, fun i r x h1 h2 => ?_, hd⟩
  obtain ⟨a, b, c, d, f⟩ := hr i r x h1 h2
  exact ⟨a, b, c, own_keep d (fun g e => by obtain ⟨cs, hb⟩ := own_blk d e; exact hk g cs hb), f⟩
theorem LogsAt.mono {hi' : Nat} (h : LogsAt w lo hi l rs) (h2 : hi ≤ hi') : LogsAt w lo hi' l rs := by
  obtain ⟨hl, hr, hd⟩ := h
  exact ⟨hl, fun i r x h1 h2 => by obtain ⟨a, b, c, d, f⟩ := hr i r x h1 h2; exact ⟨a, b, c, d, fun g e => Nat.lt_of_lt_of_le (f g e) (by assumption)⟩, hd⟩
theorem LogsAt.lower {lo' : Nat} (h : LogsAt w lo hi l rs) (hl' : lo' ≤ lo) : LogsAt w lo' hi l rs :=
  ⟨h.1, fun i r x h1 h2 => by obtain ⟨a, b, c, d, f⟩ := h.2.1 i r x h1 h2; exact ⟨a, b, c, d.mono hl', f⟩, h.2.2⟩
theorem LogsAt.cons {x : Nod} {r : RN} (h : LogsAt w lo hi l rs) (hr : r.id = x.id ∧ r.done = x.done ∧ x.log.length = r.n) (hlog : w.ownsRow lo 72 2 (.slice r.A r.n r.c) r.n (x.log.flatMap Upd.enc))
    (hnew : ∀ g, (Value.slice r.A r.n r.c).ownBlock = some g → hi ≤ g) (hhi : hi ≤ w.heap.size) : LogsAt w lo w.heap.size (x :: l) (r :: rs) := by
  obtain ⟨hl, hrs, hd⟩ := h
  refine ⟨by simp [hl], fun i r' x' h1 h2 => ?_, fun i j r1 r2 g h1 h2 hij e1 e2 => ?_⟩
  · cases i with
    | zero =>
      simp at h1 h2; subst h1; subst h2
      exact ⟨hr.1, hr.2.1, hr.2.2, hlog, fun g e => (hlog.lt g e).2⟩
    | succ i =>
      obtain ⟨a, b, c, d, f⟩ := hrs i r' x' (by simpa using h1) (by simpa using h2)
      exact ⟨a, b, c, d, fun g e => Nat.lt_of_lt_of_le (f g e) hhi⟩
  · cases j with
    | zero => omega
    | succ j =>
      cases i with
      | zero =>
        simp at h1 h2; subst h1
        have hj := (List.getElem?_eq_some_iff.1 h2).1
        have := (hrs j r2 _ h2 (List.getElem?_eq_getElem (by omega))).2.2.2.2 g e2
        have := hnew g e1
        omega
      | succ i => exact hd i j r1 r2 g (by simpa using h1) (by simpa using h2) (by omega) e1 e2
theorem LogsAt.snoc {x : Nod} {r : RN} (h : LogsAt w lo hi l rs) (hr : r.id = x.id ∧ r.done = x.done ∧ x.log.length = r.n) (hlog : w.ownsRow lo 72 2 (.slice r.A r.n r.c) r.n (x.log.flatMap Upd.enc))
    (hnew : ∀ g, (Value.slice r.A r.n r.c).ownBlock = some g → hi ≤ g) (hhi : hi ≤ w.heap.size) : LogsAt w lo w.heap.size (l ++ [x]) (rs ++ [r]) := by
  obtain ⟨hl, hrs, hd⟩ := h
  refine ⟨by simp [hl], fun i r' x' h1 h2 => ?_, fun i j r1 r2 g h1 h2 hij e1 e2 => ?_⟩
  · rw [List.getElem?_append] at h1 h2
    by_cases hi1 : i < rs.length
    · rw [if_pos hi1] at h1
      rw [if_pos (by omega)] at h2
      obtain ⟨a, b, c, d, f⟩ := hrs i r' x' h1 h2
      exact ⟨a, b, c, d, fun g e => Nat.lt_of_lt_of_le (f g e) hhi⟩
    · rw [if_neg hi1] at h1
      rw [if_neg (by omega)] at h2
      have e0 : i - rs.length = 0 := by have := (List.getElem?_eq_some_iff.1 h1).1; simp at this; omega
      rw [e0] at h1
      rw [← hl, e0] at h2
      simp at h1 h2
      subst h1; subst h2
      exact ⟨hr.1, hr.2.1, hr.2.2, hlog, fun g e => (hlog.lt g e).2⟩
  · rw [List.getElem?_append] at h1 h2
    by_cases hj : j < rs.length
    · rw [if_pos (by omega)] at h1
      rw [if_pos hj] at h2
      exact hd i j r1 r2 g h1 h2 hij e1 e2
    · rw [if_neg hj] at h2
      have e0 : j - rs.length = 0 := by have := (List.getElem?_eq_some_iff.1 h2).1; simp at this; omega
      rw [e0] at h2
      simp at h2
      subst h2
      rw [if_pos (by omega)] at h1
      have hi' := (List.getElem?_eq_some_iff.1 h1).1
      have := (hrs i r1 _ h1 (List.getElem?_eq_getElem (by omega))).2.2.2.2 g e1
      have := hnew g e2
      omega
/-- a row of nodes whose logs are these -/
theorem LogsAt.row {v : Value} (h : LogsAt w lo hi l rs) (hhi : hi ≤ w.heap.size) (ho : w.ownsRow lo 57 3 v l.length (rs.flatMap RN.enc)) : NodRow w lo w.heap.size v l :=
  ⟨rs, ho, fun g e => (ho.lt g e).2, h.1, fun i r x h1 h2 => by obtain ⟨a, b, c, d, f⟩ := h.2.1 i r x h1 h2; exact ⟨a, b, c, d, fun g e => Nat.lt_of_lt_of_le (f g e) hhi⟩, h.2.2⟩
end
/-- behind an append to a row of nodes: what is no row of nodes is as it was -/
theorem row_after {w w1 : World} {lo n : Nat} {v : Value} {xs : List Value} {o : Obj} (h : w.ownsRow lo 57 3 v n xs) (hg : (w.alloc o).grownBy w1 v.ownBlock) (k : Nat) (cs : Array Value) (t : TypeId) (hk : w.heap[k]? = some (.cells cs t (0, 0))) (ht : t ≠ 57) : w1.heap[k]? = w.heap[k]? :=
  (hg.block k (by have := lt_of_block hk; simp; omega) (fun e => by
    obtain ⟨ds, hd⟩ := own_blk h e.symm
    exact ht (blk_type hk hd))).trans (Below.heap_alloc _ _ _ (lt_of_block hk))
end Go.Proofs.Ytnbakpdphfdacaa
