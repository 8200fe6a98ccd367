/- A chain under way in a block of the call's own: what each step does to it; no program in sight but the types' numbers. -/
import Derived.Test.YtnbakpdphfdacaaRowSet
namespace Go.Proofs.Ytnbakpdphfdacaa
open Go.RowKit

/-- other blocks that are known whole: boxes and results; neither rows of nodes nor logs, and ahead of block s -/
def Oth (w : World) (s : Nat) (L : List (Nat × Array Value × TypeId)) : Prop := ∀ p ∈ L, Blk w p.1 p.2.1 p.2.2 ∧ p.1 < s ∧ p.2.2 ≠ 57 ∧ p.2.2 ≠ 72
theorem Oth.nil (w : World) (s : Nat) : Oth w s [] := fun p h => by cases h
theorem Oth.cons {w : World} {s b : Nat} {cs : Array Value} {t : TypeId} {L : List (Nat × Array Value × TypeId)} (h : Oth w s L) (hb : Blk w b cs t) (hs : b < s) (ht : t ≠ 57 ∧ t ≠ 72) : Oth w s ((b, cs, t) :: L) := by
  intro p hp
  rcases List.mem_cons.1 hp with e | hp
  · subst e; exact ⟨hb, hs, ht⟩
  · exact h p hp
theorem Oth.keep {w w' : World} {s : Nat} {L : List (Nat × Array Value × TypeId)} (h : Oth w s L) (hk : ∀ (k : Nat) (cs : Array Value) (t : TypeId), w.heap[k]? = some (.cells cs t (0, 0)) → k < s → t ≠ 57 → t ≠ 72 → w'.heap[k]? = w.heap[k]?) : Oth w' s L :=
  fun p hp => by obtain ⟨a, b, c, d⟩ := h p hp; exact ⟨(hk _ _ _ a b c d).trans a, b, c, d⟩
/-- the chain's block s, the row of nodes; all of it below block hi; the other blocks L -/
structure CB (w0 w : World) (s : Nat) (view : Int) (nv : Value) (l : List Nod) (hi : Nat) (L : List (Nat × Array Value × TypeId)) : Prop where
  bel : Below w0.heap.size w0 w
  chn : Blk w s #[.int .i64 view, nv] 33
  s0 : w0.heap.size ≤ s
  s1 : s < hi
  his : hi ≤ w.heap.size
  row : NodRow w w0.heap.size hi nv l
  oth : Oth w s L
section
variable {w0 w w' : World} {s : Nat} {view : Int} {nv : Value} {l : List Nod} {hi : Nat} {L : List (Nat × Array Value × TypeId)}
theorem Oth.below (h : Oth w s L) (hb : Below w.heap.size w w') : Oth w' s L := h.keep fun k _ _ hk _ _ _ => hb.block k (lt_of_block hk)
theorem CB.new (hb : Below w0.heap.size w0 w) (view : Int) (h : Oth w w.heap.size L) : CB w0 (w.alloc (.cells #[.int .i64 view, .slice none 0 0] 33)) w.heap.size view (.slice none 0 0) [] (w.heap.size + 1) L :=
  ⟨hb.alloc hb.size _, Blk.new w _ _, hb.size, by omega, by simp, NodRow.nil_ _ _ _, h.below ((Below.refl _ _).alloc (Nat.le_refl _) _)⟩
/-- a chain that a call has made is laid into a block -/
theorem CB.made {view : Int} {A : Option Addr} {n c : Nat} (hb : Below w0.heap.size w0 w) (hrow : NodRow w w0.heap.size w.heap.size (.slice A n c) l) (h : Oth w w.heap.size L) : CB w0 (w.alloc (.cells #[.int .i64 view, .slice A n c] 33)) w.heap.size view (.slice A n c) l (w.heap.size + 1) L :=
  ⟨hb.alloc hb.size _, Blk.new w _ _, hb.size, by omega, by simp, (hrow.keep (fun _ _ h => Below.heap_alloc _ _ _ h)).mono (by omega), h.below ((Below.refl _ _).alloc (Nat.le_refl _) _)⟩
theorem Oth.raise {s' : Nat} (h : Oth w s L) (hs : s ≤ s') : Oth w s' L := fun p hp => by obtain ⟨a, b, c, d⟩ := h p hp; exact ⟨a, Nat.lt_of_lt_of_le b hs, c, d⟩
/-- a chain that a call has made is stored into a block that was there, empty yet -/
theorem CB.stored {view : Int} {A : Option Addr} {n c s : Nat} (hb : Below w0.heap.size w0 w) (hrow : NodRow w w0.heap.size w.heap.size (.slice A n c) l) (hres : Blk w s #[.int .i64 0, .slice none 0 0] 33) (hs : w0.heap.size ≤ s) (h : Oth w s L) :
    CB w0 ((w.setCell ⟨s, 0, none⟩ (.int .i64 view)).setCell ⟨s, 1, none⟩ (.slice A n c)) s view (.slice A n c) l w.heap.size L := by
  have hc : w.heap[s]? = some (.cells #[.int .i64 0, .slice none 0 0] 33 (0, 0)) := hres
  have off : ∀ k, k ≠ s → ((w.setCell ⟨s, 0, none⟩ (.int .i64 view)).setCell ⟨s, 1, none⟩ (.slice A n c)).heap[k]? = w.heap[k]? := fun k hk => by rw [Below.heap_setCell _ _ _ _ hk, Below.heap_setCell _ _ _ _ hk]
  exact ⟨(hb.setCell (p := ⟨s, 0, none⟩) hs _).setCell (p := ⟨s, 1, none⟩) hs _, (hres.set 0 _).set 1 _, hs, hres.lt, by simp [World.setCell], hrow.keepT (fun k cs t hk ht => off k (by
      rintro rfl
      have := blk_type hk hc
      rcases ht with rfl | rfl <;> exact absurd this (by decide))), h.keep (fun k _ _ _ hlt _ _ => off k (by omega))⟩
theorem CB.below (h : CB w0 w s view nv l hi L) (hb : Below w.heap.size w w') : CB w0 w' s view nv l hi L :=
  ⟨h.bel.trans (hb.mono h.bel.size), h.chn.below hb, h.s0, h.s1, Nat.le_trans h.his hb.size, h.row.keep (fun k _ hk => hb.block k (Nat.lt_of_lt_of_le hk h.his)), h.oth.below hb⟩
theorem CB.alloc (h : CB w0 w s view nv l hi L) (o : Obj) : CB w0 (w.alloc o) s view nv l hi L := h.below ((Below.refl _ _).alloc (Nat.le_refl _) _)
theorem CB.drew (h : CB w0 w s view nv l hi L) : CB w0 w.drew s view nv l hi L := h.below (Below.refl _ _).drew
theorem CB.raise (h : CB w0 w s view nv l hi L) : CB w0 w s view nv l w.heap.size L := ⟨h.bel, h.chn, h.s0, Nat.lt_of_lt_of_le h.s1 h.his, Nat.le_refl _, h.row.mono h.his, h.oth⟩
/-- behind an append to a row that lies from hi on -/
theorem CB.beside {row : Option Nat} (h : CB w0 w s view nv l hi L) (hg : w.grownBy w' row) (hr : ∀ g, row = some g → hi ≤ g) : CB w0 w' s view nv l hi L := by
  have hs0 := h.s0
  have hs1 := h.s1
  have blk : ∀ k, k < hi → w'.heap[k]? = w.heap[k]? := fun k hk => hg.block k (Nat.lt_of_lt_of_le hk h.his) (fun e => by have := hr k e.symm; omega)
  exact ⟨h.bel.grown hg h.bel.size (fun k e => by have := hr k e; omega), (blk s hs1).trans h.chn, hs0, hs1, Nat.le_trans h.his hg.size, h.row.keep (fun k _ hk => blk k hk), h.oth.keep (fun k _ _ _ hs _ _ => blk k (by omega))⟩
theorem CB.size (h : CB w0 w s view nv l hi L) : s < w.heap.size := by have := h.s1; have := h.his; omega
theorem CB.nods {A : Option Addr} {n c : Nat} (h : CB w0 w s view (.slice A n c) l hi L) : n = l.length ∧ Nods w 0 w.heap.size A n c l := by
  obtain ⟨e, hn⟩ := h.row.nods'
  exact ⟨e, hn.mono (Nat.zero_le _) h.his⟩
theorem Oth.set {g i : Nat} {u : Value} {cs : Array Value} {t : TypeId} (h : Oth w s L) (hg : w.heap[g]? = some (.cells cs t (0, 0))) (ht : s ≤ g ∨ t = 57 ∨ t = 72) : Oth (w.setCell ⟨g, i, none⟩ u) s L :=
  h.keep fun k ds t' hk hs h1 h2 => Below.heap_setCell _ _ _ _ (by
    rintro rfl
    have := blk_type hk hg
    subst this
    rcases ht with h | h | h
    · omega
    · exact h1 h
    · exact h2 h)
/-- the chain's view is written -/
theorem CB.setView (h : CB w0 w s view nv l hi L) (u : Int) : CB w0 (w.setCell ⟨s, 0, none⟩ (.int .i64 u)) s u nv l hi L := by
  have hc : w.heap[s]? = some (.cells #[.int .i64 view, nv] 33 (0, 0)) := h.chn
  exact ⟨h.bel.setCell (p := ⟨s, 0, none⟩) h.s0 _, h.chn.set 0 _, h.s0, h.s1, by simpa [World.setCell] using h.his,
    (h.row.keepT (fun k cs t hk ht => Below.heap_setCell _ _ _ _ (by
      rintro rfl
      have := blk_type hk hc
      rcases ht with rfl | rfl <;> exact absurd this (by decide)))), h.oth.set hc (.inl (Nat.le_refl _))⟩
/-- behind an append, before the row goes back: what is neither a row of nodes is as it was -/
theorem after_blk {w1 : World} {rs : List RN} {o : Obj} {lo hi : Nat} (hat : NodRowAt w lo hi nv l rs) (hg : (w.alloc o).grownBy w1 nv.ownBlock) {k : Nat} {cs : Array Value} {t : TypeId} (hk : w.heap[k]? = some (.cells cs t (0, 0))) (ht : t ≠ 57) : w1.heap[k]? = w.heap[k]? :=
  (hg.block k (by have := lt_of_block hk; simp; omega) (fun e => by
    obtain ⟨ds, hd⟩ := own_blk hat.1 e.symm
    exact ht (blk_type hk hd))).trans (Below.heap_alloc _ _ _ (lt_of_block hk))
theorem CB.chnAfter {w1 : World} {rs : List RN} {o : Obj} (h : CB w0 w s view nv l hi L) (hat : NodRowAt w w0.heap.size hi nv l rs) (hg : (w.alloc o).grownBy w1 nv.ownBlock) : Blk w1 s #[.int .i64 view, nv] 33 :=
  (after_blk hat hg h.chn (by decide)).trans h.chn
/-- a node behind the row: its log lies in a block of its own from hi on; the row goes back into the chain's block -/
theorem CB.appended {w1 : World} {nv' : Value} {x : Nod} {r : RN} {o : Obj} {rs : List RN} (h : CB w0 w s view nv l hi L) (hat : NodRowAt w w0.heap.size hi nv l rs) (hr : r.id = x.id ∧ r.done = x.done ∧ x.log.length = r.n)
    (hlog : w.ownsRow w0.heap.size 72 2 (.slice r.A r.n r.c) r.n (x.log.flatMap Upd.enc)) (hnew : ∀ g, (Value.slice r.A r.n r.c).ownBlock = some g → hi ≤ g)
    (ho' : w1.ownsRow w0.heap.size 57 3 nv' (l.length + 1) (rs.flatMap RN.enc ++ r.enc)) (hg : (w.alloc o).grownBy w1 nv.ownBlock) :
    CB w0 (w1.setCell ⟨s, 1, none⟩ nv') s view nv' (l ++ [x]) w1.heap.size L := by
  have hs := h.s0
  have hs1 := h.s1
  have hhi := h.his
  have hsz : w.heap.size ≤ w1.heap.size := Nat.le_trans (by simp) hg.size
  have hrow := hat.appended (hi' := w1.heap.size) hr hlog hnew (Nat.le_refl _) hhi ho' hg
  have hchn := h.chnAfter hat hg
  have hc : w1.heap[s]? = some (.cells #[.int .i64 view, nv] 33 (0, 0)) := hchn
  have hb1 : Below w0.heap.size w0 w1 := (h.bel.alloc h.bel.size o).grown hg (by have := h.bel.size; simp; omega) (fun k e => (hat.1.lt k e).1)
  exact ⟨hb1.setCell (p := ⟨s, 1, none⟩) hs _, hchn.set 1 _, hs, by omega, by simp [World.setCell],
    (hrow.keepT (fun k cs t hk ht => Below.heap_setCell _ _ _ _ (by
      rintro rfl
      have := blk_type hk hc
      rcases ht with rfl | rfl <;> exact absurd this (by decide)))), (h.oth.keep (fun k cs t hk _ h1 _ => after_blk hat hg hk h1)).set hc (.inl (Nat.le_refl _))⟩
/-- the row is another one: what it was made of is told by the row, what else is by its blocks -/
theorem CB.rowOf {w1 : World} {nv' : Value} {l' : List Nod} (h : CB w0 w s view nv l hi L) (hrow : NodRow w1 w0.heap.size w1.heap.size nv' l') (hb : Below w0.heap.size w0 w1) (hsz : w.heap.size ≤ w1.heap.size)
    (hc : ∀ (k : Nat) (cs : Array Value) (t : TypeId), w.heap[k]? = some (.cells cs t (0, 0)) → t ≠ 57 → w1.heap[k]? = w.heap[k]?) :
    CB w0 (w1.setCell ⟨s, 1, none⟩ nv') s view nv' l' w1.heap.size L := by
  have hs := h.s0
  have hs1 := h.s1
  have hhi := h.his
  have hc' : w1.heap[s]? = some (.cells #[.int .i64 view, nv] 33 (0, 0)) := (hc s _ _ h.chn (by decide)).trans h.chn
  have hchn : Blk w1 s #[.int .i64 view, nv] 33 := hc'
  exact ⟨hb.setCell (p := ⟨s, 1, none⟩) hs _, hchn.set 1 _, hs, by omega, by simp [World.setCell],
    (hrow.keepT (fun k cs t hk ht => Below.heap_setCell _ _ _ _ (by
      rintro rfl
      have := blk_type hk hc'
      rcases ht with rfl | rfl <;> exact absurd this (by decide)))), (h.oth.keep (fun k cs t hk _ h1 _ => hc k cs t hk h1)).set hc' (.inl (Nat.le_refl _))⟩
/-- one cell of the row of nodes is written -/
theorem CB.setNode {g n cc i j : Nat} {u : Value} {l' : List Nod} (h : CB w0 w s view (.slice (some ⟨g, 0, none⟩) n cc) l hi L) (hrow : NodRow (w.setCell ⟨g, i * 3 + j, none⟩ u) w0.heap.size hi (.slice (some ⟨g, 0, none⟩) n cc) l') :
    CB w0 (w.setCell ⟨g, i * 3 + j, none⟩ u) s view (.slice (some ⟨g, 0, none⟩) n cc) l' hi L := by
  obtain ⟨rs, ho, _⟩ := h.row
  obtain ⟨cs, hg⟩ := own_blk ho rfl
  have hlo := (ho.lt g rfl).1
  have off : s ≠ g := fun e => by subst e; exact absurd (blk_type h.chn hg) (by decide)
  exact ⟨h.bel.setCell (p := ⟨g, i * 3 + j, none⟩) hlo _, h.chn.far (a := ⟨g, i * 3 + j, none⟩) off _, h.s0, h.s1, by simpa [World.setCell] using h.his, hrow, h.oth.set hg (.inr (.inl rfl))⟩
theorem CB.setDone {g n cc i : Nat} {x : Nod} (h : CB w0 w s view (.slice (some ⟨g, 0, none⟩) n cc) l hi L) (hx : l[i]? = some x) (d : Int) :
    CB w0 (w.setCell ⟨g, i * 3 + 2, none⟩ (.int .i64 d)) s view (.slice (some ⟨g, 0, none⟩) n cc) (l.set i { x with done := d }) hi L := h.setNode (h.row.setDone hx d)
/-- one of the other blocks -/
theorem CB.blk (h : CB w0 w s view nv l hi L) {b : Nat} {cs : Array Value} {t : TypeId} (hm : (b, cs, t) ∈ L) : Blk w b cs t := (h.oth _ hm).1
/-- the chain's two cells are laid into a block of the call's own that is neither a row of nodes nor a log -/
theorem CB.out {b : Nat} {u v : Value} {cs : Array Value} (h : CB w0 w s view nv l hi L) (hb : Blk w b cs 33) (h0 : w0.heap.size ≤ b) :
    NodRow ((w.setCell ⟨b, 0, none⟩ u).setCell ⟨b, 1, none⟩ v) w0.heap.size ((w.setCell ⟨b, 0, none⟩ u).setCell ⟨b, 1, none⟩ v).heap.size nv l ∧ Below w0.heap.size w0 ((w.setCell ⟨b, 0, none⟩ u).setCell ⟨b, 1, none⟩ v) := by
  have hb' : w.heap[b]? = some (.cells cs 33 (0, 0)) := hb
  refine ⟨(h.row.keepT (fun k ds t hk ht => ?_)).mono (by simpa [World.setCell] using h.his), (h.bel.setCell (p := ⟨b, 0, none⟩) h0 _).setCell (p := ⟨b, 1, none⟩) h0 _⟩
  have hne : k ≠ b := by
    rintro rfl
    have := blk_type hk hb'
    rcases ht with rfl | rfl <;> exact absurd this (by decide)
  rw [Below.heap_setCell _ _ _ _ hne, Below.heap_setCell _ _ _ _ hne]
end
/-- what a chain and a bool leave: the chain in new memory, or none -/
def ChainRes (w : World) (o : Option (Int × List Nod)) (e : Ending) (w' : World) : Prop :=
  ∃ (view : Int) (A : Option Addr) (n c : Nat) (l : List Nod), (view, l) = o.getD (0, []) ∧ e = .returned (.tuple #[.agg #[.int .i64 view, .slice A n c], .bool o.isSome]) ∧ l.length = n ∧ NodRow w' w.heap.size w'.heap.size (.slice A n c) l ∧ Below w.heap.size w w'
theorem ChainRes.none_ {w w1 : World} (hb : Below w.heap.size w w1) : ChainRes w none (.returned (.tuple #[.agg #[.int .i64 0, .slice none 0 0], .bool false])) w1 :=
  ⟨0, none, 0, 0, [], rfl, rfl, rfl, NodRow.nil_ _ _ _, hb⟩
/-- a node in new memory -/
def NodeMade (w : World) (x : Nod) (e : Ending) (w' : World) : Prop :=
  ∃ A m c, e = .returned (.agg #[.int .i64 x.id, .slice A m c, .int .i64 x.done]) ∧ x.log.length = m ∧ w'.ownsRow w.heap.size 72 2 (.slice A m c) m (x.log.flatMap Upd.enc) ∧ Below w.heap.size w w'
end Go.Proofs.Ytnbakpdphfdacaa
