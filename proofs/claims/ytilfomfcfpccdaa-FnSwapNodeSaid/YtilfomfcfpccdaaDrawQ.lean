/- Drawing chains: the state of a draw under way, and what each step does to it. -/
import Derived.Test.YtilfomfcfpccdaaRowSet
import Derived.Test.YtilfomfcfpccdaaDrawO
namespace Go.Proofs.Ytilfomfcfpccdaa
open Go.RowKit

/-- a draw of a chain under way: the reader, the result's block, the chain's block s, the log from which the nodes' logs are cut, the row of nodes; all of it below block hi -/
structure DC (w0 w : World) (rb B p s : Nat) (view : Int) (A : Option Addr) (m c : Nat) (lg : List Upd) (nv : Value) (l : List Nod) (hi : Nat) : Prop where
  rd : Rd w rb B p
  rb0 : rb < w0.heap.size
  grown : w0.grownBy w (some rb)
  res : Blk w w0.heap.size #[.int .i64 0, .slice none 0 0] 25
  chn : Blk w s #[.int .i64 view, nv] 25
  s0 : w0.heap.size < s
  s1 : s < hi
  his : hi ≤ w.heap.size
  log : w.ownsRow w0.heap.size 79 2 (.slice A m c) m (lg.flatMap Upd.enc)
  logh : ∀ g, (Value.slice A m c).ownBlock = some g → g < hi
  row : NodRow w w0.heap.size hi nv l
section
variable {w0 w w' : World} {rb B p p' s : Nat} {view : Int} {A : Option Addr} {m c : Nat} {lg : List Upd} {nv : Value} {l : List Nod} {hi : Nat}
theorem rd_block {w : World} {rb B p : Nat} (h : Rd w rb B p) : ∃ cs, w.heap[rb]? = some (.cells cs 93 (0, 0)) := by obtain ⟨_, A, n, c, l, hg, _⟩ := h; exact ⟨_, hg⟩
/-- everything below hi but the reader's block is as it was -/
theorem DC.go (h : DC w0 w rb B p s view A m c lg nv l hi) (hr : Rd w' rb B p') (hg : w0.grownBy w' (some rb)) (hsz : w.heap.size ≤ w'.heap.size) (hk : ∀ k, k < hi → k ≠ rb → w'.heap[k]? = w.heap[k]?) : DC w0 w' rb B p' s view A m c lg nv l hi := by
  have hrb := h.rb0
  have hs0 := h.s0
  have hs1 := h.s1
  exact ⟨hr, h.rb0, hg, (hk _ (by omega) (by omega)).trans h.res, (hk _ hs1 (by omega)).trans h.chn, h.s0, h.s1, Nat.le_trans h.his hsz,
    own_keep h.log (fun g e => hk g (h.logh g e) (by have := (h.log.lt g e).1; omega)), h.logh,
    h.row.keep (fun k h1 h2 => hk k h2 (by omega))⟩
theorem DC.picked (h : DC w0 w rb B p s view A m c lg nv l hi) (hr : Rd w' rb B p') (hg : w.grownBy w' (some rb)) : DC w0 w' rb B p' s view A m c lg nv l hi :=
  h.go hr (only_trans h.grown hg) hg.size (fun k hk hne => hg.block k (Nat.lt_of_lt_of_le hk h.his) (fun e => hne (by injection e)))
theorem DC.below (h : DC w0 w rb B p s view A m c lg nv l hi) (hb : Below w.heap.size w w') : DC w0 w' rb B p s view A m c lg nv l hi :=
  h.go (h.rd.below hb) (only_trans h.grown (only_of_below hb)) hb.size (fun k hk _ => hb.block k (Nat.lt_of_lt_of_le hk h.his))
/-- behind an append to a row that lies from hi on -/
theorem DC.beside {row : Option Nat} (h : DC w0 w rb B p s view A m c lg nv l hi) (hg : w.grownBy w' row) (hr : ∀ g, row = some g → hi ≤ g) : DC w0 w' rb B p s view A m c lg nv l hi := by
  have hs1 := h.s1
  have hs0 := h.s0
  have hrb := h.rb0
  have blk : ∀ k, k < hi → w'.heap[k]? = w.heap[k]? := fun k hk => hg.block k (Nat.lt_of_lt_of_le hk h.his) (fun e => by have := hr k e.symm; omega)
  exact h.go (h.rd.keep (fun k hk => blk k (by omega))) ⟨hg.os.trans h.grown.os, hg.tape.trans h.grown.tape, hg.output.trans h.grown.output, Nat.le_trans h.grown.size hg.size, fun k hk hn => (blk k (by omega)).trans (h.grown.block k hk hn)⟩ hg.size (fun k hk _ => blk k hk)
theorem DC.alloc (h : DC w0 w rb B p s view A m c lg nv l hi) (o : Obj) : DC w0 (w.alloc o) rb B p s view A m c lg nv l hi := h.below ((Below.refl _ _).alloc (Nat.le_refl _) _)
theorem DC.drew (h : DC w0 w rb B p s view A m c lg nv l hi) : DC w0 w.drew rb B p s view A m c lg nv l hi := h.below (Below.refl _ _).drew
theorem DC.raise (h : DC w0 w rb B p s view A m c lg nv l hi) : DC w0 w rb B p s view A m c lg nv l w.heap.size :=
  ⟨h.rd, h.rb0, h.grown, h.res, h.chn, h.s0, Nat.lt_of_lt_of_le h.s1 h.his, Nat.le_refl _, h.log, fun g e => Nat.lt_of_lt_of_le (h.logh g e) h.his, h.row.mono h.his⟩
/-- the log, read as the source of an append -/
theorem DC.src (h : DC w0 w rb B p s view A m c lg nv l hi) (hm : lg.length = m) {k : Nat} (hk : k ≤ m) : Src w 2 A k ((lg.take k).flatMap Upd.enc) :=
  flat_src Upd.len (by omega) ((own_flat' Upd.len h.log hm).take_ hk)
/-- the chain's view is written -/
theorem DC.setView (h : DC w0 w rb B p s view A m c lg nv l hi) (u : Int) : DC w0 (w.setCell ⟨s, 0, none⟩ (.int .i64 u)) rb B p s u A m c lg nv l hi := by
  have hs := h.s0
  have hrb := h.rb0
  have hc : w.heap[s]? = some (.cells #[.int .i64 view, nv] 25 (0, 0)) := h.chn
  exact ⟨h.rd.far (a := ⟨s, 0, none⟩) (by show rb < s; omega) _, h.rb0, only_set h.grown (a := ⟨s, 0, none⟩) (Nat.le_of_lt hs) _, h.res.far (a := ⟨s, 0, none⟩) (by show w0.heap.size ≠ s; omega) _, h.chn.set 0 _, hs, h.s1, by simpa [World.setCell] using h.his,
    own_keep h.log (fun g e => Below.heap_setCell _ _ _ _ (by
      rintro rfl
      obtain ⟨cs, hb⟩ := own_blk h.log e
      exact absurd (blk_type hb hc) (by decide))), h.logh,
    (h.row.keepT (fun k cs t hk ht => Below.heap_setCell _ _ _ _ (by
      rintro rfl
      have := blk_type hk hc
      rcases ht with rfl | rfl <;> exact absurd this (by decide))))⟩
/-- a node behind the row: its log lies in a block of its own from hi on; the row goes back into the chain's block -/
theorem DC.appended {w1 : World} {nv' : Value} {x : Nod} {r : RN} {o : Obj} {rs : List RN} (h : DC w0 w rb B p s view A m c lg nv l hi) (hat : NodRowAt w w0.heap.size hi nv l rs) (hr : r.id = x.id ∧ r.done = x.done ∧ x.log.length = r.n)
    (hlog : w.ownsRow w0.heap.size 79 2 (.slice r.A r.n r.c) r.n (x.log.flatMap Upd.enc)) (hnew : ∀ g, (Value.slice r.A r.n r.c).ownBlock = some g → hi ≤ g)
    (ho' : w1.ownsRow w0.heap.size 33 3 nv' (l.length + 1) (rs.flatMap RN.enc ++ r.enc)) (hg : (w.alloc o).grownBy w1 nv.ownBlock) :
    DC w0 (w1.setCell ⟨s, 1, none⟩ nv') rb B p s view A m c lg nv' (l ++ [x]) w1.heap.size := by
  have hs := h.s0
  have hs1 := h.s1
  have hhi := h.his
  have hrb := h.rb0
  have hsz : w.heap.size ≤ w1.heap.size := Nat.le_trans (by simp) hg.size
  have hrow := hat.appended (hi' := w1.heap.size) hr hlog hnew (Nat.le_refl _) hhi ho' hg
  have blk : ∀ (k : Nat) (cs : Array Value) (t : TypeId), w.heap[k]? = some (.cells cs t (0, 0)) → t ≠ 33 → w1.heap[k]? = w.heap[k]? := fun k cs t hk ht =>
    (hg.block k (by have := lt_of_block hk; simp; omega) (fun e => by
      obtain ⟨ds, hd⟩ := own_blk hat.1 e.symm
      exact ht (blk_type hk hd))).trans (Below.heap_alloc _ _ _ (lt_of_block hk))
  have low : ∀ k, k < w0.heap.size → w1.heap[k]? = w.heap[k]? := fun k hk =>
    (hg.block k (by have := h.grown.size; simp; omega) (fun e => by have := (hat.1.lt k e.symm).1; omega)).trans (Below.heap_alloc _ _ _ (by have := h.grown.size; omega))
  have hc : w1.heap[s]? = some (.cells #[.int .i64 view, nv] 25 (0, 0)) := (blk s _ _ h.chn (by decide)).trans h.chn
  have hres : Blk w1 w0.heap.size #[.int .i64 0, .slice none 0 0] 25 := (blk _ _ _ h.res (by decide)).trans h.res
  have hchn : Blk w1 s #[.int .i64 view, nv] 25 := hc
  have hrd : Rd w1 rb B p := h.rd.keep (fun k hk => low k (by omega))
  have hlg : w1.ownsRow w0.heap.size 79 2 (.slice A m c) m (lg.flatMap Upd.enc) := own_keep h.log (fun g e => by obtain ⟨cs, hk⟩ := own_blk h.log e; exact blk g _ _ hk (by decide))
  have hgr : w0.grownBy w1 (some rb) := ⟨hg.os.trans h.grown.os, hg.tape.trans h.grown.tape, hg.output.trans h.grown.output, Nat.le_trans h.grown.size hsz, fun k hk hn => (low k hk).trans (h.grown.block k hk hn)⟩
  exact ⟨hrd.far (a := ⟨s, 1, none⟩) (by show rb < s; omega) _, h.rb0, only_set hgr (a := ⟨s, 1, none⟩) (Nat.le_of_lt hs) _, hres.far (a := ⟨s, 1, none⟩) (by show w0.heap.size ≠ s; omega) _, hchn.set 1 _, hs, by omega, by simp [World.setCell],
    own_keep hlg (fun g e => Below.heap_setCell _ _ _ _ (by
      rintro rfl
      obtain ⟨cs, hk⟩ := own_blk hlg e
      exact absurd (blk_type hk hc) (by decide))), fun g e => by have := h.logh g e; omega,
    (hrow.keepT (fun k cs t hk ht => Below.heap_setCell _ _ _ _ (by
      rintro rfl
      have := blk_type hk hc
      rcases ht with rfl | rfl <;> exact absurd this (by decide))))⟩
/-- one cell of the row of nodes is written -/
theorem DC.setNode {g n cc i j : Nat} {u : Value} {l' : List Nod} (h : DC w0 w rb B p s view A m c lg (.slice (some ⟨g, 0, none⟩) n cc) l hi) (hrow : NodRow (w.setCell ⟨g, i * 3 + j, none⟩ u) w0.heap.size hi (.slice (some ⟨g, 0, none⟩) n cc) l') :
    DC w0 (w.setCell ⟨g, i * 3 + j, none⟩ u) rb B p s view A m c lg (.slice (some ⟨g, 0, none⟩) n cc) l' hi := by
  have hs := h.s0
  have hrb := h.rb0
  obtain ⟨rs, ho, _⟩ := h.row
  obtain ⟨cs, hg⟩ := own_blk ho rfl
  have hlo := (ho.lt g rfl).1
  have off : ∀ {k : Nat} {ds : Array Value} {t : TypeId}, w.heap[k]? = some (.cells ds t (0, 0)) → t ≠ 33 → k ≠ g := fun hk ht e => by subst e; exact ht (blk_type hk hg)
  refine ⟨h.rd.far (a := ⟨g, i * 3 + j, none⟩) (by show rb < g; omega) _, h.rb0, only_set h.grown (a := ⟨g, i * 3 + j, none⟩) hlo _, h.res.far (a := ⟨g, i * 3 + j, none⟩) (off h.res (by decide)) _, h.chn.far (a := ⟨g, i * 3 + j, none⟩) (off h.chn (by decide)) _, hs, h.s1, by simpa [World.setCell] using h.his,
    own_keep h.log (fun q e => Below.heap_setCell _ _ _ _ ?_), h.logh, hrow⟩
  obtain ⟨ds, hk⟩ := own_blk h.log e
  exact off hk (by decide)
/-- the draw is done: the chain's two cells go into the result's block -/
theorem DC.done (h : DC w0 w rb B p s view A m c lg nv l hi) (a b : Value) : Rd ((w.setCell ⟨w0.heap.size, 0, none⟩ a).setCell ⟨w0.heap.size, 1, none⟩ b) rb B p ∧
    NodRow ((w.setCell ⟨w0.heap.size, 0, none⟩ a).setCell ⟨w0.heap.size, 1, none⟩ b) w0.heap.size ((w.setCell ⟨w0.heap.size, 0, none⟩ a).setCell ⟨w0.heap.size, 1, none⟩ b).heap.size nv l ∧
    w0.grownBy ((w.setCell ⟨w0.heap.size, 0, none⟩ a).setCell ⟨w0.heap.size, 1, none⟩ b) (some rb) := by
  have hrb := h.rb0
  have hc : w.heap[w0.heap.size]? = some (.cells #[.int .i64 0, .slice none 0 0] 25 (0, 0)) := h.res
  refine ⟨(h.rd.far (a := ⟨w0.heap.size, 0, none⟩) hrb _).far (a := ⟨w0.heap.size, 1, none⟩) hrb _, (h.row.keepT (fun k cs t hk ht => ?_)).mono (by simpa [World.setCell] using h.his), only_set (only_set h.grown (a := ⟨w0.heap.size, 0, none⟩) (Nat.le_refl _) _) (a := ⟨w0.heap.size, 1, none⟩) (Nat.le_refl _) _⟩
  have hne : k ≠ w0.heap.size := by
    rintro rfl
    have := blk_type hk hc
    rcases ht with rfl | rfl <;> exact absurd this (by decide)
  rw [Below.heap_setCell _ _ _ _ hne, Below.heap_setCell _ _ _ _ hne]
end
/-- what drawing a chain leaves -/
def DrewChain (w : World) (rb B p : Nat) (e : Ending) (w' : World) : Prop :=
  ∃ (view : Int) (A : Option Addr) (n c p' : Nat) (l : List Nod), e = .returned (.agg #[.int .i64 view, .slice A n c]) ∧ l.length = n ∧ 1 ≤ n ∧ n ≤ 5 ∧ (∀ x ∈ l, x.log.length ≤ 13) ∧ p' ≤ p + 160 ∧ Rd w' rb B p' ∧
    NodRow w' w.heap.size w'.heap.size (.slice A n c) l ∧ w.grownBy w' (some rb)
end Go.Proofs.Ytilfomfcfpccdaa
