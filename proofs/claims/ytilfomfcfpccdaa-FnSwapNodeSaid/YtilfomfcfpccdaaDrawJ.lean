/- Drawing out of bytes: a chain and the id of a node to lose; a chain and the id of a new node. -/
import Derived.Test.YtilfomfcfpccdaaDrawL
namespace Go.Proofs.Ytilfomfcfpccdaa
open Go.RowKit

theorem Rd.keepB {w w' : World} {rb B p : Nat} (h : Rd w rb B p) (hk : ∀ k, k < B ∨ k = rb → w'.heap[k]? = w.heap[k]?) : Rd w' rb B p := by
  obtain ⟨hB, A, n, c, l, hg, hf, hb, hn⟩ := h
  exact ⟨hB, A, n, c, l, (hk rb (.inr rfl)).trans hg, hf.keep (fun k _ h2 => hk k (.inl h2)), hb, hn⟩
/-- what opening a code whose bytes lie below B leaves -/
def OpenedLow (w : World) (B : Nat) (e : Ending) (w' : World) : Prop :=
  ∃ rb, e = .returned (.pointer (some ⟨rb, 0, none⟩)) ∧ w.heap.size ≤ rb ∧ Rd w' rb B 0 ∧ Below w.heap.size w w'
set_option maxHeartbeats 1000000 in
theorem openLow_any (A : Option Addr) (n c B : Nat) (l : List Int) (w : World) (h : Flat encU8 1 w 0 B A n c l) (hB : B ≤ w.heap.size) (hl : ∀ x ∈ l, 0 ≤ x ∧ x ≤ 255) :
    Calls Try.prog 47 #[.slice A n c] w (OpenedLow w B) := by
  have hnc := h.2.1
  have hc : c ≤ 9223372036854775807 := by have := h.2.2.1; unfold maxLen at *; omega
  have H := Lib.hid h
  have HL := Lib.hid hl
  clear h hl
  by_cases hn : n ≤ 2000
  · go_enter Try.func47, Try.ntmps47
    go_wp2
    go_ret
    refine ⟨w.heap.size, rfl, Nat.le_refl _, ⟨hB, A, n, c, l, heap_alloc_new _ _, H.out.below ((Below.refl _ _).alloc (Nat.le_refl _) _) hB, HL.out, hn⟩, (Below.refl _ _).alloc (Nat.le_refl _) _⟩
  · go_enter Try.func47, Try.ntmps47
    go_wp2
    go_ret
    refine ⟨w.heap.size, rfl, Nat.le_refl _, ⟨hB, A, 2000, c, l.take 2000, heap_alloc_new _ _, (H.out.take_ (by omega)).below ((Below.refl _ _).alloc (Nat.le_refl _) _) hB, fun x hx => HL.out x (List.mem_of_mem_take hx), Nat.le_refl _⟩, (Below.refl _ _).alloc (Nat.le_refl _) _⟩

/-- a draw of a chain and more under way: the result's block is the first new one (its cells cs), the reader behind it, the chain's block s, the row of nodes below hi -/
structure DJ (w0 w : World) (rb p s : Nat) (cs : Array Value) (view : Int) (nv : Value) (l : List Nod) (hi : Nat) : Prop where
  rd : Rd w rb w0.heap.size p
  bel : Below w0.heap.size w0 w
  res : Blk w w0.heap.size cs 25
  rb0 : w0.heap.size < rb
  chn : Blk w s #[.int .i64 view, nv] 25
  s0 : w0.heap.size < s
  his : hi ≤ w.heap.size
  row : NodRow w w0.heap.size hi nv l
section
variable {w0 w w' : World} {rb p p' s : Nat} {cs : Array Value} {view : Int} {nv : Value} {l : List Nod} {hi : Nat}
theorem DJ.picked (h : DJ w0 w rb p s cs view nv l hi) (hr : Rd w' rb w0.heap.size p') (hg : w.grownBy w' (some rb)) : DJ w0 w' rb p' s cs view nv l hi := by
  have hrb := h.rb0
  obtain ⟨ds, hd⟩ := rd_block h.rd
  have hsr : s ≠ rb := by rintro rfl; exact absurd (blk_type h.chn hd) (by decide)
  exact ⟨hr, h.bel.grown hg h.bel.size (fun k e => by cases e; omega), h.res.pick hg (by omega), hrb, h.chn.pick hg hsr, h.s0, Nat.le_trans h.his hg.size,
    h.row.keepT (fun k cs t hk ht => hg.block k (lt_of_block hk) (fun e => by
      injection e with e; subst e
      have := blk_type hk hd
      rcases ht with rfl | rfl <;> exact absurd this (by decide)))⟩
theorem DJ.drew (h : DJ w0 w rb p s cs view nv l hi) : DJ w0 w.drew rb p s cs view nv l hi :=
  ⟨h.rd.keep (fun _ _ => rfl), h.bel.drew, h.res, h.rb0, h.chn, h.s0, h.his, h.row.keep (fun _ _ _ => rfl)⟩
theorem DJ.store {a b u v : Value} (h : DJ w0 w rb p s #[a, b] view nv l hi) : DJ w0 ((w.setCell ⟨w0.heap.size, 0, none⟩ u).setCell ⟨w0.heap.size, 1, none⟩ v) rb p s #[u, v] view nv l hi := by
  have hrb := h.rb0
  have hs0 := h.s0
  have hc : w.heap[w0.heap.size]? = some (.cells #[a, b] 25 (0, 0)) := h.res
  have off : ∀ k, k ≠ w0.heap.size → ((w.setCell ⟨w0.heap.size, 0, none⟩ u).setCell ⟨w0.heap.size, 1, none⟩ v).heap[k]? = w.heap[k]? := fun k hk => by rw [Below.heap_setCell _ _ _ _ hk, Below.heap_setCell _ _ _ _ hk]
  exact ⟨h.rd.keepB (fun k hk => off k (by omega)), (h.bel.setCell (p := ⟨w0.heap.size, 0, none⟩) (Nat.le_refl _) _).setCell (p := ⟨w0.heap.size, 1, none⟩) (Nat.le_refl _) _, (h.res.set 0 u).set 1 v, hrb, (off s (by omega)).trans h.chn, hs0, by simpa [World.setCell] using h.his,
    h.row.keepT (fun k cs t hk ht => off k (by
      rintro rfl
      have := blk_type hk hc
      rcases ht with rfl | rfl <;> exact absurd this (by decide)))⟩
theorem DJ.post (h : DJ w0 w rb p s cs view nv l hi) : NodRow w w0.heap.size w.heap.size nv l ∧ Below w0.heap.size w0 w := ⟨h.row.mono h.his, h.bel⟩
/-- opened, and a chain drawn by l91Id -/
theorem DJ.start {w1 w2 : World} {n c : Nat} {A : Option Addr} (hb : Below (w0.heap.size + 1) (w0.alloc (.cells #[.int .i64 0, .slice none 0 0] 25)) w1) (hrb : w0.heap.size + 1 ≤ rb) (hr : Rd w2 rb w0.heap.size p) (hg : w1.grownBy w2 (some rb))
    (hrow : NodRow w2 w1.heap.size w2.heap.size (.slice A n c) l) : DJ w0 (w2.alloc (.cells #[.int .i64 view, .slice A n c] 25)) rb p w2.heap.size #[.int .i64 0, .slice none 0 0] view (.slice A n c) l w2.heap.size := by
  have hs := hb.size
  simp only [World.size_alloc] at hs
  have hb' : Below (w0.alloc (.cells #[.int .i64 0, .slice none 0 0] 25)).heap.size (w0.alloc (.cells #[.int .i64 0, .slice none 0 0] 25)) w1 := by rw [World.size_alloc]; exact hb
  have hB : Below w0.heap.size w0 w1 := below_box hb'
  have hgs := hg.size
  have k1 : Blk w1 w0.heap.size #[.int .i64 0, .slice none 0 0] 25 := (Blk.new w0 _ _).below hb'
  have hB2 : Below w0.heap.size w0 w2 := hB.grown hg (by omega) (fun k e => by cases e; omega)
  exact ⟨hr.below ((Below.refl _ _).alloc (Nat.le_refl _) _), hB2.alloc (by omega) _, (k1.pick hg (by omega)).alloc _, by omega, Blk.new w2 _ _, by omega, by simp, (hrow.lower (by omega)).keep (fun _ _ h => Below.heap_alloc _ _ _ h)⟩
end

end Go.Proofs.Ytilfomfcfpccdaa
