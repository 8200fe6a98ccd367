/- The texts DrawJ DrawRA, joined. -/
import Derived.Deep.RegionLaw
import Derived.Test.YtcomppiglhibkaaE1
/- Drawing out of bytes: a chain and the id of a node to lose; a chain and the id of a new node. -/
namespace Go.Proofs.Ytcomppiglhibkaa
open Go.RowKit

theorem Rd.keepB {w w' : World} {rb B p : Nat} (h : Rd w rb B p) (hk : ∀ k, k < B ∨ k = rb → w'.heap[k]? = w.heap[k]?) : Rd w' rb B p := by
  obtain ⟨hB, A, n, c, l, hg, hf, hb, hn⟩ := h
  exact ⟨hB, A, n, c, l, (hk rb (.inr rfl)).trans hg, hf.keep (fun k _ h2 => hk k (.inl h2)), hb, hn⟩
/-- what opening a code whose bytes lie below B leaves -/
def OpenedLow (w : World) (B : Nat) (e : Ending) (w' : World) : Prop :=
  ∃ rb, e = .returned (.pointer (some ⟨rb, 0, none⟩)) ∧ w.heap.size ≤ rb ∧ Rd w' rb B 0 ∧ Below w.heap.size w w'
set_option maxHeartbeats 1000000 in
theorem openLow_any (A : Option Addr) (n c B : Nat) (l : List Int) (w : World) (h : Flat encU8 1 w 0 B A n c l) (hB : B ≤ w.heap.size) (hl : ∀ x ∈ l, 0 ≤ x ∧ x ≤ 255) :
    Calls Mo.prog 28 #[.slice A n c] w (OpenedLow w B) := by
  have hnc := h.2.1
  have hc : c ≤ 9223372036854775807 := by have := h.2.2.1; unfold maxLen at *; omega
  have H := Lib.hid h
  have HL := Lib.hid hl
  clear h hl
  by_cases hn : n ≤ 2000
  · go_enter Mo.func28, Try.ntmps28
    go_wp2
    go_ret
    refine ⟨w.heap.size, rfl, Nat.le_refl _, ⟨hB, A, n, c, l, heap_alloc_new _ _, H.out.below ((Below.refl _ _).alloc (Nat.le_refl _) _) hB, HL.out, hn⟩, (Below.refl _ _).alloc (Nat.le_refl _) _⟩
  · go_enter Mo.func28, Try.ntmps28
    go_wp2
    go_ret
    refine ⟨w.heap.size, rfl, Nat.le_refl _, ⟨hB, A, 2000, c, l.take 2000, heap_alloc_new _ _, (H.out.take_ (by omega)).below ((Below.refl _ _).alloc (Nat.le_refl _) _) hB, fun x hx => HL.out x (List.mem_of_mem_take hx), Nat.le_refl _⟩, (Below.refl _ _).alloc (Nat.le_refl _) _⟩

/-- a draw of a chain and more under way: the result's block is the first new one (its cells cs), the reader behind it, the chain's block s, the row of nodes below hi -/
structure DJ (w0 w : World) (rb p s : Nat) (cs : Array Value) (view : Int) (nv : Value) (l : List Nod) (hi : Nat) : Prop where
  rd : Rd w rb w0.heap.size p
  bel : Below w0.heap.size w0 w
  res : Blk w w0.heap.size cs 25
  rb0 : w0.heap.size < rb
  chn : Blk w s #[.int .i64 view, nv] 25
  s0 : w0.heap.size < s
  his : hi ≤ w.heap.size
  row : NodRow w w0.heap.size hi nv l
section
variable {w0 w w' : World} {rb p p' s : Nat} {cs : Array Value} {view : Int} {nv : Value} {l : List Nod} {hi : Nat}
theorem DJ.picked (h : DJ w0 w rb p s cs view nv l hi) (hr : Rd w' rb w0.heap.size p') (hg : w.grownBy w' (some rb)) : DJ w0 w' rb p' s cs view nv l hi := by
  have hrb := h.rb0
  obtain ⟨ds, hd⟩ := rd_block h.rd
  have hsr : s ≠ rb := by rintro rfl; exact absurd (blk_type h.chn hd) (by decide)
  exact ⟨hr, h.bel.grown hg h.bel.size (fun k e => by cases e; omega), h.res.pick hg (by omega), hrb, h.chn.pick hg hsr, h.s0, Nat.le_trans h.his hg.size,
    h.row.keepT (fun k cs t hk ht => hg.block k (lt_of_block hk) (fun e => by
      injection e with e; subst e
      have := blk_type hk hd
      rcases ht with rfl | rfl <;> exact absurd this (by decide)))⟩
theorem DJ.drew (h : DJ w0 w rb p s cs view nv l hi) : DJ w0 w.drew rb p s cs view nv l hi :=
  ⟨h.rd.keep (fun _ _ => rfl), h.bel.drew, h.res, h.rb0, h.chn, h.s0, h.his, h.row.keep (fun _ _ _ => rfl)⟩
theorem DJ.store {a b u v : Value} (h : DJ w0 w rb p s #[a, b] view nv l hi) : DJ w0 ((w.setCell ⟨w0.heap.size, 0, none⟩ u).setCell ⟨w0.heap.size, 1, none⟩ v) rb p s #[u, v] view nv l hi := by
  have hrb := h.rb0
  have hs0 := h.s0
  have hc : w.heap[w0.heap.size]? = some (.cells #[a, b] 25 (0, 0)) := h.res
  have off : ∀ k, k ≠ w0.heap.size → ((w.setCell ⟨w0.heap.size, 0, none⟩ u).setCell ⟨w0.heap.size, 1, none⟩ v).heap[k]? = w.heap[k]? := fun k hk => by rw [Below.heap_setCell _ _ _ _ hk, Below.heap_setCell _ _ _ _ hk]
  exact ⟨h.rd.keepB (fun k hk => off k (by omega)), (h.bel.setCell (p := ⟨w0.heap.size, 0, none⟩) (Nat.le_refl _) _).setCell (p := ⟨w0.heap.size, 1, none⟩) (Nat.le_refl _) _, (h.res.set 0 u).set 1 v, hrb, (off s (by omega)).trans h.chn, hs0, by simpa [World.setCell] using h.his,
    h.row.keepT (fun k cs t hk ht => off k (by
      rintro rfl
      have := blk_type hk hc
      rcases ht with rfl | rfl <;> exact absurd this (by decide)))⟩
theorem DJ.post (h : DJ w0 w rb p s cs view nv l hi) : NodRow w w0.heap.size w.heap.size nv l ∧ Below w0.heap.size w0 w := ⟨h.row.mono h.his, h.bel⟩
/-- opened, and a chain drawn by l91Id -/
theorem DJ.start {w1 w2 : World} {n c : Nat} {A : Option Addr} (hb : Below (w0.heap.size + 1) (w0.alloc (.cells #[.int .i64 0, .slice none 0 0] 25)) w1) (hrb : w0.heap.size + 1 ≤ rb) (hr : Rd w2 rb w0.heap.size p) (hg : w1.grownBy w2 (some rb))
    (hrow : NodRow w2 w1.heap.size w2.heap.size (.slice A n c) l) : DJ w0 (w2.alloc (.cells #[.int .i64 view, .slice A n c] 25)) rb p w2.heap.size #[.int .i64 0, .slice none 0 0] view (.slice A n c) l w2.heap.size := by
  have hs := hb.size
  simp only [World.size_alloc] at hs
  have hb' : Below (w0.alloc (.cells #[.int .i64 0, .slice none 0 0] 25)).heap.size (w0.alloc (.cells #[.int .i64 0, .slice none 0 0] 25)) w1 := by rw [World.size_alloc]; exact hb
  have hB : Below w0.heap.size w0 w1 := below_box hb'
  have hgs := hg.size
  have k1 : Blk w1 w0.heap.size #[.int .i64 0, .slice none 0 0] 25 := (Blk.new w0 _ _).below hb'
  have hB2 : Below w0.heap.size w0 w2 := hB.grown hg (by omega) (fun k e => by cases e; omega)
  exact ⟨hr.below ((Below.refl _ _).alloc (Nat.le_refl _) _), hB2.alloc (by omega) _, (k1.pick hg (by omega)).alloc _, by omega, Blk.new w2 _ _, by omega, by simp, (hrow.lower (by omega)).keep (fun _ _ h => Below.heap_alloc _ _ _ h)⟩
end

end Go.Proofs.Ytcomppiglhibkaa
/- Drawing out of bytes: a chain, an id and a key. -/
namespace Go.Proofs.Ytcomppiglhibkaa
open Go.RowKit

/-- what drawing a chain and two numbers out of bytes leaves -/
def DrawnChainTwo (w : World) (e : Ending) (w' : World) : Prop :=
  ∃ (view : Int) (A : Option Addr) (n c : Nat) (l : List Nod) (id key : Int), e = .returned (.tuple #[.agg #[.int .i64 view, .slice A n c], .int .i64 id, .int .i64 key]) ∧ l.length = n ∧ 1 ≤ n ∧ n ≤ 5 ∧ (∀ x ∈ l, x.log.length ≤ 13) ∧ NodRow w' w.heap.size w'.heap.size (.slice A n c) l ∧ Below w.heap.size w w'

set_option maxHeartbeats 4000000 in
theorem drawChainReadAt_any (A : Option Addr) (n c : Nat) (l : List Int) (w : World) (h : Flat encU8 1 w 0 w.heap.size A n c l) (hl : ∀ x ∈ l, 0 ≤ x ∧ x ≤ 255) :
    Calls Mo.prog 18 #[.slice A n c] w (DrawnChainTwo w) := by
  have H := Lib.hid (h.below ((Below.refl w.heap.size w).alloc (Nat.le_refl _) (.cells #[.int .i64 0, .slice none 0 0] 25)) (Nat.le_refl _))
  have HL := Lib.hid hl
  clear h hl
  go_enter Mo.func18, Try.ntmps18
  go_wp2_with fail
  refine (openLow_any _ _ _ w.heap.size l _ H.out (by simp) HL.out).mono ?_
  rintro e w1 ⟨rb, rfl, hrb, hr1, hb1⟩
  simp only [World.size_alloc] at hrb hb1
  have R1 := Lib.hid hr1
  have B1 := Lib.hid hb1
  clear hr1 hb1 H
  go_wp2_with fail
  refine (l91Id_any rb _ _ _ R1.out (by omega)).mono ?_
  rintro e w2 ⟨view, A', n', c', p', l', id, rfl, h1, h2, h3, h4, hp, hr2, h6, h7⟩
  have D2 := Lib.hid (DJ.start (view := view) B1.out hrb hr2 h7 h6)
  have HL' := Lib.hid (And.intro h1 (And.intro h2 (And.intro h3 h4)))
  obtain ⟨g, cc, hv, _⟩ := h6.form (by omega)
  injection hv with e1 e2 e3
  subst e1
  have n0 : 0 < n' := by omega
  have n0' : (0 : Int) < (n' : Int) := by omega
  clear h1 h2 h4 hr2 h6 h7 R1 B1 e2 e3
  go_wp2_with fail
  generalize w2.alloc (.cells #[.int .i64 view, .slice (some ⟨g, 0, none⟩) n' c'] 25) = w3 at *
  have z0 := D2.out.res.cell (i := 0) (v := .int .i64 0) rfl
  have z1 := D2.out.res.cell (i := 1) (v := .slice none 0 0) rfl
  have y0 := D2.out.res.free 0
  have y1 := D2.out.res.free 1
  have d0 := D2.out.chn.cell (i := 0) (v := .int .i64 view) rfl
  have d1 := D2.out.chn.cell (i := 1) (v := .slice (some ⟨g, 0, none⟩) n' c') rfl
  have hs0 := D2.out.s0
  have hgn : g ≠ w.heap.size := by
    rintro rfl
    obtain ⟨rs, ho, _⟩ := D2.out.row
    obtain ⟨ds, hd⟩ := own_blk ho rfl
    exact absurd (blk_type hd D2.out.res) (by decide)
  have hgn' : w.heap.size ≠ g := fun e => hgn e.symm
  have hn : w.heap.size ≠ w2.heap.size := by omega
  have hn' : w2.heap.size ≠ w.heap.size := by omega
  have Y := Lib.hid (D2.out.store (u := .int .i64 view) (v := .slice (some ⟨g, 0, none⟩) n' c'))
  have YD := Lib.hid (D2.out.store (u := .int .i64 view) (v := .slice (some ⟨g, 0, none⟩) n' c')).drew
  clear hs0
  have DD := Lib.hid D2.out.drew
  have RD := Lib.hid D2.out.drew.rd
  have RS := Lib.hid YD.out.rd
  have hp9 : p' ≤ 1099511627776 := by omega
  go_region_law ((first
    | (rw [if_pos (by rfl)]; go_simp; go_at_call 43; (with_reducible refine (pick_any rb _ p' 3 _ RD.out hp9).mono ?_); rintro e w4 ⟨v3, rfl, t0, t1, _, hr4, hg4⟩; have t2 := t1 (by omega); have D4 := Lib.hid (DD.out.picked hr4 hg4); have Z := Lib.hid (D4.out.store (u := .int .i64 view) (v := .slice (some ⟨g, 0, none⟩) n' c'))
       have x0 := D4.out.chn.cell (i := 0) (v := .int .i64 view) rfl; have x1 := D4.out.chn.cell (i := 1) (v := .slice (some ⟨g, 0, none⟩) n' c') rfl; have x2 := D4.out.res.cell (i := 0) (v := .int .i64 0) rfl; have x3 := D4.out.res.cell (i := 1) (v := .slice none 0 0) rfl; have x4 := D4.out.res.free 0; have x5 := D4.out.res.free 1; clear hr4 hg4 t1)
    | (rw [if_pos (by rfl)]; go_simp; go_at_call 43; (with_reducible refine (pick_any rb _ p' 3 _ RS.out hp9).mono ?_); rintro e w4 ⟨v3, rfl, t0, t1, _, hr4, hg4⟩; have t2 := t1 (by omega); have Z := Lib.hid (YD.out.picked hr4 hg4); clear hr4 hg4 t1)))
  all_goals
    have r0 := Z.out.res.cell (i := 0) (v := .int .i64 view) rfl
    have r1 := Z.out.res.cell (i := 1) (v := .slice (some ⟨g, 0, none⟩) n' c') rfl
    go_wp2
    obtain ⟨h1, h2, h3, h4⟩ := HL'.out
    exact bodyPost_ret (v := .tuple #[.agg #[.int .i64 view, .slice (some ⟨g, 0, none⟩) n' c'], .int .i64 id, .int .i64 v3]) (by simp [results, Try.results18, go_sem, r0, r1]) rfl ⟨view, some ⟨g, 0, none⟩, n', c', l', id, v3, rfl, h1, h2, h3, h4, Z.out.post⟩
end Go.Proofs.Ytcomppiglhibkaa
