/- The texts DrawL DrawJ DrawP VarU LChainPutLate ClaimChainPutLate, joined. -/
import Derived.Deep.RegionLaw
import Derived.Test.YtcomppiglhibkaaDoorC1
import Derived.Test.YtcomppiglhibkaaDoorP1
import Derived.Test.YtcomppiglhibkaaDoorB1
import Derived.Test.YtcomppiglhibkaaDoorL1
import Derived.Test.YtcomppiglhibkaaDoorB4
/- Drawing out of bytes: a chain and the id of a node to drop. -/
namespace Go.Proofs.YtcomppiglhibkaaDoor
open Go.RowKit

end Go.Proofs.YtcomppiglhibkaaDoor
/- Drawing out of bytes: a chain and the id of a node to lose; a chain and the id of a new node. -/
namespace Go.Proofs.YtcomppiglhibkaaDoor
open Go.RowKit

theorem Rd.keepB {w w' : World} {rb B p : Nat} (h : Rd w rb B p) (hk : ∀ k, k < B ∨ k = rb → w'.heap[k]? = w.heap[k]?) : Rd w' rb B p := by
  obtain ⟨hB, A, n, c, l, hg, hf, hb, hn⟩ := h
  exact ⟨hB, A, n, c, l, (hk rb (.inr rfl)).trans hg, hf.keep (fun k _ h2 => hk k (.inl h2)), hb, hn⟩
/-- what opening a code whose bytes lie below B leaves -/
def OpenedLow (w : World) (B : Nat) (e : Ending) (w' : World) : Prop :=
  ∃ rb, e = .returned (.pointer (some ⟨rb, 0, none⟩)) ∧ w.heap.size ≤ rb ∧ Rd w' rb B 0 ∧ Below w.heap.size w w'
set_option maxHeartbeats 1000000 in
theorem openLow_any (A : Option Addr) (n c B : Nat) (l : List Int) (w : World) (h : Flat encU8 1 w 0 B A n c l) (hB : B ≤ w.heap.size) (hl : ∀ x ∈ l, 0 ≤ x ∧ x ≤ 255) :
    Calls Mo.prog 14 #[.slice A n c] w (OpenedLow w B) := by
  have hnc := h.2.1
  have hc : c ≤ 9223372036854775807 := by have := h.2.2.1; unfold maxLen at *; omega
  have H := Lib.hid h
  have HL := Lib.hid hl
  clear h hl
  by_cases hn : n ≤ 2000
  · go_enter Mo.func14, Tryd.ntmps14
    go_wp2
    go_ret
    refine ⟨w.heap.size, rfl, Nat.le_refl _, ⟨hB, A, n, c, l, heap_alloc_new _ _, H.out.below ((Below.refl _ _).alloc (Nat.le_refl _) _) hB, HL.out, hn⟩, (Below.refl _ _).alloc (Nat.le_refl _) _⟩
  · go_enter Mo.func14, Tryd.ntmps14
    go_wp2
    go_ret
    refine ⟨w.heap.size, rfl, Nat.le_refl _, ⟨hB, A, 2000, c, l.take 2000, heap_alloc_new _ _, (H.out.take_ (by omega)).below ((Below.refl _ _).alloc (Nat.le_refl _) _) hB, fun x hx => HL.out x (List.mem_of_mem_take hx), Nat.le_refl _⟩, (Below.refl _ _).alloc (Nat.le_refl _) _⟩

/-- a draw of a chain and more under way: the result's block is the first new one (its cells cs), the reader behind it, the chain's block s, the row of nodes below hi -/
structure DJ (w0 w : World) (rb p s : Nat) (cs : Array Value) (view : Int) (nv : Value) (l : List Nod) (hi : Nat) : Prop where
  rd : Rd w rb w0.heap.size p
  bel : Below w0.heap.size w0 w
  res : Blk w w0.heap.size cs 25
  rb0 : w0.heap.size < rb
  chn : Blk w s #[.int .i64 view, nv] 25
  s0 : w0.heap.size < s
  his : hi ≤ w.heap.size
  row : NodRow w w0.heap.size hi nv l
section
variable {w0 w w' : World} {rb p p' s : Nat} {cs : Array Value} {view : Int} {nv : Value} {l : List Nod} {hi : Nat}
theorem DJ.picked (h : DJ w0 w rb p s cs view nv l hi) (hr : Rd w' rb w0.heap.size p') (hg : w.grownBy w' (some rb)) : DJ w0 w' rb p' s cs view nv l hi := by
  have hrb := h.rb0
  obtain ⟨ds, hd⟩ := rd_block h.rd
  have hsr : s ≠ rb := by rintro rfl; exact absurd (blk_type h.chn hd) (by decide)
  exact ⟨hr, h.bel.grown hg h.bel.size (fun k e => by cases e; omega), h.res.pick hg (by omega), hrb, h.chn.pick hg hsr, h.s0, Nat.le_trans h.his hg.size,
    h.row.keepT (fun k cs t hk ht => hg.block k (lt_of_block hk) (fun e => by
      injection e with e; subst e
      have := blk_type hk hd
      rcases ht with rfl | rfl <;> exact absurd this (by decide)))⟩
theorem DJ.drew (h : DJ w0 w rb p s cs view nv l hi) : DJ w0 w.drew rb p s cs view nv l hi :=
  ⟨h.rd.keep (fun _ _ => rfl), h.bel.drew, h.res, h.rb0, h.chn, h.s0, h.his, h.row.keep (fun _ _ _ => rfl)⟩
theorem DJ.store {a b u v : Value} (h : DJ w0 w rb p s #[a, b] view nv l hi) : DJ w0 ((w.setCell ⟨w0.heap.size, 0, none⟩ u).setCell ⟨w0.heap.size, 1, none⟩ v) rb p s #[u, v] view nv l hi := by
  have hrb := h.rb0
  have hs0 := h.s0
  have hc : w.heap[w0.heap.size]? = some (.cells #[a, b] 25 (0, 0)) := h.res
  have off : ∀ k, k ≠ w0.heap.size → ((w.setCell ⟨w0.heap.size, 0, none⟩ u).setCell ⟨w0.heap.size, 1, none⟩ v).heap[k]? = w.heap[k]? := fun k hk => by rw [Below.heap_setCell _ _ _ _ hk, Below.heap_setCell _ _ _ _ hk]
  exact ⟨h.rd.keepB (fun k hk => off k (by omega)), (h.bel.setCell (p := ⟨w0.heap.size, 0, none⟩) (Nat.le_refl _) _).setCell (p := ⟨w0.heap.size, 1, none⟩) (Nat.le_refl _) _, (h.res.set 0 u).set 1 v, hrb, (off s (by omega)).trans h.chn, hs0, by simpa [World.setCell] using h.his,
    h.row.keepT (fun k cs t hk ht => off k (by
      rintro rfl
      have := blk_type hk hc
      rcases ht with rfl | rfl <;> exact absurd this (by decide)))⟩
theorem DJ.post (h : DJ w0 w rb p s cs view nv l hi) : NodRow w w0.heap.size w.heap.size nv l ∧ Below w0.heap.size w0 w := ⟨h.row.mono h.his, h.bel⟩
/-- opened, and a chain drawn by l91Id -/
theorem DJ.start {w1 w2 : World} {n c : Nat} {A : Option Addr} (hb : Below (w0.heap.size + 1) (w0.alloc (.cells #[.int .i64 0, .slice none 0 0] 25)) w1) (hrb : w0.heap.size + 1 ≤ rb) (hr : Rd w2 rb w0.heap.size p) (hg : w1.grownBy w2 (some rb))
    (hrow : NodRow w2 w1.heap.size w2.heap.size (.slice A n c) l) : DJ w0 (w2.alloc (.cells #[.int .i64 view, .slice A n c] 25)) rb p w2.heap.size #[.int .i64 0, .slice none 0 0] view (.slice A n c) l w2.heap.size := by
  have hs := hb.size
  simp only [World.size_alloc] at hs
  have hb' : Below (w0.alloc (.cells #[.int .i64 0, .slice none 0 0] 25)).heap.size (w0.alloc (.cells #[.int .i64 0, .slice none 0 0] 25)) w1 := by rw [World.size_alloc]; exact hb
  have hB : Below w0.heap.size w0 w1 := below_box hb'
  have hgs := hg.size
  have k1 : Blk w1 w0.heap.size #[.int .i64 0, .slice none 0 0] 25 := (Blk.new w0 _ _).below hb'
  have hB2 : Below w0.heap.size w0 w2 := hB.grown hg (by omega) (fun k e => by cases e; omega)
  exact ⟨hr.below ((Below.refl _ _).alloc (Nat.le_refl _) _), hB2.alloc (by omega) _, (k1.pick hg (by omega)).alloc _, by omega, Blk.new w2 _ _, by omega, by simp, (hrow.lower (by omega)).keep (fun _ _ h => Below.heap_alloc _ _ _ h)⟩
end

end Go.Proofs.YtcomppiglhibkaaDoor
/- Drawing out of bytes: a chain and an update to write. -/
namespace Go.Proofs.YtcomppiglhibkaaDoor
open Go.RowKit

/-- a draw of a chain and an update under way: the results' blocks are the first new ones (their cells cs and us), the reader behind them, the chain's block s, the row of nodes -/
structure DU (w0 w : World) (rb p s : Nat) (cs us : Array Value) (view : Int) (nv : Value) (l : List Nod) : Prop where
  rd : Rd w rb w0.heap.size p
  bel : Below w0.heap.size w0 w
  res : Blk w w0.heap.size cs 25
  upd : Blk w (w0.heap.size + 1) us 31
  rb0 : w0.heap.size + 1 < rb
  chn : Blk w s #[.int .i64 view, nv] 25
  s0 : w0.heap.size + 1 < s
  row : NodRow w (w0.heap.size + 2) w.heap.size nv l
section
variable {w0 w w' : World} {rb p p' s : Nat} {cs us : Array Value} {view : Int} {nv : Value} {l : List Nod}
theorem DU.picked (h : DU w0 w rb p s cs us view nv l) (hr : Rd w' rb w0.heap.size p') (hg : w.grownBy w' (some rb)) : DU w0 w' rb p' s cs us view nv l := by
  have hrb := h.rb0
  obtain ⟨ds, hd⟩ := rd_block h.rd
  have hsr : s ≠ rb := by rintro rfl; exact absurd (blk_type h.chn hd) (by decide)
  exact ⟨hr, h.bel.grown hg h.bel.size (fun k e => by cases e; omega), h.res.pick hg (by omega), h.upd.pick hg (by omega), hrb, h.chn.pick hg hsr, h.s0,
    (h.row.keepT (fun k cs t hk ht => hg.block k (lt_of_block hk) (fun e => by
      injection e with e; subst e
      have := blk_type hk hd
      rcases ht with rfl | rfl <;> exact absurd this (by decide)))).mono hg.size⟩
theorem DU.drew (h : DU w0 w rb p s cs us view nv l) : DU w0 w.drew rb p s cs us view nv l :=
  ⟨h.rd.keepB (fun _ _ => rfl), h.bel.drew, h.res, h.upd, h.rb0, h.chn, h.s0, h.row.keep (fun _ _ _ => rfl)⟩
theorem DU.store {a b u v : Value} (h : DU w0 w rb p s #[a, b] us view nv l) : DU w0 ((w.setCell ⟨w0.heap.size, 0, none⟩ u).setCell ⟨w0.heap.size, 1, none⟩ v) rb p s #[u, v] us view nv l := by
  have hrb := h.rb0
  have hs0 := h.s0
  have kp : ∀ k, k ≠ w0.heap.size → ((w.setCell ⟨w0.heap.size, 0, none⟩ u).setCell ⟨w0.heap.size, 1, none⟩ v).heap[k]? = w.heap[k]? := fun k hk => by rw [Below.heap_setCell _ _ _ _ hk, Below.heap_setCell _ _ _ _ hk]
  exact ⟨h.rd.keepB (fun k hk => kp k (by omega)), (h.bel.setCell (p := ⟨w0.heap.size, 0, none⟩) (Nat.le_refl _) _).setCell (p := ⟨w0.heap.size, 1, none⟩) (Nat.le_refl _) _, (h.res.set 0 u).set 1 v,
    (h.upd.far (a := ⟨w0.heap.size, 0, none⟩) (by show w0.heap.size + 1 ≠ w0.heap.size; omega) _).far (a := ⟨w0.heap.size, 1, none⟩) (by show w0.heap.size + 1 ≠ w0.heap.size; omega) _, hrb,
    (h.chn.far (a := ⟨w0.heap.size, 0, none⟩) (by show s ≠ w0.heap.size; omega) _).far (a := ⟨w0.heap.size, 1, none⟩) (by show s ≠ w0.heap.size; omega) _, hs0,
    (h.row.keep (fun k h1 _ => kp k (by omega))).mono (by simp [World.setCell])⟩
theorem DU.storeU {a b u v : Value} (h : DU w0 w rb p s cs #[a, b] view nv l) : DU w0 ((w.setCell ⟨w0.heap.size + 1, 0, none⟩ u).setCell ⟨w0.heap.size + 1, 1, none⟩ v) rb p s cs #[u, v] view nv l := by
  have hrb := h.rb0
  have hs0 := h.s0
  have kp : ∀ k, k ≠ w0.heap.size + 1 → ((w.setCell ⟨w0.heap.size + 1, 0, none⟩ u).setCell ⟨w0.heap.size + 1, 1, none⟩ v).heap[k]? = w.heap[k]? := fun k hk => by rw [Below.heap_setCell _ _ _ _ hk, Below.heap_setCell _ _ _ _ hk]
  exact ⟨h.rd.keepB (fun k hk => kp k (by omega)), (h.bel.setCell (p := ⟨w0.heap.size + 1, 0, none⟩) (by show w0.heap.size ≤ w0.heap.size + 1; omega) _).setCell (p := ⟨w0.heap.size + 1, 1, none⟩) (by show w0.heap.size ≤ w0.heap.size + 1; omega) _,
    (h.res.far (a := ⟨w0.heap.size + 1, 0, none⟩) (by show w0.heap.size ≠ w0.heap.size + 1; omega) _).far (a := ⟨w0.heap.size + 1, 1, none⟩) (by show w0.heap.size ≠ w0.heap.size + 1; omega) _, (h.upd.set 0 u).set 1 v, hrb,
    (h.chn.far (a := ⟨w0.heap.size + 1, 0, none⟩) (by show s ≠ w0.heap.size + 1; omega) _).far (a := ⟨w0.heap.size + 1, 1, none⟩) (by show s ≠ w0.heap.size + 1; omega) _, hs0,
    (h.row.keep (fun k h1 _ => kp k (by omega))).mono (by simp [World.setCell])⟩
theorem DU.post (h : DU w0 w rb p s cs us view nv l) : NodRow w w0.heap.size w.heap.size nv l ∧ Below w0.heap.size w0 w := ⟨h.row.lower (by omega), h.bel⟩
theorem DU.start {w1 w2 : World} {A : Option Addr} {n c : Nat} {cs us : Array Value}
    (hb : Below ((w0.alloc (.cells cs 25)).alloc (.cells us 31)).heap.size ((w0.alloc (.cells cs 25)).alloc (.cells us 31)) w1) (hrb : w0.heap.size + 2 ≤ rb) (hr1 : rb < w1.heap.size)
    (hr : Rd w2 rb w0.heap.size p) (hg : w1.grownBy w2 (some rb)) (hrow : NodRow w2 w1.heap.size w2.heap.size (.slice A n c) l) :
    DU w0 (w2.alloc (.cells #[.int .i64 view, .slice A n c] 25)) rb p w2.heap.size cs us view (.slice A n c) l := by
  have hs := hb.size
  simp only [World.size_alloc] at hs
  have k0 := ((Blk.new w0 cs 25).alloc (.cells us 31)).below hb
  have k1 := (Blk.new (w0.alloc (.cells cs 25)) us 31).below hb
  simp only [World.size_alloc] at k1
  have hB : Below w0.heap.size w0 w1 := below_box (below_box hb)
  have hB2 : Below w0.heap.size w0 w2 := hB.grown hg (by omega) (fun k e => by cases e; omega)
  have h12 := hg.size
  exact ⟨hr.keepB (fun k hk => Below.heap_alloc _ _ _ (by have := hr1; omega)), hB2.alloc hB2.size _, (k0.pick hg (by omega)).alloc _, (k1.pick hg (by omega)).alloc _, by omega, Blk.new w2 _ _, by omega,
    ((hrow.lower (by omega)).keep (fun k _ h2 => Below.heap_alloc _ _ _ h2)).mono (by simp)⟩
end
/-- what drawing a chain and an update out of bytes leaves -/
def DrawnChainUpd (w : World) (e : Ending) (w' : World) : Prop :=
  ∃ (view : Int) (A : Option Addr) (n c : Nat) (l : List Nod) (u : Upd), e = .returned (.tuple #[.agg #[.int .i64 view, .slice A n c], .agg #[.int .i64 u.key, .int .i64 u.value]]) ∧ l.length = n ∧ 1 ≤ n ∧ n ≤ 5 ∧ (∀ x ∈ l, x.log.length ≤ 13) ∧ NodRow w' w.heap.size w'.heap.size (.slice A n c) l ∧ Below w.heap.size w w'

set_option maxHeartbeats 4000000 in
theorem drawChainWrite_any (A : Option Addr) (n c : Nat) (l : List Int) (w : World) (h : Flat encU8 1 w 0 w.heap.size A n c l) (hl : ∀ x ∈ l, 0 ≤ x ∧ x ≤ 255) :
    Calls Mo.prog 19 #[.slice A n c] w (DrawnChainUpd w) := by
  have H := Lib.hid (h.below (((Below.refl w.heap.size w).alloc (Nat.le_refl _) (.cells #[.int .i64 0, .slice none 0 0] 25)).alloc (by simp) (.cells #[.int .i64 0, .int .i64 0] 31)) (Nat.le_refl _))
  have HL := Lib.hid hl
  clear h hl
  go_enter Mo.func19, Tryd.ntmps19
  go_wp2_with fail
  refine (openLow_any _ _ _ w.heap.size l _ H.out (by simp; omega) HL.out).mono ?_
  rintro e w1 ⟨rb, rfl, hrb, hr1, hb1⟩
  simp only [World.size_alloc] at hrb
  have R1 := Lib.hid hr1
  have B1 := Lib.hid hb1
  have hrl := hr1.lt
  clear hr1 hb1 H
  go_wp2_with fail
  refine (l91Chain_any rb _ _ _ R1.out (by omega)).mono ?_
  rintro e w2 ⟨view, A', n', c', p', l', rfl, h1, h2, h3, h4, hp, hr2, h6, h7⟩
  have D2 := Lib.hid (DU.start (view := view) B1.out hrb hrl hr2 h7 h6)
  have HL' := Lib.hid (And.intro h1 (And.intro h2 (And.intro h3 h4)))
  clear h1 h2 h3 h4 hr2 h6 h7 R1 B1 hrl
  have d0 := D2.out.chn.cell (i := 0) (v := .int .i64 view) rfl
  have d1 := D2.out.chn.cell (i := 1) (v := .slice A' n' c') rfl
  have z0 := D2.out.res.cell (i := 0) (v := .int .i64 0) rfl
  have z1 := D2.out.res.cell (i := 1) (v := .slice none 0 0) rfl
  have y0 := D2.out.res.free 0
  have y1 := D2.out.res.free 1
  have q0 := D2.out.upd.cell (i := 0) (v := .int .i64 0) rfl
  have q1 := D2.out.upd.cell (i := 1) (v := .int .i64 0) rfl
  have f0 := D2.out.upd.free 0
  have f1 := D2.out.upd.free 1
  have YD := Lib.hid (D2.out.store (u := .int .i64 view) (v := .slice A' n' c')).drew
  have DD := Lib.hid D2.out.drew
  have RD := Lib.hid DD.out.rd
  have RS := Lib.hid YD.out.rd
  have hs0 := D2.out.s0
  have hn : w.heap.size ≠ w2.heap.size := by omega
  have hn' : w2.heap.size ≠ w.heap.size := by omega
  have hp9 : p' ≤ 549755813888 := by omega
  clear hs0
  go_wp2_with fail
  go_region_law ((first
    | (rw [if_pos (by rfl)]; go_simp; go_at_call 37; (with_reducible refine (l91Update_any rb _ p' _ RD.out hp9).mono ?_); rintro e w4 ⟨u, p4, rfl, _, hr4, hg4⟩; have D4 := Lib.hid (DD.out.picked hr4 hg4)
       have x0 := D4.out.chn.cell (i := 0) (v := .int .i64 view) rfl; have x1 := D4.out.chn.cell (i := 1) (v := .slice A' n' c') rfl; have x2 := D4.out.res.cell (i := 0) (v := .int .i64 0) rfl; have x3 := D4.out.res.cell (i := 1) (v := .slice none 0 0) rfl; have x4 := D4.out.res.free 0; have x5 := D4.out.res.free 1
       have x6 := D4.out.upd.cell (i := 0) (v := .int .i64 0) rfl; have x7 := D4.out.upd.cell (i := 1) (v := .int .i64 0) rfl; have x8 := D4.out.upd.free 0; have x9 := D4.out.upd.free 1; clear hr4 hg4)
    | (rw [if_pos (by rfl)]; go_simp; go_at_call 37; (with_reducible refine (l91Update_any rb _ p' _ RS.out hp9).mono ?_); rintro e w4 ⟨u, p4, rfl, _, hr4, hg4⟩; have D4 := Lib.hid (YD.out.picked hr4 hg4)
       have x6 := D4.out.upd.cell (i := 0) (v := .int .i64 0) rfl; have x7 := D4.out.upd.cell (i := 1) (v := .int .i64 0) rfl; have x8 := D4.out.upd.free 0; have x9 := D4.out.upd.free 1; clear hr4 hg4)))
  all_goals
    go_wp2_with fail
    obtain ⟨h1, h2, h3, h4⟩ := HL'.out
    first
      | (have Z := (D4.out.store (u := .int .i64 view) (v := .slice A' n' c')).storeU (u := .int .i64 u.key) (v := .int .i64 u.value)
         exact bodyPost_ret (v := .tuple #[.agg #[.int .i64 view, .slice A' n' c'], .agg #[.int .i64 u.key, .int .i64 u.value]]) (by simp [results, Tryd.results19, go_sem, Z.res.cell (i := 0) (v := .int .i64 view) rfl, Z.res.cell (i := 1) (v := .slice A' n' c') rfl, Z.upd.cell (i := 0) (v := .int .i64 u.key) rfl, Z.upd.cell (i := 1) (v := .int .i64 u.value) rfl]) rfl ⟨view, A', n', c', l', u, rfl, h1, h2, h3, h4, Z.post⟩)
      | (have Z := (D4.out.storeU (u := .int .i64 u.key) (v := .int .i64 u.value)).store (u := .int .i64 view) (v := .slice A' n' c')
         exact bodyPost_ret (v := .tuple #[.agg #[.int .i64 view, .slice A' n' c'], .agg #[.int .i64 u.key, .int .i64 u.value]]) (by simp [results, Tryd.results19, go_sem, Z.res.cell (i := 0) (v := .int .i64 view) rfl, Z.res.cell (i := 1) (v := .slice A' n' c') rfl, Z.upd.cell (i := 0) (v := .int .i64 u.key) rfl, Z.upd.cell (i := 1) (v := .int .i64 u.value) rfl]) rfl ⟨view, A', n', c', l', u, rfl, h1, h2, h3, h4, Z.post⟩)
      | (have Z := D4.out.storeU (u := .int .i64 u.key) (v := .int .i64 u.value)
         exact bodyPost_ret (v := .tuple #[.agg #[.int .i64 view, .slice A' n' c'], .agg #[.int .i64 u.key, .int .i64 u.value]]) (by simp [results, Tryd.results19, go_sem, Z.res.cell (i := 0) (v := .int .i64 view) rfl, Z.res.cell (i := 1) (v := .slice A' n' c') rfl, Z.upd.cell (i := 0) (v := .int .i64 u.key) rfl, Z.upd.cell (i := 1) (v := .int .i64 u.value) rfl]) rfl ⟨view, A', n', c', l', u, rfl, h1, h2, h3, h4, Z.post⟩)
/-- the two results' blocks get what a draw handed back -/
theorem two_res {w w1 : World} {nv a b d e : Value} {l : List Nod} (hb : Below ((w.alloc (.cells #[.int .i64 0, .slice none 0 0] 25)).alloc (.cells #[.int .i64 0, .int .i64 0] 31)).heap.size ((w.alloc (.cells #[.int .i64 0, .slice none 0 0] 25)).alloc (.cells #[.int .i64 0, .int .i64 0] 31)) w1)
    (hrow : NodRow w1 ((w.alloc (.cells #[.int .i64 0, .slice none 0 0] 25)).alloc (.cells #[.int .i64 0, .int .i64 0] 31)).heap.size w1.heap.size nv l) :
    Blk w1 w.heap.size #[.int .i64 0, .slice none 0 0] 25 ∧ Blk w1 (w.heap.size + 1) #[.int .i64 0, .int .i64 0] 31 ∧
    Blk ((((w1.setCell ⟨w.heap.size, 0, none⟩ a).setCell ⟨w.heap.size, 1, none⟩ b).setCell ⟨w.heap.size + 1, 0, none⟩ d).setCell ⟨w.heap.size + 1, 1, none⟩ e) w.heap.size #[a, b] 25 ∧
    Blk ((((w1.setCell ⟨w.heap.size, 0, none⟩ a).setCell ⟨w.heap.size, 1, none⟩ b).setCell ⟨w.heap.size + 1, 0, none⟩ d).setCell ⟨w.heap.size + 1, 1, none⟩ e) (w.heap.size + 1) #[d, e] 31 ∧
    NodRow ((((w1.setCell ⟨w.heap.size, 0, none⟩ a).setCell ⟨w.heap.size, 1, none⟩ b).setCell ⟨w.heap.size + 1, 0, none⟩ d).setCell ⟨w.heap.size + 1, 1, none⟩ e) w.heap.size ((((w1.setCell ⟨w.heap.size, 0, none⟩ a).setCell ⟨w.heap.size, 1, none⟩ b).setCell ⟨w.heap.size + 1, 0, none⟩ d).setCell ⟨w.heap.size + 1, 1, none⟩ e).heap.size nv l ∧
    Below w.heap.size w ((((w1.setCell ⟨w.heap.size, 0, none⟩ a).setCell ⟨w.heap.size, 1, none⟩ b).setCell ⟨w.heap.size + 1, 0, none⟩ d).setCell ⟨w.heap.size + 1, 1, none⟩ e) := by
  have hs := hb.size
  simp only [World.size_alloc] at hs hrow
  have k0 := ((Blk.new w #[.int .i64 0, .slice none 0 0] 25).alloc (.cells #[.int .i64 0, .int .i64 0] 31)).below hb
  have k1 := (Blk.new (w.alloc (.cells #[.int .i64 0, .slice none 0 0] 25)) #[.int .i64 0, .int .i64 0] 31).below hb
  simp only [World.size_alloc] at k1
  have hB : Below w.heap.size w w1 := below_box (below_box hb)
  refine ⟨k0, k1, (((k0.set 0 a).set 1 b).far (a := ⟨w.heap.size + 1, 0, none⟩) (by show w.heap.size ≠ w.heap.size + 1; omega) _).far (a := ⟨w.heap.size + 1, 1, none⟩) (by show w.heap.size ≠ w.heap.size + 1; omega) _,
    (((k1.far (a := ⟨w.heap.size, 0, none⟩) (by show w.heap.size + 1 ≠ w.heap.size; omega) _).far (a := ⟨w.heap.size, 1, none⟩) (by show w.heap.size + 1 ≠ w.heap.size; omega) _).set 0 d).set 1 e,
    (((hrow.keep (fun k h1 _ => ?_)).mono (by simp [World.setCell])).lower (by omega)),
    (((hB.setCell (p := ⟨w.heap.size, 0, none⟩) (Nat.le_refl _) _).setCell (p := ⟨w.heap.size, 1, none⟩) (Nat.le_refl _) _).setCell (p := ⟨w.heap.size + 1, 0, none⟩) (by show w.heap.size ≤ w.heap.size + 1; omega) _).setCell (p := ⟨w.heap.size + 1, 1, none⟩) (by show w.heap.size ≤ w.heap.size + 1; omega) _⟩
  rw [Below.heap_setCell _ _ _ _ (by show k ≠ w.heap.size + 1; omega), Below.heap_setCell _ _ _ _ (by show k ≠ w.heap.size + 1; omega), Below.heap_setCell _ _ _ _ (by show k ≠ w.heap.size; omega), Below.heap_setCell _ _ _ _ (by show k ≠ w.heap.size; omega)]

set_option maxHeartbeats 4000000 in
theorem drawChainPut_any (A : Option Addr) (n c : Nat) (l : List Int) (w : World) (h : Flat encU8 1 w 0 w.heap.size A n c l) (hl : ∀ x ∈ l, 0 ≤ x ∧ x ≤ 255) :
    Calls Mo.prog 9 #[.slice A n c] w (DrawnChainUpd w) := by
  have H := Lib.hid ((h.box (.cells #[.int .i64 0, .slice none 0 0] 25)).box (.cells #[.int .i64 0, .int .i64 0] 31))
  have HL := Lib.hid hl
  clear h hl
  go_enter Mo.func9, Tryd.ntmps9
  go_wp2_with fail
  refine (drawChainWrite_any _ _ _ l _ H.out HL.out).mono ?_
  rintro e w1 ⟨view, A1, n1, c1, r, u, rfl, h1, h2, h3, h4, h6, hb1⟩
  have D := Lib.hid (two_res (a := .int .i64 view) (b := .slice A1 n1 c1) (d := .int .i64 u.key) (e := .int .i64 u.value) hb1 h6)
  have HL' := Lib.hid (And.intro h1 (And.intro h2 (And.intro h3 h4)))
  have z0 := D.out.1.cell (i := 0) (v := .int .i64 0) rfl
  have z1 := D.out.1.cell (i := 1) (v := .slice none 0 0) rfl
  have y0 := D.out.1.free 0
  have y1 := D.out.1.free 1
  have q0 := D.out.2.1.cell (i := 0) (v := .int .i64 0) rfl
  have q1 := D.out.2.1.cell (i := 1) (v := .int .i64 0) rfl
  have f0 := D.out.2.1.free 0
  have f1 := D.out.2.1.free 1
  clear h1 h2 h3 h4 h6 hb1
  go_wp2_with fail
  obtain ⟨h1, h2, h3, h4⟩ := HL'.out
  obtain ⟨_, _, b0, b1, hrow, hbel⟩ := D.out
  exact bodyPost_ret (v := .tuple #[.agg #[.int .i64 view, .slice A1 n1 c1], .agg #[.int .i64 u.key, .int .i64 u.value]]) (by simp [results, Tryd.results9, go_sem, b0.cell (i := 0) (v := .int .i64 view) rfl, b0.cell (i := 1) (v := .slice A1 n1 c1) rfl, b1.cell (i := 0) (v := .int .i64 u.key) rfl, b1.cell (i := 1) (v := .int .i64 u.value) rfl]) rfl ⟨view, A1, n1, c1, r, u, rfl, h1, h2, h3, h4, hrow, hbel⟩
end Go.Proofs.YtcomppiglhibkaaDoor
/- An update in a block of the law's. -/
namespace Go.Proofs.YtcomppiglhibkaaDoor
open Go.RowKit
def UVar (w : World) (s : Nat) (u : Upd) : Prop := Blk w s #[.int .i64 u.key, .int .i64 u.value] 31
section
variable {w w' : World} {s : Nat} {u : Upd}
theorem UVar.on (h : UVar w s u) (hb : Below w.heap.size w w') : UVar w' s u := Blk.below h hb
theorem UVar.alloc (h : UVar w s u) (o : Obj) : UVar (w.alloc o) s u := Blk.alloc h o
theorem UVar.new (w : World) (u : Upd) : UVar (w.alloc (.cells #[.int .i64 u.key, .int .i64 u.value] 31)) w.heap.size u := Blk.new w _ _
theorem UVar.c0 (h : UVar w s u) : w.cell? ⟨s, 0, none⟩ = some (.int .i64 u.key) := Blk.cell (i := 0) h rfl
theorem UVar.c1 (h : UVar w s u) : w.cell? ⟨s, 1, none⟩ = some (.int .i64 u.value) := Blk.cell (i := 1) h rfl
theorem UVar.lt (h : UVar w s u) : s < w.heap.size := Blk.lt h
end
end Go.Proofs.YtcomppiglhibkaaDoor
/- The walk of a law on putting (laws.FnChainPutLate): it returns true, and writes nothing that was there. Printed by genlawsp.py. -/
namespace Go.Proofs.YtcomppiglhibkaaDoor
open Go.RowKit Go.Sort

set_option maxRecDepth 100000 in
set_option maxHeartbeats 16000000 in
theorem chainPutLate_walk (A : Option Addr) (n c : Nat) (l : List Int) (a : Addr) (w : World) (he : ErrAt a w) (h : Flat encU8 1 w 0 w.heap.size A n c l) (hl : ∀ x ∈ l, 0 ≤ x ∧ x ≤ 255) :
    Calls Mo.prog 4 #[.slice A n c] w fun e w' => e = .returned (.bool true) ∧ Below w.heap.size w w' := by
  have H := Lib.hid h
  have HL := Lib.hid hl
  have HE := Lib.hid he
  clear h hl he
  by_cases hn : 1048576 < n
  · go_enter Mo.func4, Tryd.ntmps4
    go_wp2
    go_ret
    exact ⟨rfl, Below.refl _ _⟩
  go_enter Mo.func4, Tryd.ntmps4
  go_wp2_with fail
  refine (drawChainPut_any _ _ _ l _ H.out HL.out).mono ?_
  rintro e w1 ⟨view, A1, n1, c1, r, u0, rfl, h1, h2, h3, h4, h6, hb1⟩
  obtain ⟨hn1, hl1⟩ := nods_ok h1 h3 h4
  have HG := Lib.hid hl1
  have M1 := Lib.hid h1
  have Vc := Lib.hid ((Var.row h6 view).alloc (.cells #[.int .i64 u0.key, .int .i64 u0.value] 31))
  have Vu := Lib.hid (show UVar ((w1.alloc (.cells #[.int .i64 view, .slice A1 n1 c1] 25)).alloc (.cells #[.int .i64 u0.key, .int .i64 u0.value] 31)) (w1.heap.size + 1) u0 by
    have h := UVar.new (w1.alloc (.cells #[.int .i64 view, .slice A1 n1 c1] 25)) u0
    rwa [World.size_alloc] at h)
  have HB := Lib.hid ((hb1.alloc hb1.size (.cells #[.int .i64 view, .slice A1 n1 c1] 25)).alloc (hb1.alloc hb1.size _).size (.cells #[.int .i64 u0.key, .int .i64 u0.value] 31))
  clear h1 h4 h6 hb1 H HL hl1
  obtain ⟨o, ho⟩ : ∃ o, putM view r u0 = o := ⟨_, rfl⟩
  rcases o with _ | ⟨u, r2⟩
  · have HO := Lib.hid ho
    clear ho
    go_wp2_with fail
    refine (chainPut_any a view _ _ _ r u0 _ (HE.out.below HB.out) Vc.out.nods hn1 HG.out).mono ?_
    rintro e w2 hq
    obtain ⟨A2, c2, rfl, hq2, hb⟩ := hq.not HO.out
    clear hq
    have Nc := Lib.hid (Vc.out.on hb)
    have Nu := Lib.hid (Vu.out.on hb)
    have NB := Lib.hid (HB.out.trans (hb.mono HB.out.size))
    clear hb HB Vc Vu
    have Vc := Lib.hid Nc.out
    clear Nc
    have Vu := Lib.hid Nu.out
    clear Nu
    have HB := Lib.hid NB.out
    clear NB
    have fc0 := Vc.out.c0
    have fc1 := Vc.out.c1
    have fcl := Vc.out.lt
    have fu0 := Vu.out.c0
    have fu1 := Vu.out.c1
    have ful := Vu.out.lt
    have Nc := Lib.hid (Vc.out.alloc (.cells #[.int .i64 0, .slice A2 0 c2] 25))
    have Nu := Lib.hid (Vu.out.alloc (.cells #[.int .i64 0, .slice A2 0 c2] 25))
    have No := Lib.hid (Var.new hq2 0)
    have NB := Lib.hid (HB.out.alloc HB.out.size (.cells #[.int .i64 0, .slice A2 0 c2] 25))
    clear hq2
    clear HB Vc Vu
    have Vc := Lib.hid Nc.out
    clear Nc
    have Vu := Lib.hid Nu.out
    clear Nu
    have Vo := Lib.hid No.out
    clear No
    have HB := Lib.hid NB.out
    clear NB
    go_wp2_with fail
    refine (specChainPut_any view _ _ _ r u0 _ Vc.out.nods hn1 HG.out).mono ?_
    rintro e w3 hq
    obtain ⟨A3, c3, rfl, hq2, hb⟩ := hq.not HO.out
    clear hq
    clear fc0 fc1 fcl fu0 fu1 ful
    have Nc := Lib.hid (Vc.out.on hb)
    have Nu := Lib.hid (Vu.out.on hb)
    have No := Lib.hid (Vo.out.on hb)
    have NB := Lib.hid (HB.out.trans (hb.mono HB.out.size))
    clear hb HB Vc Vu Vo
    have Vc := Lib.hid Nc.out
    clear Nc
    have Vu := Lib.hid Nu.out
    clear Nu
    have Vo := Lib.hid No.out
    clear No
    have HB := Lib.hid NB.out
    clear NB
    have fc0 := Vc.out.c0
    have fc1 := Vc.out.c1
    have fcl := Vc.out.lt
    have fu0 := Vu.out.c0
    have fu1 := Vu.out.c1
    have ful := Vu.out.lt
    have fo0 := Vo.out.c0
    have fo1 := Vo.out.c1
    have fol := Vo.out.lt
    have Nc := Lib.hid (Vc.out.alloc (.cells #[.int .i64 0, .slice A3 0 c3] 25))
    have Nu := Lib.hid (Vu.out.alloc (.cells #[.int .i64 0, .slice A3 0 c3] 25))
    have No := Lib.hid (Vo.out.alloc (.cells #[.int .i64 0, .slice A3 0 c3] 25))
    have Nw := Lib.hid (Var.new hq2 0)
    have NB := Lib.hid (HB.out.alloc HB.out.size (.cells #[.int .i64 0, .slice A3 0 c3] 25))
    clear hq2
    clear HB Vc Vu Vo
    have Vc := Lib.hid Nc.out
    clear Nc
    have Vu := Lib.hid Nu.out
    clear Nu
    have Vo := Lib.hid No.out
    clear No
    have Vw := Lib.hid Nw.out
    clear Nw
    have HB := Lib.hid NB.out
    clear NB
    go_wp2_with fail
    refine (sameChain_same 0 _ _ 0 _ _ [] _ Vo.out.nods Vw.out.nods (by omega) (fun x h => by cases h)).mono ?_
    rintro e w4 ⟨rfl, hb⟩
    clear fc0 fc1 fcl fu0 fu1 ful fo0 fo1 fol
    have Nc := Lib.hid (Vc.out.on hb)
    have Nu := Lib.hid (Vu.out.on hb)
    have No := Lib.hid (Vo.out.on hb)
    have Nw := Lib.hid (Vw.out.on hb)
    have NB := Lib.hid (HB.out.trans (hb.mono HB.out.size))
    clear hb HB Vc Vu Vo Vw
    have Vc := Lib.hid Nc.out
    clear Nc
    have Vu := Lib.hid Nu.out
    clear Nu
    have Vo := Lib.hid No.out
    clear No
    have Vw := Lib.hid Nw.out
    clear Nw
    have HB := Lib.hid NB.out
    clear NB
    have fc0 := Vc.out.c0
    have fc1 := Vc.out.c1
    have fcl := Vc.out.lt
    have fu0 := Vu.out.c0
    have fu1 := Vu.out.c1
    have ful := Vu.out.lt
    have fo0 := Vo.out.c0
    have fo1 := Vo.out.c1
    have fol := Vo.out.lt
    have fw0 := Vw.out.c0
    have fw1 := Vw.out.c1
    have fwl := Vw.out.lt
    go_wp2_with fail
    refine (sameChain_same 0 _ _ 0 _ _ [] _ Vo.out.nods Vw.out.nods (by omega) (fun x h => by cases h)).mono ?_
    rintro e w5 ⟨rfl, hb⟩
    clear fc0 fc1 fcl fu0 fu1 ful fo0 fo1 fol fw0 fw1 fwl
    have Nc := Lib.hid (Vc.out.on hb)
    have Nu := Lib.hid (Vu.out.on hb)
    have No := Lib.hid (Vo.out.on hb)
    have Nw := Lib.hid (Vw.out.on hb)
    have NB := Lib.hid (HB.out.trans (hb.mono HB.out.size))
    clear hb HB Vc Vu Vo Vw
    have Vc := Lib.hid Nc.out
    clear Nc
    have Vu := Lib.hid Nu.out
    clear Nu
    have Vo := Lib.hid No.out
    clear No
    have Vw := Lib.hid Nw.out
    clear Nw
    have HB := Lib.hid NB.out
    clear NB
    have fc0 := Vc.out.c0
    have fc1 := Vc.out.c1
    have fcl := Vc.out.lt
    have fu0 := Vu.out.c0
    have fu1 := Vu.out.c1
    have ful := Vu.out.lt
    have fo0 := Vo.out.c0
    have fo1 := Vo.out.c1
    have fol := Vo.out.lt
    have fw0 := Vw.out.c0
    have fw1 := Vw.out.c1
    have fwl := Vw.out.lt
    go_wp2
    go_ret
    exact ⟨rfl, HB.out⟩
  have HO := Lib.hid ho
  clear ho
  go_wp2_with fail
  refine (chainPut_any a view _ _ _ r u0 _ (HE.out.below HB.out) Vc.out.nods hn1 HG.out).mono ?_
  rintro e w2 hq
  obtain ⟨A2, n2, c2, rfl, hq1, hq2, hb⟩ := hq.yes HO.out
  clear hq
  have MLo := Lib.hid hq1
  clear hq1
  have Nc := Lib.hid (Vc.out.on hb)
  have Nu := Lib.hid (Vu.out.on hb)
  have NB := Lib.hid (HB.out.trans (hb.mono HB.out.size))
  clear hb HB Vc Vu
  have Vc := Lib.hid Nc.out
  clear Nc
  have Vu := Lib.hid Nu.out
  clear Nu
  have HB := Lib.hid NB.out
  clear NB
  have fc0 := Vc.out.c0
  have fc1 := Vc.out.c1
  have fcl := Vc.out.lt
  have fu0 := Vu.out.c0
  have fu1 := Vu.out.c1
  have ful := Vu.out.lt
  have Nc := Lib.hid (Vc.out.alloc (.cells #[.int .i64 u, .slice A2 n2 c2] 25))
  have Nu := Lib.hid (Vu.out.alloc (.cells #[.int .i64 u, .slice A2 n2 c2] 25))
  have No := Lib.hid (Var.new hq2 u)
  have NB := Lib.hid (HB.out.alloc HB.out.size (.cells #[.int .i64 u, .slice A2 n2 c2] 25))
  clear hq2
  clear HB Vc Vu
  have Vc := Lib.hid Nc.out
  clear Nc
  have Vu := Lib.hid Nu.out
  clear Nu
  have Vo := Lib.hid No.out
  clear No
  have HB := Lib.hid NB.out
  clear NB
  go_wp2_with fail
  refine (specChainPut_any view _ _ _ r u0 _ Vc.out.nods hn1 HG.out).mono ?_
  rintro e w3 hq
  obtain ⟨A3, n3, c3, rfl, hq1, hq2, hb⟩ := hq.yes HO.out
  clear hq
  have MLw := Lib.hid hq1
  clear hq1
  clear fc0 fc1 fcl fu0 fu1 ful
  have Nc := Lib.hid (Vc.out.on hb)
  have Nu := Lib.hid (Vu.out.on hb)
  have No := Lib.hid (Vo.out.on hb)
  have NB := Lib.hid (HB.out.trans (hb.mono HB.out.size))
  clear hb HB Vc Vu Vo
  have Vc := Lib.hid Nc.out
  clear Nc
  have Vu := Lib.hid Nu.out
  clear Nu
  have Vo := Lib.hid No.out
  clear No
  have HB := Lib.hid NB.out
  clear NB
  have fc0 := Vc.out.c0
  have fc1 := Vc.out.c1
  have fcl := Vc.out.lt
  have fu0 := Vu.out.c0
  have fu1 := Vu.out.c1
  have ful := Vu.out.lt
  have fo0 := Vo.out.c0
  have fo1 := Vo.out.c1
  have fol := Vo.out.lt
  have Nc := Lib.hid (Vc.out.alloc (.cells #[.int .i64 u, .slice A3 n3 c3] 25))
  have Nu := Lib.hid (Vu.out.alloc (.cells #[.int .i64 u, .slice A3 n3 c3] 25))
  have No := Lib.hid (Vo.out.alloc (.cells #[.int .i64 u, .slice A3 n3 c3] 25))
  have Nw := Lib.hid (Var.new hq2 u)
  have NB := Lib.hid (HB.out.alloc HB.out.size (.cells #[.int .i64 u, .slice A3 n3 c3] 25))
  clear hq2
  obtain rfl : n3 = n2 := by rw [← MLo.out, ← MLw.out]
  clear HB Vc Vu Vo
  have Vc := Lib.hid Nc.out
  clear Nc
  have Vu := Lib.hid Nu.out
  clear Nu
  have Vo := Lib.hid No.out
  clear No
  have Vw := Lib.hid Nw.out
  clear Nw
  have HB := Lib.hid NB.out
  clear NB
  have HP := Lib.hid (good_put HO.out)
  have HG2 := Lib.hid (good_logs HP.out.1)
  have hn2 : n3 ≤ 1048576 := by have h5 : r2.length ≤ 5 := HP.out.1.2.2.2.1; have := MLo.out; omega
  have hgr : Good view r := (put_some HO.out).1
  have hn1p : 0 < n1 := by have := hgr.2.2.1; have := M1.out; omega
  have GG := Lib.hid hgr
  clear hgr
  go_wp2_with fail
  refine (sameChain_same u _ _ n3 _ _ r2 _ Vo.out.nods Vw.out.nods hn2 HG2.out).mono ?_
  rintro e w4 ⟨rfl, hb⟩
  clear fc0 fc1 fcl fu0 fu1 ful fo0 fo1 fol
  have Nc := Lib.hid (Vc.out.on hb)
  have Nu := Lib.hid (Vu.out.on hb)
  have No := Lib.hid (Vo.out.on hb)
  have Nw := Lib.hid (Vw.out.on hb)
  have NB := Lib.hid (HB.out.trans (hb.mono HB.out.size))
  clear hb HB Vc Vu Vo Vw
  have Vc := Lib.hid Nc.out
  clear Nc
  have Vu := Lib.hid Nu.out
  clear Nu
  have Vo := Lib.hid No.out
  clear No
  have Vw := Lib.hid Nw.out
  clear Nw
  have HB := Lib.hid NB.out
  clear NB
  have fc0 := Vc.out.c0
  have fc1 := Vc.out.c1
  have fcl := Vc.out.lt
  have fu0 := Vu.out.c0
  have fu1 := Vu.out.c1
  have ful := Vu.out.lt
  have fo0 := Vo.out.c0
  have fo1 := Vo.out.c1
  have fol := Vo.out.lt
  have fw0 := Vw.out.c0
  have fw1 := Vw.out.c1
  have fwl := Vw.out.lt
  clear Vw MLw fw0 fw1 fwl
  obtain ⟨p, hp⟩ : ∃ p : Nat, pot r = p := ⟨_, rfl⟩
  have HS := Lib.hid (settle_good GG.out hp)
  have GS := Lib.hid (good_settled GG.out)
  have HGS := Lib.hid (good_logs GS.out.1)
  have HLT := Lib.hid (put_late HO.out)
  have hp0 : (0 : Int) ≤ (p : Int) := by omega
  clear hp
  go_wp2_with fail
  refine (chainSettle_any view _ _ _ r _ Vc.out.nods hn1 HG.out).mono ?_
  rintro e w5 hq
  obtain ⟨A5, n5, c5, rfl, hq1, hq2, hb⟩ := hq.yes HS.out
  clear hq
  have MLx := Lib.hid hq1
  clear hq1
  clear fc0 fc1 fcl fu0 fu1 ful fo0 fo1 fol
  have Nc := Lib.hid (Vc.out.on hb)
  have Nu := Lib.hid (Vu.out.on hb)
  have No := Lib.hid (Vo.out.on hb)
  have NB := Lib.hid (HB.out.trans (hb.mono HB.out.size))
  clear hb HB Vc Vu Vo
  have Vc := Lib.hid Nc.out
  clear Nc
  have Vu := Lib.hid Nu.out
  clear Nu
  have Vo := Lib.hid No.out
  clear No
  have HB := Lib.hid NB.out
  clear NB
  have fc0 := Vc.out.c0
  have fc1 := Vc.out.c1
  have fcl := Vc.out.lt
  have fu0 := Vu.out.c0
  have fu1 := Vu.out.c1
  have ful := Vu.out.lt
  have fo0 := Vo.out.c0
  have fo1 := Vo.out.c1
  have fol := Vo.out.lt
  have Nc := Lib.hid (Vc.out.alloc (.cells #[.int .i64 view, .slice A5 n5 c5] 25))
  have Nu := Lib.hid (Vu.out.alloc (.cells #[.int .i64 view, .slice A5 n5 c5] 25))
  have No := Lib.hid (Vo.out.alloc (.cells #[.int .i64 view, .slice A5 n5 c5] 25))
  have Nx := Lib.hid (Var.new hq2 view)
  have NB := Lib.hid (HB.out.alloc HB.out.size (.cells #[.int .i64 view, .slice A5 n5 c5] 25))
  clear hq2
  obtain rfl : n1 = n5 := by rw [← M1.out, ← MLx.out]; exact GS.out.2.2.symm
  clear HB Vc Vu Vo
  have Vc := Lib.hid Nc.out
  clear Nc
  have Vu := Lib.hid Nu.out
  clear Nu
  have Vo := Lib.hid No.out
  clear No
  have Vx := Lib.hid Nx.out
  clear Nx
  have HB := Lib.hid NB.out
  clear NB
  go_wp2_with fail
  refine (chainPut_any a view _ _ _ (settledM r) u0 _ (HE.out.below HB.out) Vx.out.nods hn1 HGS.out).mono ?_
  rintro e w6 hq
  obtain ⟨A6, n6, c6, rfl, hq1, hq2, hb⟩ := hq.yes HLT.out
  clear hq
  have MLy := Lib.hid hq1
  clear hq1
  clear fc0 fc1 fcl fu0 fu1 ful fo0 fo1 fol
  have Nc := Lib.hid (Vc.out.on hb)
  have Nu := Lib.hid (Vu.out.on hb)
  have No := Lib.hid (Vo.out.on hb)
  have Nx := Lib.hid (Vx.out.on hb)
  have NB := Lib.hid (HB.out.trans (hb.mono HB.out.size))
  clear hb HB Vc Vu Vo Vx
  have Vc := Lib.hid Nc.out
  clear Nc
  have Vu := Lib.hid Nu.out
  clear Nu
  have Vo := Lib.hid No.out
  clear No
  have Vx := Lib.hid Nx.out
  clear Nx
  have HB := Lib.hid NB.out
  clear NB
  have fc0 := Vc.out.c0
  have fc1 := Vc.out.c1
  have fcl := Vc.out.lt
  have fu0 := Vu.out.c0
  have fu1 := Vu.out.c1
  have ful := Vu.out.lt
  have fo0 := Vo.out.c0
  have fo1 := Vo.out.c1
  have fol := Vo.out.lt
  have fx0 := Vx.out.c0
  have fx1 := Vx.out.c1
  have fxl := Vx.out.lt
  have Nc := Lib.hid (Vc.out.alloc (.cells #[.int .i64 u, .slice A6 n6 c6] 25))
  have Nu := Lib.hid (Vu.out.alloc (.cells #[.int .i64 u, .slice A6 n6 c6] 25))
  have No := Lib.hid (Vo.out.alloc (.cells #[.int .i64 u, .slice A6 n6 c6] 25))
  have Nx := Lib.hid (Vx.out.alloc (.cells #[.int .i64 u, .slice A6 n6 c6] 25))
  have Ny := Lib.hid (Var.new hq2 u)
  have NB := Lib.hid (HB.out.alloc HB.out.size (.cells #[.int .i64 u, .slice A6 n6 c6] 25))
  clear hq2
  obtain rfl : n3 = n6 := by rw [← MLo.out, ← MLy.out]
  clear HB Vc Vu Vo Vx
  have Vc := Lib.hid Nc.out
  clear Nc
  have Vu := Lib.hid Nu.out
  clear Nu
  have Vo := Lib.hid No.out
  clear No
  have Vx := Lib.hid Nx.out
  clear Nx
  have Vy := Lib.hid Ny.out
  clear Ny
  have HB := Lib.hid NB.out
  clear NB
  go_wp2_with fail
  refine (sameChain_same u _ _ n3 _ _ r2 _ Vy.out.nods Vo.out.nods hn2 HG2.out).mono ?_
  rintro e w7 ⟨rfl, hb⟩
  clear fc0 fc1 fcl fu0 fu1 ful fo0 fo1 fol fx0 fx1 fxl
  have Nc := Lib.hid (Vc.out.on hb)
  have Nu := Lib.hid (Vu.out.on hb)
  have No := Lib.hid (Vo.out.on hb)
  have Nx := Lib.hid (Vx.out.on hb)
  have Ny := Lib.hid (Vy.out.on hb)
  have NB := Lib.hid (HB.out.trans (hb.mono HB.out.size))
  clear hb HB Vc Vu Vo Vx Vy
  have Vc := Lib.hid Nc.out
  clear Nc
  have Vu := Lib.hid Nu.out
  clear Nu
  have Vo := Lib.hid No.out
  clear No
  have Vx := Lib.hid Nx.out
  clear Nx
  have Vy := Lib.hid Ny.out
  clear Ny
  have HB := Lib.hid NB.out
  clear NB
  have fc0 := Vc.out.c0
  have fc1 := Vc.out.c1
  have fcl := Vc.out.lt
  have fu0 := Vu.out.c0
  have fu1 := Vu.out.c1
  have ful := Vu.out.lt
  have fo0 := Vo.out.c0
  have fo1 := Vo.out.c1
  have fol := Vo.out.lt
  have fx0 := Vx.out.c0
  have fx1 := Vx.out.c1
  have fxl := Vx.out.lt
  have fy0 := Vy.out.c0
  have fy1 := Vy.out.c1
  have fyl := Vy.out.lt
  go_wp2
  go_ret
  exact ⟨rfl, HB.out⟩
end Go.Proofs.YtcomppiglhibkaaDoor
/- The tied card 'Rows.FnChainPutLateCardSaid', out of the row's statement 'Rows.FnChainPutLateSaid': the law returns true for every input, on every tape, free of races, and each argument reads behind the call as it read before; the variable errTake laid. The walk is chainPutLate_walk; here it is carried from the model over to the true program and lifted into the given row. -/
namespace Go.Proofs.YtcomppiglhibkaaDoor.fnChainPutLate
open Go Go.Conc Go.ChangeShapes Go.WideShapes Go.ChangeAt Go.RowKit
set_option linter.unusedVariables false

set_option maxRecDepth 100000 in
theorem lifted (os : Os) (started : os.Started) (H : Type) (enc : TypeId × Value → H) :
    ReturnsInLeavingWide {} Tryd.checked os 4 .any (fun w args => (Rows.fnChainPutLateSpec.pre enc Tryd.prog Tryd.f4 Rows.fnChainPutLateRow.domain false w args ∧ laidMetH Tryd.prog laidList w) ∧ sizedMet enc Tryd.prog Tryd.f4 (OpenSpec.ofChange Rows.fnChainPutLateSpec) false w args)
      (Rows.fnChainPutLateSpec.post enc Tryd.prog Tryd.f4 false true false false) := by
  refine leaving_and (C := Tryd.checked) (X := fun w _ => laidMetH Tryd.prog laidList w) (fun _ _ _ hh h => h.of_heap hh) ownK started Tryd.func4
    (ChangeSpec.witness_at (enc := enc) (C := Tryd.checked) (os := os) (X := fun w _ => laidMetH Tryd.prog laidList w) false (laidWorld os) #[.slice none 0 0] 8 rfl (by kernel_rfl) (by kernel_rfl) (by kernel_rfl) (by kernel_rfl) (by kernel_rfl) laid_metH) ?_
  intro W base args ds gs before hval0 hW hL
  have hval : ∀ (j : Nat) t v, Tryd.f4.params[j]? = some t → args[j]? = some v → Value.okWide Tryd.prog W .any base t v := hval0
  have hW' := hW
  obtain ⟨p, q, hA0, hV, rfl, hfz, hnd⟩ := hW
  have hA : DataW.TrodAll enc Tryd.prog W 0 (fun _ => true) true Tryd.f4.params.toList args.toList ds p := hA0
  rw [Tryd.params4] at hA hval
  obtain ⟨v0, vs0, d0, ds0, p0, q0, hargs, rfl, rfl, h0, r0⟩ := trodAll_cons hA
  obtain ⟨rfl, rfl, rfl⟩ := trodAll_nil r0
  obtain rfl : args = #[v0] := by cases args; simp_all
  have hV' : DataW.TrodVars enc Tryd.prog W (fun _ => true) ["loop.example/chainfiles/impl.errTake"] gs q := hV
  obtain ⟨g1, rfl⟩ := trodVars_len hV'
  obtain ⟨ea, he⟩ := err_of_laid hL
  have k0 := h0
  have lt0 : ∀ x ∈ p0, x.block < W.heap.size := by obtain ⟨m, hm⟩ := k0; exact DataW.trod_lt m _ _ _ hm
  obtain ⟨A0, n0, c0, l0, rfl, f0, g0⟩ := reads_bytes (hval 0 22 v0 rfl rfl) h0
  clear hA0 hval0
  obtain ⟨M, last, o, w', t', e1, e2, e3, e4⟩ := mo_run fmo4 (by kernel_rfl) (by decide) (by kernel_rfl) #[.slice A0 n0 c0] W (fun w hw => chainPutLate_walk A0 n0 c0 l0 ea w (he.brk hw) (brk_flat hw f0) g0)
  refine ⟨M, last, o, w', t', e1, e2, e3, e4.mono fun v hp => ?_⟩
  obtain ⟨rfl, bel⟩ := hp
  exact ⟨_, _, _, [], _, _, hW', trodAll_mk1 (shut_bool Tryd.underlying4 _), (trodAll_cons_mk (BelowT.trod laidOut (by kernel_rfl) (of_decide_eq_true (by kernel_rfl)) k0 bel lt0) trodAll_mk0), BelowT.trodVars bel hV', bel.frame _, fun h => by cases h⟩

theorem over : Rows.fnChainPutLateRow.holds Tryd.pinned (OpenSpec.ofChange Rows.fnChainPutLateSpec) :=
  OpenClaim.holds_of_wide_leaving 4 Tryd.f4 rfl rfl rfl rfl rfl rfl rfl ⟨rfl, rfl, rfl, rfl, rfl⟩ rfl rfl rfl rfl rfl (by kernel_rfl) Tryd.func4 (by kernel_rfl)
    (of_decide_eq_true (by kernel_rfl)) (by unfold Func.isWrapper; first | (rw [if_pos (by decide +kernel)]; kernel_rfl) | (rw [if_neg (by decide +kernel)]; exact ⟨rfl, rfl⟩))
    (fun os started H enc _ => lifted os started H enc)

theorem proved : Rows.FnChainPutLateCardSaid :=
  tied_goes .later [.sentinel] true Rows.fnChainPutLateCard.stood.harness true
    over (by kernel_rfl) fnChainPutLate_row_tie rfl ⟨rfl, rfl⟩ (by kernel_rfl) rfl
    (fun f fn hf hfn => by
      obtain rfl : f = 4 := Option.some.inj ((show Tryd.prog.funcNamed "loop.example/chainfiles/laws.FnChainPutLate" = some 4 by kernel_rfl).symm.trans hf) |>.symm
      obtain rfl : fn = Tryd.f4 := (Option.some.inj (Tryd.func4.symm.trans hfn)).symm
      exact ⟨by kernel_rfl, fun j t ht => by
        rw [Tryd.params4] at ht
        rcases j with _ | j
        · obtain rfl : 22 = t := by simpa using ht
          exact (show Tryd.prog.wantsStandIn 22 = false by kernel_rfl)
        · simp at ht⟩)
    (by kernel_rfl)
#print axioms proved
end Go.Proofs.YtcomppiglhibkaaDoor.fnChainPutLate
