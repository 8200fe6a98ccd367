/- The texts DrawL DrawJ DrawP VarU NodeG ReadM PutR Read LChainPut ClaimChainPut, joined. -/
import Derived.Deep.RegionLaw
import Derived.Test.YtcomppiglhibkaaGreatDoorC1
import Derived.Test.YtcomppiglhibkaaGreatDoorB2
import Derived.Test.YtcomppiglhibkaaGreatDoorP1
import Derived.Test.YtcomppiglhibkaaGreatDoorB1
import Derived.Test.YtcomppiglhibkaaGreatDoorL1
import Derived.Test.YtcomppiglhibkaaGreatDoorB4
/- Drawing out of bytes: a chain and the id of a node to drop. -/
namespace Go.Proofs.YtcomppiglhibkaaGreatDoor
open Go.RowKit

end Go.Proofs.YtcomppiglhibkaaGreatDoor
/- Drawing out of bytes: a chain and the id of a node to lose; a chain and the id of a new node. -/
namespace Go.Proofs.YtcomppiglhibkaaGreatDoor
open Go.RowKit

theorem Rd.keepB {w w' : World} {rb B p : Nat} (h : Rd w rb B p) (hk : ∀ k, k < B ∨ k = rb → w'.heap[k]? = w.heap[k]?) : Rd w' rb B p := by
  obtain ⟨hB, A, n, c, l, hg, hf, hb, hn⟩ := h
  exact ⟨hB, A, n, c, l, (hk rb (.inr rfl)).trans hg, hf.keep (fun k _ h2 => hk k (.inl h2)), hb, hn⟩
/-- what opening a code whose bytes lie below B leaves -/
def OpenedLow (w : World) (B : Nat) (e : Ending) (w' : World) : Prop :=
  ∃ rb, e = .returned (.pointer (some ⟨rb, 0, none⟩)) ∧ w.heap.size ≤ rb ∧ Rd w' rb B 0 ∧ Below w.heap.size w w'
set_option maxHeartbeats 1000000 in
theorem openLow_any (A : Option Addr) (n c B : Nat) (l : List Int) (w : World) (h : Flat encU8 1 w 0 B A n c l) (hB : B ≤ w.heap.size) (hl : ∀ x ∈ l, 0 ≤ x ∧ x ≤ 255) :
    Calls Mo.prog 32 #[.slice A n c] w (OpenedLow w B) := by
  have hnc := h.2.1
  have hc : c ≤ 9223372036854775807 := by have := h.2.2.1; unfold maxLen at *; omega
  have H := Lib.hid h
  have HL := Lib.hid hl
  clear h hl
  by_cases hn : n ≤ 2000
  · go_enter Mo.func32, Tryz.ntmps32
    go_wp2
    go_ret
    refine ⟨w.heap.size, rfl, Nat.le_refl _, ⟨hB, A, n, c, l, heap_alloc_new _ _, H.out.below ((Below.refl _ _).alloc (Nat.le_refl _) _) hB, HL.out, hn⟩, (Below.refl _ _).alloc (Nat.le_refl _) _⟩
  · go_enter Mo.func32, Tryz.ntmps32
    go_wp2
    go_ret
    refine ⟨w.heap.size, rfl, Nat.le_refl _, ⟨hB, A, 2000, c, l.take 2000, heap_alloc_new _ _, (H.out.take_ (by omega)).below ((Below.refl _ _).alloc (Nat.le_refl _) _) hB, fun x hx => HL.out x (List.mem_of_mem_take hx), Nat.le_refl _⟩, (Below.refl _ _).alloc (Nat.le_refl _) _⟩

/-- a draw of a chain and more under way: the result's block is the first new one (its cells cs), the reader behind it, the chain's block s, the row of nodes below hi -/
structure DJ (w0 w : World) (rb p s : Nat) (cs : Array Value) (view : Int) (nv : Value) (l : List Nod) (hi : Nat) : Prop where
  rd : Rd w rb w0.heap.size p
  bel : Below w0.heap.size w0 w
  res : Blk w w0.heap.size cs 25
  rb0 : w0.heap.size < rb
  chn : Blk w s #[.int .i64 view, nv] 25
  s0 : w0.heap.size < s
  his : hi ≤ w.heap.size
  row : NodRow w w0.heap.size hi nv l
section
variable {w0 w w' : World} {rb p p' s : Nat} {cs : Array Value} {view : Int} {nv : Value} {l : List Nod} {hi : Nat}
theorem DJ.picked (h : DJ w0 w rb p s cs view nv l hi) (hr : Rd w' rb w0.heap.size p') (hg : w.grownBy w' (some rb)) : DJ w0 w' rb p' s cs view nv l hi := by
  have hrb := h.rb0
  obtain ⟨ds, hd⟩ := rd_block h.rd
  have hsr : s ≠ rb := by rintro rfl; exact absurd (blk_type h.chn hd) (by decide)
  exact ⟨hr, h.bel.grown hg h.bel.size (fun k e => by cases e; omega), h.res.pick hg (by omega), hrb, h.chn.pick hg hsr, h.s0, Nat.le_trans h.his hg.size,
    h.row.keepT (fun k cs t hk ht => hg.block k (lt_of_block hk) (fun e => by
      injection e with e; subst e
      have := blk_type hk hd
      rcases ht with rfl | rfl <;> exact absurd this (by decide)))⟩
theorem DJ.drew (h : DJ w0 w rb p s cs view nv l hi) : DJ w0 w.drew rb p s cs view nv l hi :=
  ⟨h.rd.keep (fun _ _ => rfl), h.bel.drew, h.res, h.rb0, h.chn, h.s0, h.his, h.row.keep (fun _ _ _ => rfl)⟩
theorem DJ.store {a b u v : Value} (h : DJ w0 w rb p s #[a, b] view nv l hi) : DJ w0 ((w.setCell ⟨w0.heap.size, 0, none⟩ u).setCell ⟨w0.heap.size, 1, none⟩ v) rb p s #[u, v] view nv l hi := by
  have hrb := h.rb0
  have hs0 := h.s0
  have hc : w.heap[w0.heap.size]? = some (.cells #[a, b] 25 (0, 0)) := h.res
  have off : ∀ k, k ≠ w0.heap.size → ((w.setCell ⟨w0.heap.size, 0, none⟩ u).setCell ⟨w0.heap.size, 1, none⟩ v).heap[k]? = w.heap[k]? := fun k hk => by rw [Below.heap_setCell _ _ _ _ hk, Below.heap_setCell _ _ _ _ hk]
  exact ⟨h.rd.keepB (fun k hk => off k (by omega)), (h.bel.setCell (p := ⟨w0.heap.size, 0, none⟩) (Nat.le_refl _) _).setCell (p := ⟨w0.heap.size, 1, none⟩) (Nat.le_refl _) _, (h.res.set 0 u).set 1 v, hrb, (off s (by omega)).trans h.chn, hs0, by simpa [World.setCell] using h.his,
    h.row.keepT (fun k cs t hk ht => off k (by
      rintro rfl
      have := blk_type hk hc
      rcases ht with rfl | rfl <;> exact absurd this (by decide)))⟩
theorem DJ.post (h : DJ w0 w rb p s cs view nv l hi) : NodRow w w0.heap.size w.heap.size nv l ∧ Below w0.heap.size w0 w := ⟨h.row.mono h.his, h.bel⟩
/-- opened, and a chain drawn by l91Id -/
theorem DJ.start {w1 w2 : World} {n c : Nat} {A : Option Addr} (hb : Below (w0.heap.size + 1) (w0.alloc (.cells #[.int .i64 0, .slice none 0 0] 25)) w1) (hrb : w0.heap.size + 1 ≤ rb) (hr : Rd w2 rb w0.heap.size p) (hg : w1.grownBy w2 (some rb))
    (hrow : NodRow w2 w1.heap.size w2.heap.size (.slice A n c) l) : DJ w0 (w2.alloc (.cells #[.int .i64 view, .slice A n c] 25)) rb p w2.heap.size #[.int .i64 0, .slice none 0 0] view (.slice A n c) l w2.heap.size := by
  have hs := hb.size
  simp only [World.size_alloc] at hs
  have hb' : Below (w0.alloc (.cells #[.int .i64 0, .slice none 0 0] 25)).heap.size (w0.alloc (.cells #[.int .i64 0, .slice none 0 0] 25)) w1 := by rw [World.size_alloc]; exact hb
  have hB : Below w0.heap.size w0 w1 := below_box hb'
  have hgs := hg.size
  have k1 : Blk w1 w0.heap.size #[.int .i64 0, .slice none 0 0] 25 := (Blk.new w0 _ _).below hb'
  have hB2 : Below w0.heap.size w0 w2 := hB.grown hg (by omega) (fun k e => by cases e; omega)
  exact ⟨hr.below ((Below.refl _ _).alloc (Nat.le_refl _) _), hB2.alloc (by omega) _, (k1.pick hg (by omega)).alloc _, by omega, Blk.new w2 _ _, by omega, by simp, (hrow.lower (by omega)).keep (fun _ _ h => Below.heap_alloc _ _ _ h)⟩
end

end Go.Proofs.YtcomppiglhibkaaGreatDoor
/- Drawing out of bytes: a chain and an update to write. -/
namespace Go.Proofs.YtcomppiglhibkaaGreatDoor
open Go.RowKit

/-- a draw of a chain and an update under way: the results' blocks are the first new ones (their cells cs and us), the reader behind them, the chain's block s, the row of nodes -/
structure DU (w0 w : World) (rb p s : Nat) (cs us : Array Value) (view : Int) (nv : Value) (l : List Nod) : Prop where
  rd : Rd w rb w0.heap.size p
  bel : Below w0.heap.size w0 w
  res : Blk w w0.heap.size cs 25
  upd : Blk w (w0.heap.size + 1) us 27
  rb0 : w0.heap.size + 1 < rb
  chn : Blk w s #[.int .i64 view, nv] 25
  s0 : w0.heap.size + 1 < s
  row : NodRow w (w0.heap.size + 2) w.heap.size nv l
section
variable {w0 w w' : World} {rb p p' s : Nat} {cs us : Array Value} {view : Int} {nv : Value} {l : List Nod}
theorem DU.picked (h : DU w0 w rb p s cs us view nv l) (hr : Rd w' rb w0.heap.size p') (hg : w.grownBy w' (some rb)) : DU w0 w' rb p' s cs us view nv l := by
  have hrb := h.rb0
  obtain ⟨ds, hd⟩ := rd_block h.rd
  have hsr : s ≠ rb := by rintro rfl; exact absurd (blk_type h.chn hd) (by decide)
  exact ⟨hr, h.bel.grown hg h.bel.size (fun k e => by cases e; omega), h.res.pick hg (by omega), h.upd.pick hg (by omega), hrb, h.chn.pick hg hsr, h.s0,
    (h.row.keepT (fun k cs t hk ht => hg.block k (lt_of_block hk) (fun e => by
      injection e with e; subst e
      have := blk_type hk hd
      rcases ht with rfl | rfl <;> exact absurd this (by decide)))).mono hg.size⟩
theorem DU.drew (h : DU w0 w rb p s cs us view nv l) : DU w0 w.drew rb p s cs us view nv l :=
  ⟨h.rd.keepB (fun _ _ => rfl), h.bel.drew, h.res, h.upd, h.rb0, h.chn, h.s0, h.row.keep (fun _ _ _ => rfl)⟩
theorem DU.store {a b u v : Value} (h : DU w0 w rb p s #[a, b] us view nv l) : DU w0 ((w.setCell ⟨w0.heap.size, 0, none⟩ u).setCell ⟨w0.heap.size, 1, none⟩ v) rb p s #[u, v] us view nv l := by
  have hrb := h.rb0
  have hs0 := h.s0
  have kp : ∀ k, k ≠ w0.heap.size → ((w.setCell ⟨w0.heap.size, 0, none⟩ u).setCell ⟨w0.heap.size, 1, none⟩ v).heap[k]? = w.heap[k]? := fun k hk => by rw [Below.heap_setCell _ _ _ _ hk, Below.heap_setCell _ _ _ _ hk]
  exact ⟨h.rd.keepB (fun k hk => kp k (by omega)), (h.bel.setCell (p := ⟨w0.heap.size, 0, none⟩) (Nat.le_refl _) _).setCell (p := ⟨w0.heap.size, 1, none⟩) (Nat.le_refl _) _, (h.res.set 0 u).set 1 v,
    (h.upd.far (a := ⟨w0.heap.size, 0, none⟩) (by show w0.heap.size + 1 ≠ w0.heap.size; omega) _).far (a := ⟨w0.heap.size, 1, none⟩) (by show w0.heap.size + 1 ≠ w0.heap.size; omega) _, hrb,
    (h.chn.far (a := ⟨w0.heap.size, 0, none⟩) (by show s ≠ w0.heap.size; omega) _).far (a := ⟨w0.heap.size, 1, none⟩) (by show s ≠ w0.heap.size; omega) _, hs0,
    (h.row.keep (fun k h1 _ => kp k (by omega))).mono (by simp [World.setCell])⟩
theorem DU.storeU {a b u v : Value} (h : DU w0 w rb p s cs #[a, b] view nv l) : DU w0 ((w.setCell ⟨w0.heap.size + 1, 0, none⟩ u).setCell ⟨w0.heap.size + 1, 1, none⟩ v) rb p s cs #[u, v] view nv l := by
  have hrb := h.rb0
  have hs0 := h.s0
  have kp : ∀ k, k ≠ w0.heap.size + 1 → ((w.setCell ⟨w0.heap.size + 1, 0, none⟩ u).setCell ⟨w0.heap.size + 1, 1, none⟩ v).heap[k]? = w.heap[k]? := fun k hk => by rw [Below.heap_setCell _ _ _ _ hk, Below.heap_setCell _ _ _ _ hk]
  exact ⟨h.rd.keepB (fun k hk => kp k (by omega)), (h.bel.setCell (p := ⟨w0.heap.size + 1, 0, none⟩) (by show w0.heap.size ≤ w0.heap.size + 1; omega) _).setCell (p := ⟨w0.heap.size + 1, 1, none⟩) (by show w0.heap.size ≤ w0.heap.size + 1; omega) _,
    (h.res.far (a := ⟨w0.heap.size + 1, 0, none⟩) (by show w0.heap.size ≠ w0.heap.size + 1; omega) _).far (a := ⟨w0.heap.size + 1, 1, none⟩) (by show w0.heap.size ≠ w0.heap.size + 1; omega) _, (h.upd.set 0 u).set 1 v, hrb,
    (h.chn.far (a := ⟨w0.heap.size + 1, 0, none⟩) (by show s ≠ w0.heap.size + 1; omega) _).far (a := ⟨w0.heap.size + 1, 1, none⟩) (by show s ≠ w0.heap.size + 1; omega) _, hs0,
    (h.row.keep (fun k h1 _ => kp k (by omega))).mono (by simp [World.setCell])⟩
theorem DU.post (h : DU w0 w rb p s cs us view nv l) : NodRow w w0.heap.size w.heap.size nv l ∧ Below w0.heap.size w0 w := ⟨h.row.lower (by omega), h.bel⟩
theorem DU.start {w1 w2 : World} {A : Option Addr} {n c : Nat} {cs us : Array Value}
    (hb : Below ((w0.alloc (.cells cs 25)).alloc (.cells us 27)).heap.size ((w0.alloc (.cells cs 25)).alloc (.cells us 27)) w1) (hrb : w0.heap.size + 2 ≤ rb) (hr1 : rb < w1.heap.size)
    (hr : Rd w2 rb w0.heap.size p) (hg : w1.grownBy w2 (some rb)) (hrow : NodRow w2 w1.heap.size w2.heap.size (.slice A n c) l) :
    DU w0 (w2.alloc (.cells #[.int .i64 view, .slice A n c] 25)) rb p w2.heap.size cs us view (.slice A n c) l := by
  have hs := hb.size
  simp only [World.size_alloc] at hs
  have k0 := ((Blk.new w0 cs 25).alloc (.cells us 27)).below hb
  have k1 := (Blk.new (w0.alloc (.cells cs 25)) us 27).below hb
  simp only [World.size_alloc] at k1
  have hB : Below w0.heap.size w0 w1 := below_box (below_box hb)
  have hB2 : Below w0.heap.size w0 w2 := hB.grown hg (by omega) (fun k e => by cases e; omega)
  have h12 := hg.size
  exact ⟨hr.keepB (fun k hk => Below.heap_alloc _ _ _ (by have := hr1; omega)), hB2.alloc hB2.size _, (k0.pick hg (by omega)).alloc _, (k1.pick hg (by omega)).alloc _, by omega, Blk.new w2 _ _, by omega,
    ((hrow.lower (by omega)).keep (fun k _ h2 => Below.heap_alloc _ _ _ h2)).mono (by simp)⟩
end
/-- what drawing a chain and an update out of bytes leaves -/
def DrawnChainUpd (w : World) (e : Ending) (w' : World) : Prop :=
  ∃ (view : Int) (A : Option Addr) (n c : Nat) (l : List Nod) (u : Upd), e = .returned (.tuple #[.agg #[.int .i64 view, .slice A n c], .agg #[.int .i64 u.key, .int .i64 u.value]]) ∧ l.length = n ∧ 1 ≤ n ∧ n ≤ 5 ∧ (∀ x ∈ l, x.log.length ≤ 13) ∧ NodRow w' w.heap.size w'.heap.size (.slice A n c) l ∧ Below w.heap.size w w'

set_option maxHeartbeats 4000000 in
theorem drawChainWrite_any (A : Option Addr) (n c : Nat) (l : List Int) (w : World) (h : Flat encU8 1 w 0 w.heap.size A n c l) (hl : ∀ x ∈ l, 0 ≤ x ∧ x ≤ 255) :
    Calls Mo.prog 17 #[.slice A n c] w (DrawnChainUpd w) := by
  have H := Lib.hid (h.below (((Below.refl w.heap.size w).alloc (Nat.le_refl _) (.cells #[.int .i64 0, .slice none 0 0] 25)).alloc (by simp) (.cells #[.int .i64 0, .int .i64 0] 27)) (Nat.le_refl _))
  have HL := Lib.hid hl
  clear h hl
  go_enter Mo.func17, Tryz.ntmps17
  go_wp2_with fail
  refine (openLow_any _ _ _ w.heap.size l _ H.out (by simp; omega) HL.out).mono ?_
  rintro e w1 ⟨rb, rfl, hrb, hr1, hb1⟩
  simp only [World.size_alloc] at hrb
  have R1 := Lib.hid hr1
  have B1 := Lib.hid hb1
  have hrl := hr1.lt
  clear hr1 hb1 H
  go_wp2_with fail
  refine (l91Chain_any rb _ _ _ R1.out (by omega)).mono ?_
  rintro e w2 ⟨view, A', n', c', p', l', rfl, h1, h2, h3, h4, hp, hr2, h6, h7⟩
  have D2 := Lib.hid (DU.start (view := view) B1.out hrb hrl hr2 h7 h6)
  have HL' := Lib.hid (And.intro h1 (And.intro h2 (And.intro h3 h4)))
  clear h1 h2 h3 h4 hr2 h6 h7 R1 B1 hrl
  have d0 := D2.out.chn.cell (i := 0) (v := .int .i64 view) rfl
  have d1 := D2.out.chn.cell (i := 1) (v := .slice A' n' c') rfl
  have z0 := D2.out.res.cell (i := 0) (v := .int .i64 0) rfl
  have z1 := D2.out.res.cell (i := 1) (v := .slice none 0 0) rfl
  have y0 := D2.out.res.free 0
  have y1 := D2.out.res.free 1
  have q0 := D2.out.upd.cell (i := 0) (v := .int .i64 0) rfl
  have q1 := D2.out.upd.cell (i := 1) (v := .int .i64 0) rfl
  have f0 := D2.out.upd.free 0
  have f1 := D2.out.upd.free 1
  have YD := Lib.hid (D2.out.store (u := .int .i64 view) (v := .slice A' n' c')).drew
  have DD := Lib.hid D2.out.drew
  have RD := Lib.hid DD.out.rd
  have RS := Lib.hid YD.out.rd
  have hs0 := D2.out.s0
  have hn : w.heap.size ≠ w2.heap.size := by omega
  have hn' : w2.heap.size ≠ w.heap.size := by omega
  have hp9 : p' ≤ 549755813888 := by omega
  clear hs0
  go_wp2_with fail
  go_region_law ((first
    | (rw [if_pos (by rfl)]; go_simp; go_at_call 34; (with_reducible refine (l91Update_any rb _ p' _ RD.out hp9).mono ?_); rintro e w4 ⟨u, p4, rfl, _, hr4, hg4⟩; have D4 := Lib.hid (DD.out.picked hr4 hg4)
       have x0 := D4.out.chn.cell (i := 0) (v := .int .i64 view) rfl; have x1 := D4.out.chn.cell (i := 1) (v := .slice A' n' c') rfl; have x2 := D4.out.res.cell (i := 0) (v := .int .i64 0) rfl; have x3 := D4.out.res.cell (i := 1) (v := .slice none 0 0) rfl; have x4 := D4.out.res.free 0; have x5 := D4.out.res.free 1
       have x6 := D4.out.upd.cell (i := 0) (v := .int .i64 0) rfl; have x7 := D4.out.upd.cell (i := 1) (v := .int .i64 0) rfl; have x8 := D4.out.upd.free 0; have x9 := D4.out.upd.free 1; clear hr4 hg4)
    | (rw [if_pos (by rfl)]; go_simp; go_at_call 34; (with_reducible refine (l91Update_any rb _ p' _ RS.out hp9).mono ?_); rintro e w4 ⟨u, p4, rfl, _, hr4, hg4⟩; have D4 := Lib.hid (YD.out.picked hr4 hg4)
       have x6 := D4.out.upd.cell (i := 0) (v := .int .i64 0) rfl; have x7 := D4.out.upd.cell (i := 1) (v := .int .i64 0) rfl; have x8 := D4.out.upd.free 0; have x9 := D4.out.upd.free 1; clear hr4 hg4)))
  all_goals
    go_wp2_with fail
    obtain ⟨h1, h2, h3, h4⟩ := HL'.out
    first
      | (have Z := (D4.out.store (u := .int .i64 view) (v := .slice A' n' c')).storeU (u := .int .i64 u.key) (v := .int .i64 u.value)
         exact bodyPost_ret (v := .tuple #[.agg #[.int .i64 view, .slice A' n' c'], .agg #[.int .i64 u.key, .int .i64 u.value]]) (by simp [results, Tryz.results17, go_sem, Z.res.cell (i := 0) (v := .int .i64 view) rfl, Z.res.cell (i := 1) (v := .slice A' n' c') rfl, Z.upd.cell (i := 0) (v := .int .i64 u.key) rfl, Z.upd.cell (i := 1) (v := .int .i64 u.value) rfl]) rfl ⟨view, A', n', c', l', u, rfl, h1, h2, h3, h4, Z.post⟩)
      | (have Z := (D4.out.storeU (u := .int .i64 u.key) (v := .int .i64 u.value)).store (u := .int .i64 view) (v := .slice A' n' c')
         exact bodyPost_ret (v := .tuple #[.agg #[.int .i64 view, .slice A' n' c'], .agg #[.int .i64 u.key, .int .i64 u.value]]) (by simp [results, Tryz.results17, go_sem, Z.res.cell (i := 0) (v := .int .i64 view) rfl, Z.res.cell (i := 1) (v := .slice A' n' c') rfl, Z.upd.cell (i := 0) (v := .int .i64 u.key) rfl, Z.upd.cell (i := 1) (v := .int .i64 u.value) rfl]) rfl ⟨view, A', n', c', l', u, rfl, h1, h2, h3, h4, Z.post⟩)
      | (have Z := D4.out.storeU (u := .int .i64 u.key) (v := .int .i64 u.value)
         exact bodyPost_ret (v := .tuple #[.agg #[.int .i64 view, .slice A' n' c'], .agg #[.int .i64 u.key, .int .i64 u.value]]) (by simp [results, Tryz.results17, go_sem, Z.res.cell (i := 0) (v := .int .i64 view) rfl, Z.res.cell (i := 1) (v := .slice A' n' c') rfl, Z.upd.cell (i := 0) (v := .int .i64 u.key) rfl, Z.upd.cell (i := 1) (v := .int .i64 u.value) rfl]) rfl ⟨view, A', n', c', l', u, rfl, h1, h2, h3, h4, Z.post⟩)
/-- the two results' blocks get what a draw handed back -/
theorem two_res {w w1 : World} {nv a b d e : Value} {l : List Nod} (hb : Below ((w.alloc (.cells #[.int .i64 0, .slice none 0 0] 25)).alloc (.cells #[.int .i64 0, .int .i64 0] 27)).heap.size ((w.alloc (.cells #[.int .i64 0, .slice none 0 0] 25)).alloc (.cells #[.int .i64 0, .int .i64 0] 27)) w1)
    (hrow : NodRow w1 ((w.alloc (.cells #[.int .i64 0, .slice none 0 0] 25)).alloc (.cells #[.int .i64 0, .int .i64 0] 27)).heap.size w1.heap.size nv l) :
    Blk w1 w.heap.size #[.int .i64 0, .slice none 0 0] 25 ∧ Blk w1 (w.heap.size + 1) #[.int .i64 0, .int .i64 0] 27 ∧
    Blk ((((w1.setCell ⟨w.heap.size, 0, none⟩ a).setCell ⟨w.heap.size, 1, none⟩ b).setCell ⟨w.heap.size + 1, 0, none⟩ d).setCell ⟨w.heap.size + 1, 1, none⟩ e) w.heap.size #[a, b] 25 ∧
    Blk ((((w1.setCell ⟨w.heap.size, 0, none⟩ a).setCell ⟨w.heap.size, 1, none⟩ b).setCell ⟨w.heap.size + 1, 0, none⟩ d).setCell ⟨w.heap.size + 1, 1, none⟩ e) (w.heap.size + 1) #[d, e] 27 ∧
    NodRow ((((w1.setCell ⟨w.heap.size, 0, none⟩ a).setCell ⟨w.heap.size, 1, none⟩ b).setCell ⟨w.heap.size + 1, 0, none⟩ d).setCell ⟨w.heap.size + 1, 1, none⟩ e) w.heap.size ((((w1.setCell ⟨w.heap.size, 0, none⟩ a).setCell ⟨w.heap.size, 1, none⟩ b).setCell ⟨w.heap.size + 1, 0, none⟩ d).setCell ⟨w.heap.size + 1, 1, none⟩ e).heap.size nv l ∧
    Below w.heap.size w ((((w1.setCell ⟨w.heap.size, 0, none⟩ a).setCell ⟨w.heap.size, 1, none⟩ b).setCell ⟨w.heap.size + 1, 0, none⟩ d).setCell ⟨w.heap.size + 1, 1, none⟩ e) := by
  have hs := hb.size
  simp only [World.size_alloc] at hs hrow
  have k0 := ((Blk.new w #[.int .i64 0, .slice none 0 0] 25).alloc (.cells #[.int .i64 0, .int .i64 0] 27)).below hb
  have k1 := (Blk.new (w.alloc (.cells #[.int .i64 0, .slice none 0 0] 25)) #[.int .i64 0, .int .i64 0] 27).below hb
  simp only [World.size_alloc] at k1
  have hB : Below w.heap.size w w1 := below_box (below_box hb)
  refine ⟨k0, k1, (((k0.set 0 a).set 1 b).far (a := ⟨w.heap.size + 1, 0, none⟩) (by show w.heap.size ≠ w.heap.size + 1; omega) _).far (a := ⟨w.heap.size + 1, 1, none⟩) (by show w.heap.size ≠ w.heap.size + 1; omega) _,
    (((k1.far (a := ⟨w.heap.size, 0, none⟩) (by show w.heap.size + 1 ≠ w.heap.size; omega) _).far (a := ⟨w.heap.size, 1, none⟩) (by show w.heap.size + 1 ≠ w.heap.size; omega) _).set 0 d).set 1 e,
    (((hrow.keep (fun k h1 _ => ?_)).mono (by simp [World.setCell])).lower (by omega)),
    (((hB.setCell (p := ⟨w.heap.size, 0, none⟩) (Nat.le_refl _) _).setCell (p := ⟨w.heap.size, 1, none⟩) (Nat.le_refl _) _).setCell (p := ⟨w.heap.size + 1, 0, none⟩) (by show w.heap.size ≤ w.heap.size + 1; omega) _).setCell (p := ⟨w.heap.size + 1, 1, none⟩) (by show w.heap.size ≤ w.heap.size + 1; omega) _⟩
  rw [Below.heap_setCell _ _ _ _ (by show k ≠ w.heap.size + 1; omega), Below.heap_setCell _ _ _ _ (by show k ≠ w.heap.size + 1; omega), Below.heap_setCell _ _ _ _ (by show k ≠ w.heap.size; omega), Below.heap_setCell _ _ _ _ (by show k ≠ w.heap.size; omega)]

set_option maxHeartbeats 4000000 in
theorem drawChainPut_any (A : Option Addr) (n c : Nat) (l : List Int) (w : World) (h : Flat encU8 1 w 0 w.heap.size A n c l) (hl : ∀ x ∈ l, 0 ≤ x ∧ x ≤ 255) :
    Calls Mo.prog 5 #[.slice A n c] w (DrawnChainUpd w) := by
  have H := Lib.hid ((h.box (.cells #[.int .i64 0, .slice none 0 0] 25)).box (.cells #[.int .i64 0, .int .i64 0] 27))
  have HL := Lib.hid hl
  clear h hl
  go_enter Mo.func5, Tryz.ntmps5
  go_wp2_with fail
  refine (drawChainWrite_any _ _ _ l _ H.out HL.out).mono ?_
  rintro e w1 ⟨view, A1, n1, c1, r, u, rfl, h1, h2, h3, h4, h6, hb1⟩
  have D := Lib.hid (two_res (a := .int .i64 view) (b := .slice A1 n1 c1) (d := .int .i64 u.key) (e := .int .i64 u.value) hb1 h6)
  have HL' := Lib.hid (And.intro h1 (And.intro h2 (And.intro h3 h4)))
  have z0 := D.out.1.cell (i := 0) (v := .int .i64 0) rfl
  have z1 := D.out.1.cell (i := 1) (v := .slice none 0 0) rfl
  have y0 := D.out.1.free 0
  have y1 := D.out.1.free 1
  have q0 := D.out.2.1.cell (i := 0) (v := .int .i64 0) rfl
  have q1 := D.out.2.1.cell (i := 1) (v := .int .i64 0) rfl
  have f0 := D.out.2.1.free 0
  have f1 := D.out.2.1.free 1
  clear h1 h2 h3 h4 h6 hb1
  go_wp2_with fail
  obtain ⟨h1, h2, h3, h4⟩ := HL'.out
  obtain ⟨_, _, b0, b1, hrow, hbel⟩ := D.out
  exact bodyPost_ret (v := .tuple #[.agg #[.int .i64 view, .slice A1 n1 c1], .agg #[.int .i64 u.key, .int .i64 u.value]]) (by simp [results, Tryz.results5, go_sem, b0.cell (i := 0) (v := .int .i64 view) rfl, b0.cell (i := 1) (v := .slice A1 n1 c1) rfl, b1.cell (i := 0) (v := .int .i64 u.key) rfl, b1.cell (i := 1) (v := .int .i64 u.value) rfl]) rfl ⟨view, A1, n1, c1, r, u, rfl, h1, h2, h3, h4, hrow, hbel⟩
end Go.Proofs.YtcomppiglhibkaaGreatDoor
/- An update in a block of the law's. -/
namespace Go.Proofs.YtcomppiglhibkaaGreatDoor
open Go.RowKit
def UVar (w : World) (s : Nat) (u : Upd) : Prop := Blk w s #[.int .i64 u.key, .int .i64 u.value] 27
section
variable {w w' : World} {s : Nat} {u : Upd}
theorem UVar.on (h : UVar w s u) (hb : Below w.heap.size w w') : UVar w' s u := Blk.below h hb
theorem UVar.alloc (h : UVar w s u) (o : Obj) : UVar (w.alloc o) s u := Blk.alloc h o
theorem UVar.new (w : World) (u : Upd) : UVar (w.alloc (.cells #[.int .i64 u.key, .int .i64 u.value] 27)) w.heap.size u := Blk.new w _ _
theorem UVar.c0 (h : UVar w s u) : w.cell? ⟨s, 0, none⟩ = some (.int .i64 u.key) := Blk.cell (i := 0) h rfl
theorem UVar.c1 (h : UVar w s u) : w.cell? ⟨s, 1, none⟩ = some (.int .i64 u.value) := Blk.cell (i := 1) h rfl
theorem UVar.lt (h : UVar w s u) : s < w.heap.size := Blk.lt h
end
end Go.Proofs.YtcomppiglhibkaaGreatDoor
/- The plain laws of what a node answers; no walk. -/
namespace Go.Proofs.YtcomppiglhibkaaGreatDoor
open Go.RowKit

theorem nodeRead_ok {x : Nod} {key : Int} (h : (nodeRead x key).2 ≠ 3) : nodeOk x = true ∧ inB key 0 4 = true := by
  cases hb : (nodeOk x && inB key 0 4)
  · exact absurd (by rw [nodeRead_bad hb]) h
  · simpa using hb
theorem nodeRead_waits {x : Nod} {key : Int} (h : (nodeRead x key).2 ≠ 3) : ((nodeRead x key).2 == 1) = keyWaits x key := by
  obtain ⟨h1, h2⟩ := nodeRead_ok h
  have hb : (nodeOk x && inB key 0 4) = true := by rw [h1, h2]; rfl
  cases hw : keyWaits x key
  · by_cases hv : valOf x.log key x.done.toNat < 0
    · rw [nodeRead_none hb hw hv]; rfl
    · rw [nodeRead_clean hb hw hv]; rfl
  · rw [nodeRead_ask hb hw]; rfl
theorem nodeRead_is0 {x : Nod} {key : Int} (h : (nodeRead x key).2 = 0) : keyWaits x key = false ∧ (nodeRead x key).1 = valOf x.log key x.done.toNat ∧ ¬ valOf x.log key x.done.toNat < 0 := by
  have h3 : (nodeRead x key).2 ≠ 3 := by rw [h]; decide
  obtain ⟨h1, h2⟩ := nodeRead_ok h3
  have hb : (nodeOk x && inB key 0 4) = true := by rw [h1, h2]; rfl
  cases hw : keyWaits x key
  · by_cases hv : valOf x.log key x.done.toNat < 0
    · rw [nodeRead_none hb hw hv] at h; exact absurd h (by decide)
    · exact ⟨rfl, by rw [nodeRead_clean hb hw hv], hv⟩
  · rw [nodeRead_ask hb hw] at h; exact absurd h (by decide)
theorem nodeRead_is2 {x : Nod} {key : Int} (h : (nodeRead x key).2 = 2) : keyWaits x key = false ∧ (nodeRead x key).1 = 0 ∧ valOf x.log key x.done.toNat < 0 := by
  have h3 : (nodeRead x key).2 ≠ 3 := by rw [h]; decide
  obtain ⟨h1, h2⟩ := nodeRead_ok h3
  have hb : (nodeOk x && inB key 0 4) = true := by rw [h1, h2]; rfl
  cases hw : keyWaits x key
  · by_cases hv : valOf x.log key x.done.toNat < 0
    · exact ⟨rfl, by rw [nodeRead_none hb hw hv], hv⟩
    · rw [nodeRead_clean hb hw hv] at h; exact absurd (show (0 : Int) = 2 from h) (by decide)
  · rw [nodeRead_ask hb hw] at h; exact absurd h (by decide)

theorem valOf_succ {l : List Upd} {k kk : Nat} {u : Upd} (hok : logOk l = true) (hk : kk < 5) (hu : l[k]? = some u) : valOf l kk (k + 1) = if u.key = (kk : Int) then u.value else valOf l kk k := by
  obtain ⟨ku, hku, hku5⟩ := logOk_key hok hu
  have h1 := stAt_at (l := l) (k := k + 1) hk
  have h2 := stAt_at (l := l) (k := k) hk
  rw [stAt_succ hu hku] at h1
  by_cases e : ku = kk
  · subst e
    rw [List.getElem?_set_self (by rw [stAt_len]; exact hk)] at h1
    injection h1 with h1
    rw [if_pos hku, ← h1]
  · rw [List.getElem?_set_ne e, h2] at h1
    injection h1 with h1
    rw [if_neg (by omega), ← h1]
theorem valOf_zero (l : List Upd) {kk : Nat} (hk : kk < 5) : valOf l kk 0 = -1 := by
  have h1 := stAt_at (l := l) (k := 0) hk
  have e : stAt l 0 = st0 := rfl
  rw [e] at h1
  match kk, hk with
  | 0, _ => injection h1 with h1; try exact h1.symm
  | 1, _ => injection h1 with h1; try exact h1.symm
  | 2, _ => injection h1 with h1; try exact h1.symm
  | 3, _ => injection h1 with h1; try exact h1.symm
  | 4, _ => injection h1 with h1; try exact h1.symm
theorem valOf_some {l : List Upd} {kk : Nat} (hok : logOk l = true) (hk5 : kk < 5) : ∀ k, k ≤ l.length → (valOf l kk k < 0 ↔ keyIn (l.take k) kk = false) := by
  intro k
  induction k with
  | zero => intro _; rw [valOf_zero l hk5]; simp [keyIn]
  | succ k ih =>
    intro hk
    have hu := List.getElem?_eq_getElem (l := l) (i := k) (by omega)
    have hi := ih (by omega)
    rw [valOf_succ hok hk5 hu]
    have hv : 0 ≤ l[k].value := by
      have := logOk_at hok hu
      simp only [updOk, Bool.and_eq_true, inB, decide_eq_true_eq] at this
      omega
    by_cases e : l[k].key = (kk : Int)
    · rw [if_pos e]
      have : keyIn (l.take (k + 1)) kk = true := keyIn_true (k := k) (u := l[k]) (by rw [List.getElem?_take, if_pos (by omega)]; exact hu) e
      rw [this]
      constructor
      · intro h; omega
      · intro h; cases h
    · rw [if_neg e, hi]
      have : keyIn (l.take (k + 1)) kk = keyIn (l.take k) kk := by
        unfold keyIn
        rw [List.take_succ_eq_append_getElem (by omega), List.any_append]
        simp [e]
      rw [this]
theorem valOf_keep {l : List Upd} {kk k : Nat} (hok : logOk l = true) (hk5 : kk < 5) (hn : keyIn (l.drop k) kk = false) : ∀ j, k + j ≤ l.length → valOf l kk (k + j) = valOf l kk k := by
  intro j
  induction j with
  | zero => intro _; rfl
  | succ j ih =>
    intro hj
    have hu := List.getElem?_eq_getElem (l := l) (i := k + j) (by omega)
    rw [show k + (j + 1) = k + j + 1 from by omega, valOf_succ hok hk5 hu]
    have : l[k + j].key ≠ (kk : Int) := by
      intro e
      have : keyIn (l.drop k) kk = true := keyIn_true (k := j) (u := l[k + j]) (by rw [List.getElem?_drop]; exact hu) e
      rw [hn] at this; cases this
    rw [if_neg this]
    exact ih (by omega)
theorem valOf_end {l : List Upd} {kk k : Nat} (hok : logOk l = true) (hk5 : kk < 5) (hk : k ≤ l.length) (hn : keyIn (l.drop k) kk = false) : valOf l kk l.length = valOf l kk k := by
  have := valOf_keep hok hk5 hn (l.length - k) (by omega)
  rwa [show k + (l.length - k) = l.length from by omega] at this
theorem keyIn_split {l : List Upd} {k : Nat} {key : Int} (h1 : keyIn (l.take k) key = false) (h2 : keyIn (l.drop k) key = false) : keyIn l key = false := by
  have : keyIn (l.take k ++ l.drop k) key = false := by
    unfold keyIn at *; rw [List.any_append, h1, h2]; rfl
  rwa [List.take_append_drop] at this
theorem pending_ok {x : Nod} {k : Nat} (h : nodeOk x = true) (hd : x.done = (k : Int)) : pending x = x.log.drop k := by simp [pending, h, hd]
theorem waits_pending {x : Nod} {key : Int} (h : nodeOk x = true) : keyWaits x key = keyIn (pending x) key := by simp [keyWaits, pending, h]
/-- a node that has been told all -/
theorem nodeRead_told {x : Nod} {key : Int} {n : Nat} (hl : x.log.length = n) (h1 : nodeOk x = true) (h2 : inB key 0 4 = true) : (nodeRead ⟨x.id, x.log, n⟩ key).2 ≠ 1 ∧ (nodeRead ⟨x.id, x.log, n⟩ key).2 ≠ 3 := by
  have ho : nodeOk ⟨x.id, x.log, n⟩ = true := by
    simp only [nodeOk, Bool.and_eq_true] at h1 ⊢
    refine ⟨h1.1, ?_⟩
    simp [inB, hl]
  have hb : (nodeOk ⟨x.id, x.log, n⟩ && inB key 0 4) = true := by rw [ho, h2]; rfl
  have hw : keyWaits ⟨x.id, x.log, n⟩ key = false := by
    simp [keyWaits, List.drop_eq_nil_of_le (show x.log.length ≤ n by omega), keyIn]
  by_cases hv : valOf x.log key n < 0
  · rw [nodeRead_none hb hw (by simpa using hv)]; exact ⟨by decide, by decide⟩
  · rw [nodeRead_clean hb hw (by simpa using hv)]; exact ⟨(show (0 : Int) ≠ 1 by decide), (show (0 : Int) ≠ 3 by decide)⟩
end Go.Proofs.YtcomppiglhibkaaGreatDoor
/- What a chain tells of a key: the model, in plain Lean. -/
namespace Go.Proofs.YtcomppiglhibkaaGreatDoor
open Go.RowKit

/-- what the tail tells of a key, and whether it has a value -/
def tailVal (l : List Nod) (key : Int) : Int := match l[l.length - 1]? with | some t => valOf t.log key t.log.length | none => -1
def told (x : Int) : Int × Bool := if x < 0 then (0, false) else (x, true)
def chainRead (v : Int) (l : List Nod) (key : Int) : Int × Bool := if chainOk v l && inB key 0 4 then told (tailVal l key) else (0, false)
def chainReadAt (v : Int) (l : List Nod) (id key : Int) : Int × Int :=
  if chainOk v l && inB key 0 4 then (match placeOf l id with
    | none => (0, 3)
    | some k => match l[k]? with
      | none => (0, 3)
      | some x => if (nodeRead x key).2 = 1 then (if (chainRead v l key).2 then ((chainRead v l key).1, 1) else (0, 2)) else nodeRead x key)
  else (0, 3)
theorem told_neg {x : Int} (h : x < 0) : told x = (0, false) := if_pos h
theorem told_pos {x : Int} (h : ¬ x < 0) : told x = (x, true) := if_neg h
theorem chainRead_bad {v : Int} {l : List Nod} {key : Int} (h : (chainOk v l && inB key 0 4) = false) : chainRead v l key = (0, false) := by unfold chainRead; rw [h]; rfl
theorem chainRead_ok {v : Int} {l : List Nod} {key : Int} (h : (chainOk v l && inB key 0 4) = true) : chainRead v l key = told (tailVal l key) := by unfold chainRead; rw [h]; rfl
theorem tailVal_at {l : List Nod} {key : Int} {t : Nod} {n : Nat} (hn : l.length = n) (h : l[n - 1]? = some t) : tailVal l key = valOf t.log key t.log.length := by subst hn; unfold tailVal; rw [h]
theorem readAt_bad {v : Int} {l : List Nod} {id key : Int} (h : (chainOk v l && inB key 0 4) = false) : chainReadAt v l id key = (0, 3) := by unfold chainReadAt; rw [h]; rfl
theorem readAt_none {v : Int} {l : List Nod} {id key : Int} (h : placeOf l id = none) : chainReadAt v l id key = (0, 3) := by unfold chainReadAt; rw [h]; split <;> rfl
theorem readAt_node {v : Int} {l : List Nod} {id key : Int} {k : Nat} {x : Nod} (h : (chainOk v l && inB key 0 4) = true) (hk : placeOf l id = some k) (hx : l[k]? = some x) :
    chainReadAt v l id key = if (nodeRead x key).2 = 1 then (if (chainRead v l key).2 then ((chainRead v l key).1, 1) else (0, 2)) else nodeRead x key := by
  unfold chainReadAt; rw [h, hk]; simp only [hx]; rfl
theorem valOf_prefix {a b : List Upd} {key : Int} {k : Nat} (h : a <+: b) (hk : k ≤ a.length) : valOf b key k = valOf a key k := by
  unfold valOf stAt; rw [take_prefix h hk]
theorem inB_nat {key : Int} (h : inB key 0 4 = true) : ∃ kk : Nat, key = (kk : Int) ∧ kk < 5 := by
  simp [inB] at h; exact ⟨key.toNat, by omega, by omega⟩
theorem nodeRead_cases {x : Nod} {key : Int} (h : (nodeOk x && inB key 0 4) = true) :
    (keyWaits x key = true ∧ nodeRead x key = (0, 1)) ∨ (keyWaits x key = false ∧ nodeRead x key = (if valOf x.log key x.done.toNat < 0 then (0, 2) else (valOf x.log key x.done.toNat, 0))) := by
  unfold nodeRead; rw [h]
  cases hw : keyWaits x key
  · exact .inr ⟨rfl, rfl⟩
  · exact .inl ⟨rfl, rfl⟩
/-- a node that has nothing of the key pending tells what the tail tells -/
theorem clean_tail {v : Int} {l : List Nod} {key : Int} {x : Nod} (h : Good v l) (hk : inB key 0 4 = true) (hx : x ∈ l) (hw : keyWaits x key = false) : valOf x.log key x.done.toNat = tailVal l key := by
  obtain ⟨a, t, rfl, htd, hall⟩ := good_tail h
  obtain ⟨kk, rfl, hkk⟩ := inB_nat hk
  rw [tailVal_at rfl (show (a ++ [t])[(a ++ [t]).length - 1]? = some t by simp)]
  have hxt := hall x hx
  have hok := nodeOk_iff.1 (h.2.2.2.2.1 x hx)
  have hlen := hxt.1.length_le
  rw [← valOf_prefix (key := (kk : Int)) hxt.1 (Nat.le_refl _)]
  unfold keyWaits at hw
  obtain ⟨j, hj⟩ : ∃ j, x.done.toNat + j = t.log.length := ⟨t.log.length - x.done.toNat, by omega⟩
  rw [← hj]
  exact (valOf_keep hok.2.2.1 hkk hw j (by omega)).symm
/-- who asks is told what the tail has -/
theorem readAt_asked {v : Int} {l : List Nod} {id key : Int} (h : (chainReadAt v l id key).2 = 1) : chainRead v l key = ((chainReadAt v l id key).1, true) := by
  cases hb : (chainOk v l && inB key 0 4)
  · rw [readAt_bad hb] at h; cases h
  · cases hp : placeOf l id with
    | none => rw [readAt_none hp] at h; cases h
    | some k =>
      obtain ⟨x, hx, _⟩ := place_get hp
      rw [readAt_node hb hp hx] at h ⊢
      have hbb := hb
      simp only [Bool.and_eq_true] at hbb
      have hgx := (good_iff.1 hbb.1).2.2.2.2.1 x (List.mem_of_getElem? hx)
      by_cases h1 : (nodeRead x key).2 = 1
      · rw [if_pos h1] at h ⊢
        cases hr : (chainRead v l key).2
        · rw [hr] at h; simp at h
        · simp only [if_true]; rw [← hr]
      · rw [if_neg h1] at h; exact absurd h h1
/-- each node answers as the tail does -/
theorem readAt_any {v : Int} {l : List Nod} {id key : Int} (h : (chainReadAt v l id key).2 ≠ 3) : chainRead v l key = ((chainReadAt v l id key).1, !((chainReadAt v l id key).2 == 2)) := by
  cases hb : (chainOk v l && inB key 0 4)
  · rw [readAt_bad hb] at h; exact absurd rfl h
  · cases hp : placeOf l id with
    | none => rw [readAt_none hp] at h; exact absurd rfl h
    | some k =>
      obtain ⟨x, hx, _⟩ := place_get hp
      rw [readAt_node hb hp hx]
      have hbb := hb
      simp only [Bool.and_eq_true] at hbb
      have g := good_iff.1 hbb.1
      have hxm := List.mem_of_getElem? hx
      have hgx := g.2.2.2.2.1 x hxm
      rcases nodeRead_cases (x := x) (key := key) (by rw [hgx, hbb.2]; rfl) with ⟨_, e⟩ | ⟨hw, e⟩
      · rw [e]; simp only [if_true]
        cases hr : (chainRead v l key).2
        · have hcr := chainRead_ok hb
          by_cases hn : tailVal l key < 0
          · rw [hcr, told_neg hn]; rfl
          · rw [hcr, told_pos hn] at hr; cases hr
        · simp only [if_true]; show _ = ((chainRead v l key).1, true); rw [← hr]
      · have hct := clean_tail g hbb.2 hxm hw
        rw [chainRead_ok hb, ← hct, e]
        by_cases hn : valOf x.log key x.done.toNat < 0
        · rw [if_pos hn, told_neg hn]; rfl
        · rw [if_neg hn, told_pos hn]; rfl
/-- the tail never asks -/
theorem readAt_tail {v : Int} {l : List Nod} {key : Int} {t : Nod} {n : Nat} (h : (chainOk v l && inB key 0 4) = true) (hn : l.length = n) (ht : l[n - 1]? = some t) :
    chainReadAt v l t.id key = ((chainRead v l key).1, if (chainRead v l key).2 then 0 else 2) := by
  have hbb := h
  simp only [Bool.and_eq_true] at hbb
  have g := good_iff.1 hbb.1
  have hp := good_place g ht
  have htm := List.mem_of_getElem? ht
  have hgx := g.2.2.2.2.1 t htm
  have hd : t.done = t.log.length := by have := g.2.2.2.2.2.2; rw [tailOk_at hn ht, decide_eq_true_eq] at this; exact this
  have hw : keyWaits t key = false := by unfold keyWaits; rw [hd]; simp [keyIn]
  rw [readAt_node h hp ht]
  rcases nodeRead_cases (x := t) (key := key) (by rw [hgx, hbb.2]; rfl) with ⟨hw', _⟩ | ⟨_, e⟩
  · rw [hw] at hw'; cases hw'
  · have hct := clean_tail g hbb.2 htm hw
    rw [chainRead_ok h, ← hct, e]
    by_cases hneg : valOf t.log key t.done.toNat < 0
    · rw [if_pos hneg, told_neg hneg]; rfl
    · rw [if_neg hneg, told_pos hneg]; rfl
/-- chains whose tails have the same log tell the same -/
theorem chainRead_same {v u : Int} {l r : List Nod} {key : Int} {t t' : Nod} (h : Good v l) (h' : Good u r) (ht : l[l.length - 1]? = some t) (ht' : r[r.length - 1]? = some t') (e : t'.log = t.log) : chainRead u r key = chainRead v l key := by
  unfold chainRead
  rw [good_iff.2 h, good_iff.2 h', tailVal_at rfl ht, tailVal_at rfl ht', e]
end Go.Proofs.YtcomppiglhibkaaGreatDoor
/- What a put makes of a read and of what is quiet: plain Lean. -/
namespace Go.Proofs.YtcomppiglhibkaaGreatDoor
open Go.RowKit

theorem quiet_put {v v' : Int} {l r : List Nod} {u : Upd} (h : putM v l u = some (v', r)) : quietM v' r = true := by
  obtain ⟨hg, rfl, rfl, _, hh⟩ := good_put h
  unfold quietM
  rw [good_iff.2 hg, Bool.true_and, List.all_eq_true]
  intro x hx
  obtain ⟨y, _, rfl⟩ := List.mem_map.1 hx
  simp [quietAt, hh]
theorem read_put {v v' : Int} {l r : List Nod} {u : Upd} (h : putM v l u = some (v', r)) : chainRead v' r u.key = (u.value, true) := by
  obtain ⟨hg, rfl, rfl, _, hh⟩ := good_put h
  have hu := (put_some h).2.1
  unfold updOk at hu
  simp only [Bool.and_eq_true] at hu
  obtain ⟨kk, hkk, hk5⟩ := inB_nat hu.1
  obtain ⟨x, hx⟩ := tail_at hg
  have hok := nodeOk_log' (goodl_ok hg hx)
  obtain ⟨y, _, e⟩ := List.mem_map.1 (List.mem_of_getElem? hx)
  have hl : x.log = hd l ++ [u] := by rw [← e]
  rw [chainRead_ok (by rw [good_iff.2 hg, hu.1]; rfl), tailVal_at rfl hx, hl]
  rw [hl] at hok
  have hv := valOf_succ (k := (hd l).length) hok hk5 (u := u) (by simp)
  rw [if_pos hkk] at hv
  rw [hkk, show (hd l ++ [u]).length = (hd l).length + 1 by simp, hv]
  have h0 : ¬ u.value < 0 := by
    have := hu.2
    simp [inB] at this
    omega
  rw [told_pos h0]
end Go.Proofs.YtcomppiglhibkaaGreatDoor
/- What a chain tells of a key: impl.ChainRead, spec.ChainRead. -/
namespace Go.Proofs.YtcomppiglhibkaaGreatDoor
open Go.RowKit

theorem told_vals (x : Int) : told x = ((if x < 0 then 0 else x), (if x < 0 then false else true)) := by unfold told; split <;> rfl

set_option maxHeartbeats 4000000 in
theorem chainRead_any (view : Int) (A : Option Addr) (n c : Nat) (l : List Nod) (key : Int) (w : World) (h : Nods w 0 w.heap.size A n c l) (hn : n ≤ 1048576) (hlog : ∀ x ∈ l, x.log.length ≤ 1048576) :
    Calls Mo.prog 9 #[.agg #[.int .i64 view, .slice A n c], .int .i64 key] w fun e w' => e = .returned (.tuple #[.int .i64 (chainRead view l key).1, .bool (chainRead view l key).2]) ∧ Below w.heap.size w w' := by
  have HL := Lib.hid h.len
  have HG := Lib.hid hlog
  have H := Lib.hid (h.box (.cells #[.int .i64 view, .slice A n c] 25))
  have H1 := Lib.hid h
  clear h hlog
  cases hok : chainOk view l
  · rw [chainRead_bad (by rw [hok]; rfl)]
    have HO := Lib.hid hok
    clear hok
    go_enter Mo.func9, Tryz.ntmps9
    go_wp2_with (go_at_call 23; refine (chainValid_any _ _ _ _ l _ H.out hn HG.out).mono ?_; rintro e w1 ⟨rfl, hb1⟩; rw [HO.out]; have B1 := Lib.hid (below_box hb1); clear hb1)
    go_ret2
    exact ⟨rfl, B1.out⟩
  have HO := Lib.hid hok
  clear hok
  cases hkey : inB key 0 4
  · rw [chainRead_bad (by rw [hkey]; simp)]
    go_enter Mo.func9, Tryz.ntmps9
    go_wp2_with (first | (go_at_call 23; refine (chainValid_any _ _ _ _ l _ H.out hn HG.out).mono ?_; rintro e w1 ⟨rfl, hb1⟩; rw [HO.out]; have B1 := Lib.hid (below_box hb1); clear hb1) | (go_at_call 24; refine (keyValid_any _ _).mono ?_; rintro e w' ⟨rfl, rfl⟩))
    go_ret2
    exact ⟨rfl, B1.out⟩
  rw [chainRead_ok (by rw [HO.out, hkey]; rfl)]
  obtain ⟨kk, rfl, hkk⟩ := inB_nat hkey
  have g := good_iff.1 HO.out
  have hpos : 0 < n := by have := g.2.2.1; have := HL.out; omega
  have LOK := Lib.hid (fun (x : Nod) (hx : x ∈ l) => nodeOk_log (g.2.2.2.2.1 x hx))
  have hk0 : (0 : Int) ≤ (kk : Int) := by omega
  have hk5 : (kk : Int) < 5 := by omega
  rw [told_vals]
  obtain ⟨v, hv⟩ : ∃ v, tailVal l kk = v := ⟨_, rfl⟩
  rw [hv]
  have HV := Lib.hid hv
  have nf := node_field1
  clear hv g
  go_enter Mo.func9, Tryz.ntmps9
  go_wp2_with fail
  refine (chainValid_any _ _ _ _ l _ H.out hn HG.out).mono ?_
  rintro e w1 ⟨rfl, hb1⟩
  rw [HO.out]
  have B1 := Lib.hid (below_box hb1)
  have q0 := box_cell (i := 0) hb1 (v := .int .i64 view) rfl
  have q1 := box_cell (i := 1) hb1 (v := .slice A n c) rfl
  have F1 := Lib.hid (H1.out.on B1.out)
  clear hb1
  go_wp2_with (go_at_call 24; refine (keyValid_any _ _).mono ?_; rintro e w' ⟨rfl, rfl⟩)
  refine (tailOf_any _ _ _ _ l _ F1.out hn hpos).mono ?_
  rintro e w2 ⟨x, A', m, d, hx, rfl, hf, hb2⟩
  have hm := hf.len
  have hm20 : m ≤ 1048576 := by have := HG.out x (List.mem_of_getElem? hx); omega
  have B2 := Lib.hid (B1.out.trans (hb2.mono B1.out.size))
  have FX := Lib.hid (hf.on hb2)
  have hlx := LOK.out x (List.mem_of_getElem? hx)
  have e0 : stateOf x.log m = stAt x.log m := by simp [stateOf, hlx, inB]; omega
  have E0 := Lib.hid e0
  have hval := HV.out
  rw [tailVal_at HL.out hx, hm] at hval
  have HVAL := Lib.hid hval
  clear hb2 hx hf hm hlx e0 hval q0 q1
  go_wp2_with fail
  refine (stateOf_any _ _ _ x.log _ FX.out hm20).mono ?_
  rintro e w3 ⟨g, cc, rfl, hl1, hl2, hl3, hs3, hb3⟩
  rw [E0.out] at hs3 hl1 ⊢
  rw [stAt_len] at hl1 ⊢
  have B3 := Lib.hid (B2.out.trans (hb3.mono B2.out.size))
  obtain ⟨y, hy, hcy⟩ := hs3.at_ (show kk < (stAt x.log m).length by rw [stAt_len]; exact hkk)
  rw [stAt_at hkk] at hy
  injection hy with hy
  rw [HVAL.out] at hy
  subst hy
  clear hs3 hb3
  by_cases hneg : v < 0
  · go_wp2
    go_ret2
    exact ⟨by simp, B3.out⟩
  · go_wp2
    go_ret2
    exact ⟨by simp, B3.out⟩

end Go.Proofs.YtcomppiglhibkaaGreatDoor
/- The walk of a law on putting (laws.FnChainPut): it returns true, and writes nothing that was there. Printed by genlawsp.py. -/
namespace Go.Proofs.YtcomppiglhibkaaGreatDoor
open Go.RowKit Go.Sort

set_option maxRecDepth 100000 in
set_option maxHeartbeats 16000000 in
theorem chainPut_walk (A : Option Addr) (n c : Nat) (l : List Int) (a : Addr) (w : World) (he : ErrAt a w) (h : Flat encU8 1 w 0 w.heap.size A n c l) (hl : ∀ x ∈ l, 0 ≤ x ∧ x ≤ 255) :
    Calls Mo.prog 3 #[.slice A n c] w fun e w' => e = .returned (.bool true) ∧ Below w.heap.size w w' := by
  have H := Lib.hid h
  have HL := Lib.hid hl
  have HE := Lib.hid he
  clear h hl he
  by_cases hn : 1048576 < n
  · go_enter Mo.func3, Tryz.ntmps3
    go_wp2
    go_ret
    exact ⟨rfl, Below.refl _ _⟩
  go_enter Mo.func3, Tryz.ntmps3
  go_wp2_with fail
  refine (drawChainPut_any _ _ _ l _ H.out HL.out).mono ?_
  rintro e w1 ⟨view, A1, n1, c1, r, u0, rfl, h1, h2, h3, h4, h6, hb1⟩
  obtain ⟨hn1, hl1⟩ := nods_ok h1 h3 h4
  have HG := Lib.hid hl1
  have M1 := Lib.hid h1
  have Vc := Lib.hid ((Var.row h6 view).alloc (.cells #[.int .i64 u0.key, .int .i64 u0.value] 27))
  have Vu := Lib.hid (show UVar ((w1.alloc (.cells #[.int .i64 view, .slice A1 n1 c1] 25)).alloc (.cells #[.int .i64 u0.key, .int .i64 u0.value] 27)) (w1.heap.size + 1) u0 by
    have h := UVar.new (w1.alloc (.cells #[.int .i64 view, .slice A1 n1 c1] 25)) u0
    rwa [World.size_alloc] at h)
  have HB := Lib.hid ((hb1.alloc hb1.size (.cells #[.int .i64 view, .slice A1 n1 c1] 25)).alloc (hb1.alloc hb1.size _).size (.cells #[.int .i64 u0.key, .int .i64 u0.value] 27))
  clear h1 h4 h6 hb1 H HL hl1
  obtain ⟨o, ho⟩ : ∃ o, putM view r u0 = o := ⟨_, rfl⟩
  rcases o with _ | ⟨u, r2⟩
  · have HO := Lib.hid ho
    clear ho
    go_wp2_with fail
    refine (chainPut_any a view _ _ _ r u0 _ (HE.out.below HB.out) Vc.out.nods hn1 HG.out).mono ?_
    rintro e w2 hq
    obtain ⟨A2, c2, rfl, hq2, hb⟩ := hq.not HO.out
    clear hq
    have Nc := Lib.hid (Vc.out.on hb)
    have Nu := Lib.hid (Vu.out.on hb)
    have NB := Lib.hid (HB.out.trans (hb.mono HB.out.size))
    clear hb HB Vc Vu
    have Vc := Lib.hid Nc.out
    clear Nc
    have Vu := Lib.hid Nu.out
    clear Nu
    have HB := Lib.hid NB.out
    clear NB
    have fc0 := Vc.out.c0
    have fc1 := Vc.out.c1
    have fcl := Vc.out.lt
    have fu0 := Vu.out.c0
    have fu1 := Vu.out.c1
    have ful := Vu.out.lt
    have Nc := Lib.hid (Vc.out.alloc (.cells #[.int .i64 0, .slice A2 0 c2] 25))
    have Nu := Lib.hid (Vu.out.alloc (.cells #[.int .i64 0, .slice A2 0 c2] 25))
    have No := Lib.hid (Var.new hq2 0)
    have NB := Lib.hid (HB.out.alloc HB.out.size (.cells #[.int .i64 0, .slice A2 0 c2] 25))
    clear hq2
    clear HB Vc Vu
    have Vc := Lib.hid Nc.out
    clear Nc
    have Vu := Lib.hid Nu.out
    clear Nu
    have Vo := Lib.hid No.out
    clear No
    have HB := Lib.hid NB.out
    clear NB
    go_wp2_with fail
    refine (specChainPut_any view _ _ _ r u0 _ Vc.out.nods hn1 HG.out).mono ?_
    rintro e w3 hq
    obtain ⟨A3, c3, rfl, hq2, hb⟩ := hq.not HO.out
    clear hq
    clear fc0 fc1 fcl fu0 fu1 ful
    have Nc := Lib.hid (Vc.out.on hb)
    have Nu := Lib.hid (Vu.out.on hb)
    have No := Lib.hid (Vo.out.on hb)
    have NB := Lib.hid (HB.out.trans (hb.mono HB.out.size))
    clear hb HB Vc Vu Vo
    have Vc := Lib.hid Nc.out
    clear Nc
    have Vu := Lib.hid Nu.out
    clear Nu
    have Vo := Lib.hid No.out
    clear No
    have HB := Lib.hid NB.out
    clear NB
    have fc0 := Vc.out.c0
    have fc1 := Vc.out.c1
    have fcl := Vc.out.lt
    have fu0 := Vu.out.c0
    have fu1 := Vu.out.c1
    have ful := Vu.out.lt
    have fo0 := Vo.out.c0
    have fo1 := Vo.out.c1
    have fol := Vo.out.lt
    have Nc := Lib.hid (Vc.out.alloc (.cells #[.int .i64 0, .slice A3 0 c3] 25))
    have Nu := Lib.hid (Vu.out.alloc (.cells #[.int .i64 0, .slice A3 0 c3] 25))
    have No := Lib.hid (Vo.out.alloc (.cells #[.int .i64 0, .slice A3 0 c3] 25))
    have Nw := Lib.hid (Var.new hq2 0)
    have NB := Lib.hid (HB.out.alloc HB.out.size (.cells #[.int .i64 0, .slice A3 0 c3] 25))
    clear hq2
    clear HB Vc Vu Vo
    have Vc := Lib.hid Nc.out
    clear Nc
    have Vu := Lib.hid Nu.out
    clear Nu
    have Vo := Lib.hid No.out
    clear No
    have Vw := Lib.hid Nw.out
    clear Nw
    have HB := Lib.hid NB.out
    clear NB
    go_wp2_with fail
    refine (sameChain_same 0 _ _ 0 _ _ [] _ Vo.out.nods Vw.out.nods (by omega) (fun x h => by cases h)).mono ?_
    rintro e w4 ⟨rfl, hb⟩
    clear fc0 fc1 fcl fu0 fu1 ful fo0 fo1 fol
    have Nc := Lib.hid (Vc.out.on hb)
    have Nu := Lib.hid (Vu.out.on hb)
    have No := Lib.hid (Vo.out.on hb)
    have Nw := Lib.hid (Vw.out.on hb)
    have NB := Lib.hid (HB.out.trans (hb.mono HB.out.size))
    clear hb HB Vc Vu Vo Vw
    have Vc := Lib.hid Nc.out
    clear Nc
    have Vu := Lib.hid Nu.out
    clear Nu
    have Vo := Lib.hid No.out
    clear No
    have Vw := Lib.hid Nw.out
    clear Nw
    have HB := Lib.hid NB.out
    clear NB
    have fc0 := Vc.out.c0
    have fc1 := Vc.out.c1
    have fcl := Vc.out.lt
    have fu0 := Vu.out.c0
    have fu1 := Vu.out.c1
    have ful := Vu.out.lt
    have fo0 := Vo.out.c0
    have fo1 := Vo.out.c1
    have fol := Vo.out.lt
    have fw0 := Vw.out.c0
    have fw1 := Vw.out.c1
    have fwl := Vw.out.lt
    go_wp2_with fail
    refine (sameChain_same 0 _ _ 0 _ _ [] _ Vo.out.nods Vw.out.nods (by omega) (fun x h => by cases h)).mono ?_
    rintro e w5 ⟨rfl, hb⟩
    clear fc0 fc1 fcl fu0 fu1 ful fo0 fo1 fol fw0 fw1 fwl
    have Nc := Lib.hid (Vc.out.on hb)
    have Nu := Lib.hid (Vu.out.on hb)
    have No := Lib.hid (Vo.out.on hb)
    have Nw := Lib.hid (Vw.out.on hb)
    have NB := Lib.hid (HB.out.trans (hb.mono HB.out.size))
    clear hb HB Vc Vu Vo Vw
    have Vc := Lib.hid Nc.out
    clear Nc
    have Vu := Lib.hid Nu.out
    clear Nu
    have Vo := Lib.hid No.out
    clear No
    have Vw := Lib.hid Nw.out
    clear Nw
    have HB := Lib.hid NB.out
    clear NB
    have fc0 := Vc.out.c0
    have fc1 := Vc.out.c1
    have fcl := Vc.out.lt
    have fu0 := Vu.out.c0
    have fu1 := Vu.out.c1
    have ful := Vu.out.lt
    have fo0 := Vo.out.c0
    have fo1 := Vo.out.c1
    have fol := Vo.out.lt
    have fw0 := Vw.out.c0
    have fw1 := Vw.out.c1
    have fwl := Vw.out.lt
    go_wp2
    go_ret
    exact ⟨rfl, HB.out⟩
  have HO := Lib.hid ho
  clear ho
  go_wp2_with fail
  refine (chainPut_any a view _ _ _ r u0 _ (HE.out.below HB.out) Vc.out.nods hn1 HG.out).mono ?_
  rintro e w2 hq
  obtain ⟨A2, n2, c2, rfl, hq1, hq2, hb⟩ := hq.yes HO.out
  clear hq
  have MLo := Lib.hid hq1
  clear hq1
  have Nc := Lib.hid (Vc.out.on hb)
  have Nu := Lib.hid (Vu.out.on hb)
  have NB := Lib.hid (HB.out.trans (hb.mono HB.out.size))
  clear hb HB Vc Vu
  have Vc := Lib.hid Nc.out
  clear Nc
  have Vu := Lib.hid Nu.out
  clear Nu
  have HB := Lib.hid NB.out
  clear NB
  have fc0 := Vc.out.c0
  have fc1 := Vc.out.c1
  have fcl := Vc.out.lt
  have fu0 := Vu.out.c0
  have fu1 := Vu.out.c1
  have ful := Vu.out.lt
  have Nc := Lib.hid (Vc.out.alloc (.cells #[.int .i64 u, .slice A2 n2 c2] 25))
  have Nu := Lib.hid (Vu.out.alloc (.cells #[.int .i64 u, .slice A2 n2 c2] 25))
  have No := Lib.hid (Var.new hq2 u)
  have NB := Lib.hid (HB.out.alloc HB.out.size (.cells #[.int .i64 u, .slice A2 n2 c2] 25))
  clear hq2
  clear HB Vc Vu
  have Vc := Lib.hid Nc.out
  clear Nc
  have Vu := Lib.hid Nu.out
  clear Nu
  have Vo := Lib.hid No.out
  clear No
  have HB := Lib.hid NB.out
  clear NB
  go_wp2_with fail
  refine (specChainPut_any view _ _ _ r u0 _ Vc.out.nods hn1 HG.out).mono ?_
  rintro e w3 hq
  obtain ⟨A3, n3, c3, rfl, hq1, hq2, hb⟩ := hq.yes HO.out
  clear hq
  have MLw := Lib.hid hq1
  clear hq1
  clear fc0 fc1 fcl fu0 fu1 ful
  have Nc := Lib.hid (Vc.out.on hb)
  have Nu := Lib.hid (Vu.out.on hb)
  have No := Lib.hid (Vo.out.on hb)
  have NB := Lib.hid (HB.out.trans (hb.mono HB.out.size))
  clear hb HB Vc Vu Vo
  have Vc := Lib.hid Nc.out
  clear Nc
  have Vu := Lib.hid Nu.out
  clear Nu
  have Vo := Lib.hid No.out
  clear No
  have HB := Lib.hid NB.out
  clear NB
  have fc0 := Vc.out.c0
  have fc1 := Vc.out.c1
  have fcl := Vc.out.lt
  have fu0 := Vu.out.c0
  have fu1 := Vu.out.c1
  have ful := Vu.out.lt
  have fo0 := Vo.out.c0
  have fo1 := Vo.out.c1
  have fol := Vo.out.lt
  have Nc := Lib.hid (Vc.out.alloc (.cells #[.int .i64 u, .slice A3 n3 c3] 25))
  have Nu := Lib.hid (Vu.out.alloc (.cells #[.int .i64 u, .slice A3 n3 c3] 25))
  have No := Lib.hid (Vo.out.alloc (.cells #[.int .i64 u, .slice A3 n3 c3] 25))
  have Nw := Lib.hid (Var.new hq2 u)
  have NB := Lib.hid (HB.out.alloc HB.out.size (.cells #[.int .i64 u, .slice A3 n3 c3] 25))
  clear hq2
  obtain rfl : n3 = n2 := by rw [← MLo.out, ← MLw.out]
  clear HB Vc Vu Vo
  have Vc := Lib.hid Nc.out
  clear Nc
  have Vu := Lib.hid Nu.out
  clear Nu
  have Vo := Lib.hid No.out
  clear No
  have Vw := Lib.hid Nw.out
  clear Nw
  have HB := Lib.hid NB.out
  clear NB
  have HP := Lib.hid (good_put HO.out)
  have HG2 := Lib.hid (good_logs HP.out.1)
  have hn2 : n3 ≤ 1048576 := by have h5 : r2.length ≤ 5 := HP.out.1.2.2.2.1; have := MLo.out; omega
  have hgr : Good view r := (put_some HO.out).1
  have hn1p : 0 < n1 := by have := hgr.2.2.1; have := M1.out; omega
  have GG := Lib.hid hgr
  clear hgr
  go_wp2_with fail
  refine (sameChain_same u _ _ n3 _ _ r2 _ Vo.out.nods Vw.out.nods hn2 HG2.out).mono ?_
  rintro e w4 ⟨rfl, hb⟩
  clear fc0 fc1 fcl fu0 fu1 ful fo0 fo1 fol
  have Nc := Lib.hid (Vc.out.on hb)
  have Nu := Lib.hid (Vu.out.on hb)
  have No := Lib.hid (Vo.out.on hb)
  have Nw := Lib.hid (Vw.out.on hb)
  have NB := Lib.hid (HB.out.trans (hb.mono HB.out.size))
  clear hb HB Vc Vu Vo Vw
  have Vc := Lib.hid Nc.out
  clear Nc
  have Vu := Lib.hid Nu.out
  clear Nu
  have Vo := Lib.hid No.out
  clear No
  have Vw := Lib.hid Nw.out
  clear Nw
  have HB := Lib.hid NB.out
  clear NB
  have fc0 := Vc.out.c0
  have fc1 := Vc.out.c1
  have fcl := Vc.out.lt
  have fu0 := Vu.out.c0
  have fu1 := Vu.out.c1
  have ful := Vu.out.lt
  have fo0 := Vo.out.c0
  have fo1 := Vo.out.c1
  have fol := Vo.out.lt
  have fw0 := Vw.out.c0
  have fw1 := Vw.out.c1
  have fwl := Vw.out.lt
  clear Vw MLw fw0 fw1 fwl
  have HR := Lib.hid (read_put HO.out)
  have HQ := Lib.hid (quiet_put HO.out)
  have hn3p : 0 < n3 := by have h5 : 1 ≤ r2.length := HP.out.1.2.2.1; have := MLo.out; omega
  have HLN := Lib.hid (show (hd r2).length = (hd r).length + 1 by rw [HP.out.2.2.2.2]; simp)
  go_wp2_with fail
  have D := chainRead_any u _ _ _ r2 u0.key _ Vo.out.nods hn2 HG2.out
  rw [HR.out] at D
  refine D.mono ?_
  rintro e w5 ⟨rfl, hb⟩
  clear D
  clear fc0 fc1 fcl fu0 fu1 ful fo0 fo1 fol
  have Nc := Lib.hid (Vc.out.on hb)
  have Nu := Lib.hid (Vu.out.on hb)
  have No := Lib.hid (Vo.out.on hb)
  have NB := Lib.hid (HB.out.trans (hb.mono HB.out.size))
  clear hb HB Vc Vu Vo
  have Vc := Lib.hid Nc.out
  clear Nc
  have Vu := Lib.hid Nu.out
  clear Nu
  have Vo := Lib.hid No.out
  clear No
  have HB := Lib.hid NB.out
  clear NB
  have fc0 := Vc.out.c0
  have fc1 := Vc.out.c1
  have fcl := Vc.out.lt
  have fu0 := Vu.out.c0
  have fu1 := Vu.out.c1
  have ful := Vu.out.lt
  have fo0 := Vo.out.c0
  have fo1 := Vo.out.c1
  have fol := Vo.out.lt
  have p1' : (0 : Int) < (n1 : Int) := by omega
  have p3' : (0 : Int) < (n3 : Int) := by omega
  obtain ⟨b, off, x, A5, m5, d5, hA, _, hbB, hx, _, c5, _, hf⟩ := Vc.out.nods.nod (k := 0) hn1p
  obtain ⟨b', off', y, A6, m6, d6, hA', _, hbB', hy, _, c6, _, hf'⟩ := Vo.out.nods.nod (k := 0) hn3p
  subst hA; subst hA'
  have hm5 : m5 ≤ 12 := by rw [← hf.len, ← hd_at hx]; exact hd_len GG.out
  obtain rfl : m6 = m5 + 1 := by rw [← hf.len, ← hf'.len, ← hd_at hx, ← hd_at hy]; exact HLN.out
  simp only [Nat.zero_mul, Nat.add_zero] at c5 c6
  have hw5' : IntKind.i64.wrap ((m5 : Int) + 1) = (m5 : Int) + 1 := IntWalk.i64_in _ (by omega)
  have eqm : (((m5 + 1 : Nat) : Int) == (m5 : Int) + 1) = true := by simp
  have eqm' : ((m5 : Int) + 1 == (m5 : Int) + 1) = true := by simp
  have eqv : (u0.value == u0.value) = true := by simp
  have T1 := Lib.hid (show ∀ (q : Nat) (os : Array Obj), Calls Mo.prog 10 #[.agg #[.int .i64 u, .slice (some ⟨b', off', none⟩) n3 c2]] (grow (redrawn w5 q) os) fun e w' => e = .returned (.bool true) ∧ Below (grow (redrawn w5 q) os).heap.size (grow (redrawn w5 q) os) w' from fun q os => by
    have hc := chainQuiet_any u _ _ _ r2 (grow (redrawn w5 q) os) (Vo.out.nods.on (below_regrown w5 q os)) hn2 HG2.out
    rwa [HQ.out] at hc)
  have d0 := cell_regrown fc0
  have d1 := cell_regrown fc1
  have d2 := cell_regrown fo0
  have d3 := cell_regrown fo1
  have d4 := cell_regrown fu0
  have d5' := cell_regrown fu1
  have d6' := cell_regrown c5
  have d7' := cell_regrown c6
  clear hx hf hy hf' c5 c6
  go_wp2_with fail
  refine wp_region_quiet_below (by kernel_rfl) (by kernel_rfl) ?_
  repeat (go_big_quiet_step ((go_at_call 10; with_reducible exact Calls.regrown_of (T1.out _ _))))
  refine wpQuiet_nil ?_
  intro w6 hw6
  have hb := Lib.hid (below_of_regrown hw6)
  clear hw6 d0 d1 d2 d3 d4 d5' d6' d7'
  go_wp2
  go_ret
  exact ⟨rfl, HB.out.trans (hb.out.mono HB.out.size)⟩
end Go.Proofs.YtcomppiglhibkaaGreatDoor
/- The tied card 'Rows.FnChainPutCardSaid', out of the row's statement 'Rows.FnChainPutSaid': the law returns true for every input, on every tape, free of races, and each argument reads behind the call as it read before; the variable errTake laid. The walk is chainPut_walk; here it is carried from the model over to the true program and lifted into the given row. -/
namespace Go.Proofs.YtcomppiglhibkaaGreatDoor.fnChainPut
open Go Go.Conc Go.ChangeShapes Go.WideShapes Go.ChangeAt Go.RowKit
set_option linter.unusedVariables false

set_option maxRecDepth 100000 in
theorem lifted (os : Os) (started : os.Started) (H : Type) (enc : TypeId × Value → H) :
    ReturnsInLeavingWide {} Tryz.checked os 3 .any (fun w args => (Rows.fnChainPutSpec.pre enc Tryz.prog Tryz.f3 Rows.fnChainPutRow.domain false w args ∧ laidMetH Tryz.prog laidList w) ∧ sizedMet enc Tryz.prog Tryz.f3 (OpenSpec.ofChange Rows.fnChainPutSpec) false w args)
      (Rows.fnChainPutSpec.post enc Tryz.prog Tryz.f3 false true false false) := by
  refine leaving_and (C := Tryz.checked) (X := fun w _ => laidMetH Tryz.prog laidList w) (fun _ _ _ hh h => h.of_heap hh) ownK started Tryz.func3
    (ChangeSpec.witness_at (enc := enc) (C := Tryz.checked) (os := os) (X := fun w _ => laidMetH Tryz.prog laidList w) false (laidWorld os) #[.slice none 0 0] 8 rfl (by kernel_rfl) (by kernel_rfl) (by kernel_rfl) (by kernel_rfl) (by kernel_rfl) laid_metH) ?_
  intro W base args ds gs before hval0 hW hL
  have hval : ∀ (j : Nat) t v, Tryz.f3.params[j]? = some t → args[j]? = some v → Value.okWide Tryz.prog W .any base t v := hval0
  have hW' := hW
  obtain ⟨p, q, hA0, hV, rfl, hfz, hnd⟩ := hW
  have hA : DataW.TrodAll enc Tryz.prog W 0 (fun _ => true) true Tryz.f3.params.toList args.toList ds p := hA0
  rw [Tryz.params3] at hA hval
  obtain ⟨v0, vs0, d0, ds0, p0, q0, hargs, rfl, rfl, h0, r0⟩ := trodAll_cons hA
  obtain ⟨rfl, rfl, rfl⟩ := trodAll_nil r0
  obtain rfl : args = #[v0] := by cases args; simp_all
  have hV' : DataW.TrodVars enc Tryz.prog W (fun _ => true) ["loop.example/chainfiles/impl.errTake"] gs q := hV
  obtain ⟨g1, rfl⟩ := trodVars_len hV'
  obtain ⟨ea, he⟩ := err_of_laid hL
  have k0 := h0
  have lt0 : ∀ x ∈ p0, x.block < W.heap.size := by obtain ⟨m, hm⟩ := k0; exact DataW.trod_lt m _ _ _ hm
  obtain ⟨A0, n0, c0, l0, rfl, f0, g0⟩ := reads_bytes (hval 0 22 v0 rfl rfl) h0
  clear hA0 hval0
  obtain ⟨M, last, o, w', t', e1, e2, e3, e4⟩ := mo_run fmo3 (by kernel_rfl) (by decide) (by kernel_rfl) #[.slice A0 n0 c0] W (fun w hw => chainPut_walk A0 n0 c0 l0 ea w (he.brk hw) (brk_flat hw f0) g0)
  refine ⟨M, last, o, w', t', e1, e2, e3, e4.mono fun v hp => ?_⟩
  obtain ⟨rfl, bel⟩ := hp
  exact ⟨_, _, _, [], _, _, hW', trodAll_mk1 (shut_bool Tryz.underlying4 _), (trodAll_cons_mk (BelowT.trod laidOut (by kernel_rfl) (of_decide_eq_true (by kernel_rfl)) k0 bel lt0) trodAll_mk0), BelowT.trodVars bel hV', bel.frame _, fun h => by cases h⟩

theorem over : Rows.fnChainPutRow.holds Tryz.pinned (OpenSpec.ofChange Rows.fnChainPutSpec) :=
  OpenClaim.holds_of_wide_leaving 3 Tryz.f3 rfl rfl rfl rfl rfl rfl rfl ⟨rfl, rfl, rfl, rfl, rfl⟩ rfl rfl rfl rfl rfl (by kernel_rfl) Tryz.func3 (by kernel_rfl)
    (of_decide_eq_true (by kernel_rfl)) (by unfold Func.isWrapper; first | (rw [if_pos (by decide +kernel)]; kernel_rfl) | (rw [if_neg (by decide +kernel)]; exact ⟨rfl, rfl⟩))
    (fun os started H enc _ => lifted os started H enc)

theorem proved : Rows.FnChainPutCardSaid :=
  tied_goes .later [.sentinel] true Rows.fnChainPutCard.stood.harness true
    over (by kernel_rfl) fnChainPut_row_tie rfl ⟨rfl, rfl⟩ (by kernel_rfl) rfl
    (fun f fn hf hfn => by
      obtain rfl : f = 3 := Option.some.inj ((show Tryz.prog.funcNamed "loop.example/chainfiles/laws.FnChainPut" = some 3 by kernel_rfl).symm.trans hf) |>.symm
      obtain rfl : fn = Tryz.f3 := (Option.some.inj (Tryz.func3.symm.trans hfn)).symm
      exact ⟨by kernel_rfl, fun j t ht => by
        rw [Tryz.params3] at ht
        rcases j with _ | j
        · obtain rfl : 22 = t := by simpa using ht
          exact (show Tryz.prog.wantsStandIn 22 = false by kernel_rfl)
        · simp at ht⟩)
    (by kernel_rfl)
#print axioms proved
end Go.Proofs.YtcomppiglhibkaaGreatDoor.fnChainPut
