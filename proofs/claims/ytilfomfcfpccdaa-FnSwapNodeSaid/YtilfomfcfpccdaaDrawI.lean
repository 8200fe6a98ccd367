/- Drawing a chain and an id. -/
import Derived.Test.YtilfomfcfpccdaaDrawR
namespace Go.Proofs.Ytilfomfcfpccdaa
open Go.RowKit

/-- a draw of a chain and an id under way: the reader, the result's block (its cells cs), the chain's block s, the row of nodes -/
structure DI (w0 w : World) (rb B p s : Nat) (cs : Array Value) (view : Int) (nv : Value) (l : List Nod) (hi : Nat) : Prop where
  rd : Rd w rb B p
  rb0 : rb < w0.heap.size
  grown : w0.grownBy w (some rb)
  res : Blk w w0.heap.size cs 25
  chn : Blk w s #[.int .i64 view, nv] 25
  s0 : w0.heap.size < s
  his : hi ≤ w.heap.size
  row : NodRow w w0.heap.size hi nv l
section
variable {w0 w w' : World} {rb B p p' s : Nat} {cs : Array Value} {view : Int} {nv : Value} {l : List Nod} {hi : Nat}
theorem DI.picked (h : DI w0 w rb B p s cs view nv l hi) (hr : Rd w' rb B p') (hg : w.grownBy w' (some rb)) : DI w0 w' rb B p' s cs view nv l hi := by
  have hrb := h.rb0
  have hs0 := h.s0
  exact ⟨hr, hrb, only_trans h.grown hg, h.res.pick hg (by omega), h.chn.pick hg (by omega), hs0, Nat.le_trans h.his hg.size,
    h.row.keep (fun k h1 h2 => hg.block k (Nat.lt_of_lt_of_le h2 h.his) (fun e => by injection e with e; omega))⟩
theorem DI.drew (h : DI w0 w rb B p s cs view nv l hi) : DI w0 w.drew rb B p s cs view nv l hi :=
  ⟨h.rd.below (Below.refl _ _).drew, h.rb0, only_trans h.grown (only_of_below (Below.refl w.heap.size w).drew), h.res, h.chn, h.s0, h.his, h.row.keep (fun _ _ _ => rfl)⟩
/-- the result's block is written -/
theorem DI.store {a b u v : Value} (h : DI w0 w rb B p s #[a, b] view nv l hi) : DI w0 ((w.setCell ⟨w0.heap.size, 0, none⟩ u).setCell ⟨w0.heap.size, 1, none⟩ v) rb B p s #[u, v] view nv l hi := by
  have hrb := h.rb0
  have hs0 := h.s0
  have hc : w.heap[w0.heap.size]? = some (.cells #[a, b] 25 (0, 0)) := h.res
  exact ⟨(h.rd.far (a := ⟨w0.heap.size, 0, none⟩) hrb _).far (a := ⟨w0.heap.size, 1, none⟩) hrb _, hrb, only_set (only_set h.grown (a := ⟨w0.heap.size, 0, none⟩) (Nat.le_refl _) _) (a := ⟨w0.heap.size, 1, none⟩) (Nat.le_refl _) _,
    (h.res.set 0 u).set 1 v, (h.chn.far (a := ⟨w0.heap.size, 0, none⟩) (by show s ≠ w0.heap.size; omega) _).far (a := ⟨w0.heap.size, 1, none⟩) (by show s ≠ w0.heap.size; omega) _, hs0, by simpa [World.setCell] using h.his,
    h.row.keepT (fun k cs t hk ht => by
      have hne : k ≠ w0.heap.size := by
        rintro rfl
        have := blk_type hk hc
        rcases ht with rfl | rfl <;> exact absurd this (by decide)
      rw [Below.heap_setCell _ _ _ _ hne, Below.heap_setCell _ _ _ _ hne])⟩
theorem DI.post (h : DI w0 w rb B p s cs view nv l hi) : Rd w rb B p ∧ NodRow w w0.heap.size w.heap.size nv l ∧ w0.grownBy w (some rb) := ⟨h.rd, h.row.mono h.his, h.grown⟩
end
/-- what drawing a chain and an id leaves -/
def DrewChainId (w : World) (rb B p : Nat) (e : Ending) (w' : World) : Prop :=
  ∃ (view : Int) (A : Option Addr) (n c p' : Nat) (l : List Nod) (id : Int), e = .returned (.tuple #[.agg #[.int .i64 view, .slice A n c], .int .i64 id]) ∧ l.length = n ∧ 1 ≤ n ∧ n ≤ 5 ∧ (∀ x ∈ l, x.log.length ≤ 13) ∧ p' ≤ p + 170 ∧ Rd w' rb B p' ∧
    NodRow w' w.heap.size w'.heap.size (.slice A n c) l ∧ w.grownBy w' (some rb)

set_option maxRecDepth 100000 in
set_option maxHeartbeats 8000000 in
theorem l91Id_any (rb B p : Nat) (w : World) (h : Rd w rb B p) (hp : p ≤ 34359738368) :
    Calls Try.prog 48 #[.pointer (some ⟨rb, 0, none⟩)] w (DrewChainId w rb B p) := by
  have hrb := h.lt
  have R0 := Lib.hid (h.alloc (.cells #[.int .i64 0, .slice none 0 0] 25))
  have K0 := Lib.hid (Blk.new w #[.int .i64 0, .slice none 0 0] 25)
  have G0 := Lib.hid (only_alloc (only_refl w rb) (.cells #[.int .i64 0, .slice none 0 0] 25))
  clear h
  go_enter Try.func48, Try.ntmps48
  go_wp2_with fail
  refine (l91Chain_any rb B _ _ R0.out (by omega)).mono ?_
  rintro e w1 ⟨view, A, n, c, p1, l, rfl, hln, hn1, hn5, hl13, hp1, hr1, hrow1, hg1⟩
  have hk1 : Blk w1 w.heap.size #[.int .i64 0, .slice none 0 0] 25 := K0.out.pick hg1 (by omega)
  have hs1 := hk1.lt
  have hw1 : DI w (w1.alloc (.cells #[.int .i64 view, .slice A n c] 25)) rb B p1 w1.heap.size #[.int .i64 0, .slice none 0 0] view (.slice A n c) l w1.heap.size :=
    ⟨hr1.alloc _, hrb, only_alloc (only_trans G0.out hg1) _, hk1.alloc _, Blk.new w1 _ _, hs1, by simp, (hrow1.lower (by simp)).keep (fun k _ h2 => Below.heap_alloc _ _ _ h2)⟩
  subst hln
  obtain ⟨g, cc, hv, hgl, _⟩ := hrow1.form (by omega)
  have hg1' : g ≠ w.heap.size := by simp at hgl; omega
  have hg2' : w.heap.size ≠ g := by simp at hgl; omega
  have n0 : 0 < l.length := by omega
  injection hv with e1 e2 e3
  subst e1; subst e3
  have D1 := Lib.hid hw1
  have HL := Lib.hid hl13
  clear hw1 hrow1 hk1 hr1 hg1 hl13 R0 K0 G0
  go_wp2_with fail
  refine (pick_any rb B _ _ _ D1.out.rd (by omega)).mono ?_
  rintro e w2 ⟨v8, rfl, _, _, _, hr2, hg2⟩
  have D2 := Lib.hid (D1.out.picked hr2 hg2)
  clear hr2 hg2 D1
  have hn : w.heap.size ≠ w1.heap.size := by omega
  have hn' : w1.heap.size ≠ w.heap.size := by omega
  have d0 := D2.out.chn.cell (i := 0) (v := .int .i64 view) rfl
  have d1 := D2.out.chn.cell (i := 1) (v := .slice (some ⟨g, 0, none⟩) l.length c) rfl
  have z0 := D2.out.res.cell (i := 0) (v := .int .i64 0) rfl
  have z1 := D2.out.res.cell (i := 1) (v := .slice none 0 0) rfl
  have y0 := D2.out.res.free 0
  have y1 := D2.out.res.free 1
  obtain ⟨e0, e1⟩ := two_stores _ w.heap.size z0 z1
  have E := Lib.hid (And.intro e0 e1)
  have i0 : (0 : Int) < (l.length : Int) := by omega
  have hp9 : p1 + 1 ≤ 1099511627776 := by omega
  have S2 := Lib.hid (D2.out.store (u := .int .i64 view) (v := .slice (some ⟨g, 0, none⟩) l.length c))
  have RD := Lib.hid D2.out.drew.rd
  have RS := Lib.hid S2.out.drew.rd
  by_cases h0 : v8 = 0
  · subst h0
    go_wp2_with fail
    go_region_law ((first
      | (rw [if_pos (by rfl)]; go_simp; go_at_call 49; (with_reducible refine (pick_any rb B (p1 + 1) 60 _ RD.out hp9).mono ?_); rintro e w3 ⟨v3, rfl, _, _, _, hr3, hg3⟩; have D3 := Lib.hid (D2.out.drew.picked hr3 hg3); have Y := Lib.hid (D3.out.store (u := .int .i64 view) (v := .slice (some ⟨g, 0, none⟩) l.length c))
         have x0 := D3.out.chn.cell (i := 0) (v := .int .i64 view) rfl; have x1 := D3.out.chn.cell (i := 1) (v := .slice (some ⟨g, 0, none⟩) l.length c) rfl; have x2 := D3.out.res.cell (i := 0) (v := .int .i64 0) rfl; have x3 := D3.out.res.cell (i := 1) (v := .slice none 0 0) rfl; have x4 := D3.out.res.free 0; have x5 := D3.out.res.free 1; clear hr3 hg3)
      | (rw [if_pos (by rfl)]; go_simp; go_at_call 49; (with_reducible refine (pick_any rb B (p1 + 1) 60 _ RS.out hp9).mono ?_); rintro e w3 ⟨v3, rfl, _, _, _, hr3, hg3⟩; have Y := Lib.hid (S2.out.drew.picked hr3 hg3); clear hr3 hg3)))
    all_goals
      have r0 := Y.out.res.cell (i := 0) (v := .int .i64 view) rfl
      have r1 := Y.out.res.cell (i := 1) (v := .slice (some ⟨g, 0, none⟩) l.length c) rfl
      clear S2 RD RS D2
      go_wp2
      exact bodyPost_ret (v := .tuple #[.agg #[.int .i64 view, .slice (some ⟨g, 0, none⟩) l.length c], .int .i64 v3]) (by simp [results, Try.results48, go_sem, r0, r1]) rfl ⟨view, some ⟨g, 0, none⟩, l.length, c, p1 + 1 + 1, l, v3, rfl, rfl, hn1, hn5, HL.out, (by omega), Y.out.post⟩
  · have hz0 : (v8 == 0) = false := by simp [h0]
    obtain ⟨x, A2, m2, dd, hx, c20, _, _, _, _, _⟩ := D2.out.row.at_ (k := 0) (by omega)
    have c0 : w2.cell? ⟨g, 0, none⟩ = some (.int .i64 x.id) := by simpa using c20
    by_cases h1 : v8 = 1 ∨ v8 = 2 ∨ v8 = 3
    · have Y := Lib.hid S2.out.drew
      rcases h1 with rfl | rfl | rfl
      all_goals
        clear h0
        go_wp2_with fail
        go_region
        all_goals
          have r0 := Y.out.res.cell (i := 0) (v := .int .i64 view) rfl
          have r1 := Y.out.res.cell (i := 1) (v := .slice (some ⟨g, 0, none⟩) l.length c) rfl
          clear S2 RD RS D2
          go_wp2
          exact bodyPost_ret (v := .tuple #[.agg #[.int .i64 view, .slice (some ⟨g, 0, none⟩) l.length c], .int .i64 x.id]) (by simp [results, Try.results48, go_sem, r0, r1]) rfl ⟨view, some ⟨g, 0, none⟩, l.length, c, p1 + 1, l, x.id, rfl, rfl, hn1, hn5, HL.out, (by omega), Y.out.post⟩
    · have hz1 : (v8 == 1) = false := by have : v8 ≠ 1 := fun e => h1 (.inl e); simp [this]
      have hz2 : (v8 == 2) = false := by have : v8 ≠ 2 := fun e => h1 (.inr (.inl e)); simp [this]
      have hz3 : (v8 == 3) = false := by have : v8 ≠ 3 := fun e => h1 (.inr (.inr e)); simp [this]
      have i64 : (l.length : Int) ≤ 5 := by omega
      clear h0 h1 hx c20 c0
      go_wp2_with fail
      go_region_law ((first
        | (rw [if_pos (by rfl)]; go_simp; go_at_call 49; (with_reducible refine (pick_any rb B (p1 + 1) l.length _ RD.out hp9).mono ?_); rintro e w3 ⟨v3, rfl, q0, q1, _, hr3, hg3⟩; have q2 := q1 (by omega); have D3 := Lib.hid (D2.out.drew.picked hr3 hg3); have Y := Lib.hid (D3.out.store (u := .int .i64 view) (v := .slice (some ⟨g, 0, none⟩) l.length c)); obtain ⟨k, rfl⟩ := Int.eq_ofNat_of_zero_le q0
           have k2 : k < l.length := by omega
           obtain ⟨x, A2, m2, dd, hx, cx, _, _, _, _, _⟩ := D3.out.row.at_ k2
           have x0 := D3.out.chn.cell (i := 0) (v := .int .i64 view) rfl; have x1 := D3.out.chn.cell (i := 1) (v := .slice (some ⟨g, 0, none⟩) l.length c) rfl; have x2 := D3.out.res.cell (i := 0) (v := .int .i64 0) rfl; have x3 := D3.out.res.cell (i := 1) (v := .slice none 0 0) rfl; have x4 := D3.out.res.free 0; have x5 := D3.out.res.free 1; clear hr3 hg3 q1)
        | (rw [if_pos (by rfl)]; go_simp; go_at_call 49; (with_reducible refine (pick_any rb B (p1 + 1) l.length _ RS.out hp9).mono ?_); rintro e w3 ⟨v3, rfl, q0, q1, _, hr3, hg3⟩; have q2 := q1 (by omega); have Y := Lib.hid (S2.out.drew.picked hr3 hg3); obtain ⟨k, rfl⟩ := Int.eq_ofNat_of_zero_le q0
           have k2 : k < l.length := by omega
           obtain ⟨x, A2, m2, dd, hx, cx, _, _, _, _, _⟩ := Y.out.row.at_ k2
           have x0 := Y.out.chn.cell (i := 0) (v := .int .i64 view) rfl; have x1 := Y.out.chn.cell (i := 1) (v := .slice (some ⟨g, 0, none⟩) l.length c) rfl; clear hr3 hg3 q1)))
      all_goals
        have r0 := Y.out.res.cell (i := 0) (v := .int .i64 view) rfl
        have r1 := Y.out.res.cell (i := 1) (v := .slice (some ⟨g, 0, none⟩) l.length c) rfl
        clear S2 RD RS D2
        go_wp2
        exact bodyPost_ret (v := .tuple #[.agg #[.int .i64 view, .slice (some ⟨g, 0, none⟩) l.length c], .int .i64 x.id]) (by simp [results, Try.results48, go_sem, r0, r1]) rfl ⟨view, some ⟨g, 0, none⟩, l.length, c, p1 + 1 + 1, l, x.id, rfl, rfl, hn1, hn5, HL.out, (by omega), Y.out.post⟩
end Go.Proofs.Ytilfomfcfpccdaa
