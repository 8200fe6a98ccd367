/- Drawing out of bytes: a chain, an id and a new id. -/
import Derived.Test.YtilfomfcfpccdaaDrawRA
import Derived.Deep.RegionHeld3
import Derived.IntWalk
namespace Go.Proofs.Ytilfomfcfpccdaa
set_option linter.unusedSimpArgs false
open Go.RowKit

theorem three_at (a b c : Int) (k : Nat) (hk : k < 3) : ∃ y : Int, ∀ (w : World) (t : TypeId) (N : Nat), N = w.heap.size → (w.alloc (.cells #[.int .i64 a, .int .i64 b, .int .i64 c] t)).cell? ⟨N, k, none⟩ = some (.int .i64 y) := by
  match k, hk with
  | 0, _ => exact ⟨a, fun w t N e => by subst e; exact World.cell?_alloc_new' w _ _ _ 0⟩
  | 1, _ => exact ⟨b, fun w t N e => by subst e; exact World.cell?_alloc_new' w _ _ _ 1⟩
  | 2, _ => exact ⟨c, fun w t N e => by subst e; exact World.cell?_alloc_new' w _ _ _ 2⟩
theorem DJ.alloc {w0 w : World} {rb p s : Nat} {cs : Array Value} {view : Int} {nv : Value} {l : List Nod} {hi : Nat} (h : DJ w0 w rb p s cs view nv l hi) (o : Obj) : DJ w0 (w.alloc o) rb p s cs view nv l hi :=
  ⟨h.rd.below ((Below.refl _ _).alloc (Nat.le_refl _) _), h.bel.alloc h.bel.size _, h.res.alloc _, h.rb0, h.chn.alloc _, h.s0, Nat.le_trans h.his (by simp), h.row.keep (fun _ _ hk => Below.heap_alloc _ _ _ (Nat.lt_of_lt_of_le hk h.his))⟩

set_option maxHeartbeats 4000000 in
theorem drawChainSwap_any (A : Option Addr) (n c : Nat) (l : List Int) (w : World) (h : Flat encU8 1 w 0 w.heap.size A n c l) (hl : ∀ x ∈ l, 0 ≤ x ∧ x ≤ 255) :
    Calls Try.prog 44 #[.slice A n c] w (DrawnChainTwo w) := by
  have H := Lib.hid (h.below ((Below.refl w.heap.size w).alloc (Nat.le_refl _) (.cells #[.int .i64 0, .slice none 0 0] 25)) (Nat.le_refl _))
  have HL := Lib.hid hl
  clear h hl
  go_enter Try.func44, Try.ntmps44
  go_wp2_with fail
  refine (openLow_any _ _ _ w.heap.size l _ H.out (by simp) HL.out).mono ?_
  rintro e w1 ⟨rb, rfl, hrb, hr1, hb1⟩
  simp only [World.size_alloc] at hrb hb1
  have R1 := Lib.hid hr1
  have B1 := Lib.hid hb1
  clear hr1 hb1 H
  go_wp2_with fail
  refine (l91Id_any rb _ _ _ R1.out (by omega)).mono ?_
  rintro e w2 ⟨view, A', n', c', p', l', id, rfl, h1, h2, h3, h4, hp, hr2, h6, h7⟩
  have D2 := Lib.hid (DJ.start (view := view) B1.out hrb hr2 h7 h6)
  have HL' := Lib.hid (And.intro h1 (And.intro h2 (And.intro h3 h4)))
  obtain ⟨g, cc, hv, _⟩ := h6.form (by omega)
  injection hv with e1 e2 e3
  subst e1
  have n0 : 0 < n' := by omega
  have n0' : (0 : Int) < (n' : Int) := by omega
  clear h1 h2 h4 hr2 h6 h7 R1 B1 e2 e3
  go_wp2_with fail
  generalize w2.alloc (.cells #[.int .i64 view, .slice (some ⟨g, 0, none⟩) n' c'] 25) = w3 at *
  have z0 := D2.out.res.cell (i := 0) (v := .int .i64 0) rfl
  have z1 := D2.out.res.cell (i := 1) (v := .slice none 0 0) rfl
  have y0 := D2.out.res.free 0
  have y1 := D2.out.res.free 1
  have d0 := D2.out.chn.cell (i := 0) (v := .int .i64 view) rfl
  have d1 := D2.out.chn.cell (i := 1) (v := .slice (some ⟨g, 0, none⟩) n' c') rfl
  have hs0 := D2.out.s0
  have hgn : g ≠ w.heap.size := by
    rintro rfl
    obtain ⟨rs, ho, _⟩ := D2.out.row
    obtain ⟨ds, hd⟩ := own_blk ho rfl
    exact absurd (blk_type hd D2.out.res) (by decide)
  have hgn' : w.heap.size ≠ g := fun e => hgn e.symm
  have hn : w.heap.size ≠ w2.heap.size := by omega
  have hn' : w2.heap.size ≠ w.heap.size := by omega
  have Y := Lib.hid (D2.out.store (u := .int .i64 view) (v := .slice (some ⟨g, 0, none⟩) n' c'))
  have YD := Lib.hid (D2.out.store (u := .int .i64 view) (v := .slice (some ⟨g, 0, none⟩) n' c')).drew
  clear hs0
  have DD := Lib.hid D2.out.drew
  have RD := Lib.hid D2.out.drew.rd
  have RS := Lib.hid YD.out.rd
  have hp9 : p' ≤ 1099511627776 := by omega
  have hp10 : p' + 1 ≤ 1099511627776 := by omega
  have SD0 := Lib.hid (D2.out.drew)
  have hwall : ∀ v : Int, 0 ≤ v → v < 9 → IntKind.i64.wrap (60 + v) = 60 + v := fun v h1 h2 => IntWalk.i64_in _ (by omega)
  have hw0 : w.heap.size ≠ w2.heap.size := hn
  go_region_law ((first
    | (rw [if_pos (by rfl)]; go_simp; go_at_call 49; (with_reducible refine (pick_any rb _ (p' + 1) 3 _ E4A.out.rd hp10).mono ?_); rintro e w5 ⟨v4, rfl, t4, t5, _, hr5, hg5⟩; have t6 := t5 (by decide); have D5 := Lib.hid (E4A.out.picked hr5 hg5); obtain ⟨k4, rfl⟩ := Int.eq_ofNat_of_zero_le t4; have k43 : k4 < 3 := (Int.ofNat_lt (n := k4) (m := 3)).1 t6; obtain ⟨y, hy⟩ := three_at (60 + v3) 70 id k4 k43; have x0 := D5.out.chn.cell (i := 0) (v := .int .i64 view) rfl; have x1 := D5.out.chn.cell (i := 1) (v := .slice (some ⟨g, 0, none⟩) n' c') rfl; have x2 := D5.out.res.cell (i := 0) (v := .int .i64 0) rfl; have x3 := D5.out.res.cell (i := 1) (v := .slice none 0 0) rfl; have x4 := D5.out.res.free 0; have x5 := D5.out.res.free 1; have s5 := D5.out.s0; have q5 := D5.out.chn.lt; have q6 := D5.out.res.lt; have hyk := (World.cell?_of_block (a := ⟨w4.heap.size, k4, none⟩) (hg5.block w4.heap.size (by simp [World.setCell]) (by intro e; injection e with e; have := D4.out.rd.lt; omega))).trans (hy _ _ _ (by simp [World.setCell])); have hsy := Lib.hid hy; clear hr5 hg5 t5 hy)
    | (rw [if_pos (by rfl)]; go_simp; go_at_call 49; (with_reducible refine (pick_any rb _ (p' + 1) 3 _ E4SA.out.rd hp10).mono ?_); rintro e w5 ⟨v4, rfl, t4, t5, _, hr5, hg5⟩; have t6 := t5 (by decide); have D5 := Lib.hid (E4SA.out.picked hr5 hg5); obtain ⟨k4, rfl⟩ := Int.eq_ofNat_of_zero_le t4; have k43 : k4 < 3 := (Int.ofNat_lt (n := k4) (m := 3)).1 t6; obtain ⟨y, hy⟩ := three_at (60 + v3) 70 id k4 k43; have x0 := D5.out.chn.cell (i := 0) (v := .int .i64 view) rfl; have x1 := D5.out.chn.cell (i := 1) (v := .slice (some ⟨g, 0, none⟩) n' c') rfl; have x2 := D5.out.res.cell (i := 0) (v := .int .i64 view) rfl; have x3 := D5.out.res.cell (i := 1) (v := .slice (some ⟨g, 0, none⟩) n' c') rfl; have x4 := D5.out.res.free 0; have x5 := D5.out.res.free 1; have s5 := D5.out.s0; have q5 := D5.out.chn.lt; have q6 := D5.out.res.lt; have hyk := (World.cell?_of_block (a := ⟨w4.heap.size, k4, none⟩) (hg5.block w4.heap.size (by simp [World.setCell]) (by intro e; injection e with e; have := D4.out.rd.lt; omega))).trans (hy _ _ _ (by simp [World.setCell])); have hsy := Lib.hid hy; clear hr5 hg5 t5 hy)
    | (rw [if_pos (by rfl)]; go_simp; go_at_call 49; (with_reducible refine (pick_any rb _ (p' + 1) 3 _ E4S.out.rd hp10).mono ?_); rintro e w5 ⟨v4, rfl, t4, t5, _, hr5, hg5⟩; have t6 := t5 (by decide); have D5 := Lib.hid (E4S.out.picked hr5 hg5); obtain ⟨k4, rfl⟩ := Int.eq_ofNat_of_zero_le t4; have k43 : k4 < 3 := (Int.ofNat_lt (n := k4) (m := 3)).1 t6; obtain ⟨y, hy⟩ := three_at (60 + v3) 70 id k4 k43; have x0 := D5.out.chn.cell (i := 0) (v := .int .i64 view) rfl; have x1 := D5.out.chn.cell (i := 1) (v := .slice (some ⟨g, 0, none⟩) n' c') rfl; have x2 := D5.out.res.cell (i := 0) (v := .int .i64 view) rfl; have x3 := D5.out.res.cell (i := 1) (v := .slice (some ⟨g, 0, none⟩) n' c') rfl; have x4 := D5.out.res.free 0; have x5 := D5.out.res.free 1; have s5 := D5.out.s0; have q5 := D5.out.chn.lt; have q6 := D5.out.res.lt; have hy1 := hy w5 3 w5.heap.size rfl; have hy2 := hy ((w5.setCell ⟨w.heap.size, 0, none⟩ (.int .i64 view)).setCell ⟨w.heap.size, 1, none⟩ (.slice (some ⟨g, 0, none⟩) n' c')) 3 w5.heap.size (by simp [World.setCell]); have hsy := Lib.hid hy; clear hr5 hg5 t5 hy)
    | (rw [if_pos (by rfl)]; go_simp; go_at_call 49; (with_reducible refine (pick_any rb _ (p' + 1) 3 _ E4.out.rd hp10).mono ?_); rintro e w5 ⟨v4, rfl, t4, t5, _, hr5, hg5⟩; have t6 := t5 (by decide); have D5 := Lib.hid (E4.out.picked hr5 hg5); obtain ⟨k4, rfl⟩ := Int.eq_ofNat_of_zero_le t4; have k43 : k4 < 3 := (Int.ofNat_lt (n := k4) (m := 3)).1 t6; obtain ⟨y, hy⟩ := three_at (60 + v3) 70 id k4 k43; have x0 := D5.out.chn.cell (i := 0) (v := .int .i64 view) rfl; have x1 := D5.out.chn.cell (i := 1) (v := .slice (some ⟨g, 0, none⟩) n' c') rfl; have x2 := D5.out.res.cell (i := 0) (v := .int .i64 0) rfl; have x3 := D5.out.res.cell (i := 1) (v := .slice none 0 0) rfl; have x4 := D5.out.res.free 0; have x5 := D5.out.res.free 1; have s5 := D5.out.s0; have q5 := D5.out.chn.lt; have q6 := D5.out.res.lt; have hy1 := hy w5 3 w5.heap.size rfl; have hy2 := hy ((w5.setCell ⟨w.heap.size, 0, none⟩ (.int .i64 view)).setCell ⟨w.heap.size, 1, none⟩ (.slice (some ⟨g, 0, none⟩) n' c')) 3 w5.heap.size (by simp [World.setCell]); have hsy := Lib.hid hy; clear hr5 hg5 t5 hy)
    | (rw [if_pos (by rfl)]; go_simp; go_at_call 49; (with_reducible refine (pick_any rb _ p' 9 _ SD0.out.rd hp9).mono ?_); rintro e w4 ⟨v3, rfl, t0, t1, _, hr4, hg4⟩; have t2 := t1 (by decide); have hw3 : IntKind.i64.wrap (60 + v3) = 60 + v3 := hwall v3 t0 t2; have D4 := Lib.hid (SD0.out.picked hr4 hg4); have E4 := Lib.hid D4.out; have E4S := Lib.hid (D4.out.store (u := .int .i64 view) (v := .slice (some ⟨g, 0, none⟩) n' c')); have E4A := Lib.hid (D4.out.alloc (.cells #[.int .i64 (60 + v3), .int .i64 70, .int .i64 id] 3)); have E4SA := Lib.hid (E4S.out.alloc (.cells #[.int .i64 (60 + v3), .int .i64 70, .int .i64 id] 3)); have x0 := D4.out.chn.cell (i := 0) (v := .int .i64 view) rfl; have x1 := D4.out.chn.cell (i := 1) (v := .slice (some ⟨g, 0, none⟩) n' c') rfl; have x2 := D4.out.res.cell (i := 0) (v := .int .i64 0) rfl; have x3 := D4.out.res.cell (i := 1) (v := .slice none 0 0) rfl; have x4 := D4.out.res.free 0; have x5 := D4.out.res.free 1; have q4 := D4.out.chn.lt; have q7 := D4.out.res.lt; clear hr4 hg4 t1)
    | (rw [if_pos (by rfl)]; go_simp; go_at_call 49; (with_reducible refine (pick_any rb _ p' 9 _ YD.out.rd hp9).mono ?_); rintro e w4 ⟨v3, rfl, t0, t1, _, hr4, hg4⟩; have t2 := t1 (by decide); have hw3 : IntKind.i64.wrap (60 + v3) = 60 + v3 := hwall v3 t0 t2; have D4 := Lib.hid (YD.out.picked hr4 hg4); have E4S := Lib.hid D4.out; have E4SA := Lib.hid (D4.out.alloc (.cells #[.int .i64 (60 + v3), .int .i64 70, .int .i64 id] 3)); have x0 := D4.out.chn.cell (i := 0) (v := .int .i64 view) rfl; have x1 := D4.out.chn.cell (i := 1) (v := .slice (some ⟨g, 0, none⟩) n' c') rfl; have x2 := D4.out.res.cell (i := 0) (v := .int .i64 view) rfl; have x3 := D4.out.res.cell (i := 1) (v := .slice (some ⟨g, 0, none⟩) n' c') rfl; have x4 := D4.out.res.free 0; have x5 := D4.out.res.free 1; have q4 := D4.out.chn.lt; have q7 := D4.out.res.lt; clear hr4 hg4 t1)))
  all_goals
    go_wp2
    obtain ⟨h1, h2, h3, h4⟩ := HL'.out
    first
      | (have Z := Lib.hid (D5.out); have r0 := Z.out.res.cell (i := 0) (v := .int .i64 view) rfl; have r1 := Z.out.res.cell (i := 1) (v := .slice (some ⟨g, 0, none⟩) n' c') rfl; exact bodyPost_ret (v := .tuple #[.agg #[.int .i64 view, .slice (some ⟨g, 0, none⟩) n' c'], .int .i64 id, .int .i64 y]) (by simp [results, Try.results44, go_sem, r0, r1]) rfl ⟨view, some ⟨g, 0, none⟩, n', c', l', id, y, rfl, h1, h2, h3, h4, Z.out.post⟩)
      | (have Z := Lib.hid (D5.out.alloc (.cells #[.int .i64 (60 + v3), .int .i64 70, .int .i64 id] 3)); have r0 := Z.out.res.cell (i := 0) (v := .int .i64 view) rfl; have r1 := Z.out.res.cell (i := 1) (v := .slice (some ⟨g, 0, none⟩) n' c') rfl; exact bodyPost_ret (v := .tuple #[.agg #[.int .i64 view, .slice (some ⟨g, 0, none⟩) n' c'], .int .i64 id, .int .i64 y]) (by simp [results, Try.results44, go_sem, r0, r1]) rfl ⟨view, some ⟨g, 0, none⟩, n', c', l', id, y, rfl, h1, h2, h3, h4, Z.out.post⟩)
      | (have Z := Lib.hid ((D5.out.store (u := .int .i64 view) (v := .slice (some ⟨g, 0, none⟩) n' c'))); have r0 := Z.out.res.cell (i := 0) (v := .int .i64 view) rfl; have r1 := Z.out.res.cell (i := 1) (v := .slice (some ⟨g, 0, none⟩) n' c') rfl; exact bodyPost_ret (v := .tuple #[.agg #[.int .i64 view, .slice (some ⟨g, 0, none⟩) n' c'], .int .i64 id, .int .i64 y]) (by simp [results, Try.results44, go_sem, r0, r1]) rfl ⟨view, some ⟨g, 0, none⟩, n', c', l', id, y, rfl, h1, h2, h3, h4, Z.out.post⟩)
      | (have Z := Lib.hid ((D5.out.store (u := .int .i64 view) (v := .slice (some ⟨g, 0, none⟩) n' c')).alloc (.cells #[.int .i64 (60 + v3), .int .i64 70, .int .i64 id] 3)); have r0 := Z.out.res.cell (i := 0) (v := .int .i64 view) rfl; have r1 := Z.out.res.cell (i := 1) (v := .slice (some ⟨g, 0, none⟩) n' c') rfl; exact bodyPost_ret (v := .tuple #[.agg #[.int .i64 view, .slice (some ⟨g, 0, none⟩) n' c'], .int .i64 id, .int .i64 y]) (by simp [results, Try.results44, go_sem, r0, r1]) rfl ⟨view, some ⟨g, 0, none⟩, n', c', l', id, y, rfl, h1, h2, h3, h4, Z.out.post⟩)
end Go.Proofs.Ytilfomfcfpccdaa
