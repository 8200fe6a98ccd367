/- Drawing nodes: what a draw hands back lies in new memory; nothing that was there but the reader's place changes. -/
import Derived.Test.YtplhhjmmkohljaaDrawU
import Derived.Test.YtplhhjmmkohljaaDrawO
import Derived.Deep.RegionWith
namespace Go.Proofs.Ytplhhjmmkohljaa
open Go.RowKit

/-- a draw of a node under way: the reader, the log, the result's block, and the node's block s -/
def DnS (w0 w : World) (rb B p : Nat) (v : Value) (l : List Upd) (s : Nat) (cs : Array Value) : Prop :=
  Rd w rb B p ∧ w.ownsRow w0.heap.size 47 2 v l.length (l.flatMap Upd.enc) ∧ w0.grownBy w (some rb) ∧ rb < w0.heap.size ∧ Blk w w0.heap.size #[.int .i64 0, .slice none 0 0, .int .i64 0] 25 ∧ Blk w s cs 25 ∧ w0.heap.size < s
section
variable {w0 w w' : World} {rb B p p' : Nat} {v : Value} {l : List Upd} {s : Nat} {cs : Array Value}
theorem DnS.apart (h : DnS w0 w rb B p v l s cs) {b : Nat} {ds : Array Value} (hb : Blk w b ds 25) : v.ownBlock ≠ some b := by
  intro e
  obtain ⟨xs, h1⟩ := own_blk h.2.1 e
  have h2 : w.heap[b]? = some (.cells ds 25 (0, 0)) := hb
  rw [h1] at h2; injection h2 with h2; injection h2 with _ h2; exact absurd h2 (by decide)
theorem DnS.picked (h : DnS w0 w rb B p v l s cs) (hr : Rd w' rb B p') (hg : w.grownBy w' (some rb)) : DnS w0 w' rb B p' v l s cs := by
  obtain ⟨_, h2, h3, h4, h5, h6, h7⟩ := h
  refine ⟨hr, own_keep h2 (fun g e => hg.block g (h2.lt g e).2 (fun e' => ?_)), only_trans h3 hg, h4, h5.pick hg (by omega), h6.pick hg (by omega), h7⟩
  injection e' with e'
  have := (h2.lt g e).1; omega
theorem DnS.alloc (h : DnS w0 w rb B p v l s cs) (o : Obj) : DnS w0 (w.alloc o) rb B p v l s cs := by
  obtain ⟨h1, h2, h3, h4, h5, h6, h7⟩ := h
  exact ⟨h1.alloc o, h2.alloc o, only_alloc h3 o, h4, h5.alloc o, h6.alloc o, h7⟩
theorem DnS.drew (h : DnS w0 w rb B p v l s cs) : DnS w0 w.drew rb B p v l s cs := by
  obtain ⟨h1, h2, h3, h4, h5, h6, h7⟩ := h
  exact ⟨h1.keep (fun _ _ => rfl), own_keep h2 (fun _ _ => rfl), only_drew h3, h4, h5, h6, h7⟩
theorem DnS.set (h : DnS w0 w rb B p v l s cs) (i : Nat) (u : Value) : DnS w0 (w.setCell ⟨s, i, none⟩ u) rb B p v l s (cs.setIfInBounds i u) := by
  have ha := h.apart h.2.2.2.2.2.1
  obtain ⟨h1, h2, h3, h4, h5, h6, h7⟩ := h
  refine ⟨h1.far (a := ⟨s, i, none⟩) (by show rb < s; omega) u, own_keep h2 (fun g e => Below.heap_setCell _ _ _ _ (by rintro rfl; exact ha e)), only_set h3 (a := ⟨s, i, none⟩) (by show w0.heap.size ≤ s; omega) u, h4, h5.far (a := ⟨s, i, none⟩) (by show w0.heap.size ≠ s; omega) u, h6.set i u, h7⟩
/-- the draw is done: the node's three cells go into the result's block -/
theorem DnS.done (h : DnS w0 w rb B p v l s cs) (a b c : Value) : Rd (((w.setCell ⟨w0.heap.size, 0, none⟩ a).setCell ⟨w0.heap.size, 1, none⟩ b).setCell ⟨w0.heap.size, 2, none⟩ c) rb B p ∧
    (((w.setCell ⟨w0.heap.size, 0, none⟩ a).setCell ⟨w0.heap.size, 1, none⟩ b).setCell ⟨w0.heap.size, 2, none⟩ c).ownsRow w0.heap.size 47 2 v l.length (l.flatMap Upd.enc) ∧
    w0.grownBy (((w.setCell ⟨w0.heap.size, 0, none⟩ a).setCell ⟨w0.heap.size, 1, none⟩ b).setCell ⟨w0.heap.size, 2, none⟩ c) (some rb) := by
  have ha := h.apart h.2.2.2.2.1
  obtain ⟨h1, h2, h3, h4, h5, h6, h7⟩ := h
  refine ⟨((h1.far (a := ⟨w0.heap.size, 0, none⟩) h4 _).far (a := ⟨w0.heap.size, 1, none⟩) h4 _).far (a := ⟨w0.heap.size, 2, none⟩) h4 _, own_keep h2 (fun g e => ?_),
    only_set (only_set (only_set h3 (a := ⟨w0.heap.size, 0, none⟩) (Nat.le_refl _) _) (a := ⟨w0.heap.size, 1, none⟩) (Nat.le_refl _) _) (a := ⟨w0.heap.size, 2, none⟩) (Nat.le_refl _) _⟩
  have hne : g ≠ w0.heap.size := by rintro rfl; exact ha e
  rw [Below.heap_setCell _ _ _ _ hne, Below.heap_setCell _ _ _ _ hne, Below.heap_setCell _ _ _ _ hne]
end

theorem two_of {w : World} {b ix : Nat} {a c : Int} {t : TypeId} (h : Blk w b #[.int .i64 a, .int .i64 c] t) (hx : (ix : Int) < 2) : ∃ x, w.cell? ⟨b, ix, none⟩ = some (.int .i64 x) := by
  have : ix = 0 ∨ ix = 1 := by omega
  rcases this with rfl | rfl <;> exact ⟨_, h.cell rfl⟩
/-- what drawing a node leaves -/
def DrewNode (w : World) (rb B p : Nat) (e : Ending) (w' : World) : Prop :=
  ∃ (x : Nod) (A : Option Addr) (n c p' : Nat), e = .returned (.agg #[.int .i64 x.id, .slice A n c, .int .i64 x.done]) ∧ x.log.length = n ∧ n ≤ 13 ∧ p' ≤ p + 90 ∧ Rd w' rb B p' ∧
    w'.ownsRow w.heap.size 47 2 (.slice A n c) n (x.log.flatMap Upd.enc) ∧ w.grownBy w' (some rb)

set_option maxHeartbeats 4000000 in
theorem l91Node_any (rb B p : Nat) (w : World) (h : Rd w rb B p) (hp : p ≤ 137438953472) :
    Calls Try.prog 26 #[.pointer (some ⟨rb, 0, none⟩)] w (DrewNode w rb B p) := by
  have hrb := h.lt
  have R0 := Lib.hid (h.alloc (.cells #[.int .i64 0, .slice none 0 0, .int .i64 0] 25))
  have K0 := Lib.hid (Blk.new w #[.int .i64 0, .slice none 0 0, .int .i64 0] 25)
  have G0 := Lib.hid (only_alloc (only_refl w rb) (.cells #[.int .i64 0, .slice none 0 0, .int .i64 0] 25))
  clear h
  go_enter Try.func26, Try.ntmps26
  go_wp2_with fail
  refine (pick_any rb B p _ _ R0.out (by omega)).mono ?_
  rintro e w1 ⟨id, rfl, hid0, hid1, _, hr1, hg1⟩
  have hid9 := hid1 (by omega)
  have R1 := Lib.hid hr1
  have K1 := Lib.hid (K0.out.pick hg1 (by omega))
  have G1 := Lib.hid (only_trans G0.out hg1)
  clear hr1 hg1 R0 K0 G0 hid1
  go_wp2_with fail
  refine (l91Log_any rb B _ _ R1.out (by omega)).mono ?_
  rintro e w2 ⟨v, l, p2, rfl, hl13, hp2, hdr⟩
  obtain ⟨A, c, hv, hf⟩ := own_flat Upd.len hdr.2.1 rfl
  have hs1 : w.heap.size < w1.heap.size := K1.out.lt
  have hs2 : w1.heap.size ≤ w2.heap.size := hdr.2.2.1.size
  obtain ⟨m, hm⟩ : ∃ m, m = l.length := ⟨_, rfl⟩
  have hS : DnS w (w2.alloc (.cells #[.int .i64 (1 + id), v, .int .i64 0] 25)) rb B p2 v l w2.heap.size #[.int .i64 (1 + id), v, .int .i64 0] :=
    ⟨hdr.1.alloc _, (hdr.2.1.alloc _).mono (by omega), only_alloc (only_trans G1.out hdr.2.2.1) _, hrb, (K1.out.pick hdr.2.2.1 (by omega)).alloc _, Blk.new w2 _ _, by omega⟩
  rw [hv] at hS ⊢
  rw [← hm] at hS hl13 ⊢
  have S2 := Lib.hid hS
  have HM := Lib.hid hm
  have hcm : m ≤ c := by rw [hm]; exact hf.2.1
  clear hv hf hdr hS hm R1 K1 G1
  go_wp2_with fail
  refine (pick_any rb B _ _ _ S2.out.1 (by omega)).mono ?_
  rintro e w3 ⟨dn, rfl, _, _, _, hr3, hg3⟩
  have S3 := Lib.hid ((S2.out.picked hr3 hg3).set 2 (.int .i64 dn))
  have k3 := (S2.out.picked hr3 hg3).2.2.2.2.2.1
  have d2 := k3.cell (i := 2) rfl
  have f2 := k3.free 2
  clear k3 hr3 hg3 S2
  go_wp2_with fail
  refine (pick_any rb B _ _ _ S3.out.1 (by omega)).mono ?_
  rintro e w4 ⟨v40, rfl, _, _, _, hr4, hg4⟩
  have S4 := Lib.hid (S3.out.picked hr4 hg4)
  clear hr4 hg4 S3 d2 f2
  by_cases h0 : v40 = 0
  · subst h0
    go_wp2_with fail
    have T4 := Lib.hid (S4.out.alloc (.cells #[.int .i64 0, .int .i64 99, .int .i64 100] 3))
    refine (pick_any rb B _ _ _ T4.out.1 (by omega)).mono ?_
    rintro e w5 ⟨v3, rfl, hi0, hi1, _, hr5, hg5⟩
    obtain ⟨ix, rfl⟩ := Int.eq_ofNat_of_zero_le hi0
    have hix := hi1 (by omega)
    have hrb4 : rb < w4.heap.size := S4.out.1.lt
    have hq : Blk w5 w4.heap.size #[.int .i64 0, .int .i64 99, .int .i64 100] 3 := (Blk.new w4 _ _).pick hg5 (by omega)
    obtain ⟨x, hx⟩ : ∃ x, w5.cell? ⟨w4.heap.size, ix, none⟩ = some (.int .i64 x) := by
      have : ix = 0 ∨ ix = 1 ∨ ix = 2 := by omega
      rcases this with rfl | rfl | rfl <;> exact ⟨_, hq.cell rfl⟩
    have S5 := Lib.hid (T4.out.picked hr5 hg5)
    clear hi1 hq hr5 hg5 S4 T4
    have k5 := S5.out.2.2.2.2.2.1
    have j5 := S5.out.2.2.2.2.1
    have d0 := k5.cell (i := 0) rfl
    have d1 := k5.cell (i := 1) rfl
    have d2 := k5.cell (i := 2) rfl
    have f0 := k5.free 0
    have z0 := j5.cell (i := 0) rfl
    have z1 := j5.cell (i := 1) rfl
    have z2 := j5.cell (i := 2) rfl
    have y0 := j5.free 0
    have y1 := j5.free 1
    have y2 := j5.free 2
    have hne : w.heap.size ≠ w2.heap.size := by omega
    have hne' : w2.heap.size ≠ w.heap.size := by omega
    have S6 := Lib.hid (S5.out.set 0 (.int .i64 x))
    have j6 := S6.out.2.2.2.2.1
    obtain ⟨e0, e1, e2⟩ := three_stores _ w.heap.size (j6.cell (i := 0) rfl) (j6.cell (i := 1) rfl) (j6.cell (i := 2) rfl)
    have hd := S6.out.done (.int .i64 x) (.slice A m c) (.int .i64 dn)
    rw [← HM.out] at hd
    have D := Lib.hid hd
    have E := Lib.hid (And.intro e0 (And.intro e1 e2))
    clear k5 j5 j6 e0 e1 e2 hd S5 S6
    go_wp2
    obtain ⟨e0, e1, e2⟩ := E.out
    exact bodyPost_ret (v := .agg #[.int .i64 x, .slice A m c, .int .i64 dn]) (by simp [results, Try.results26, go_sem, e0, e1, e2]) rfl ⟨⟨x, l, dn⟩, A, m, c, p2 + 1 + 1 + 1, rfl, HM.out.symm, hl13, (by omega), D.out⟩
  by_cases h1 : v40 = 1
  · subst h1
    go_wp2_with fail
    have k4 := S4.out.2.2.2.2.2.1
    have d0 := k4.cell (i := 0) rfl
    have d1 := k4.cell (i := 1) rfl
    have d2 := k4.cell (i := 2) rfl
    have f2 := k4.free 2
    have b4 : IntKind.i64.wrap ((m : Int) + 1) = (m : Int) + 1 := IntWalk.i64_in _ (by omega)
    have hs4 : w2.heap.size < w4.heap.size := k4.lt
    have hrb4 : rb < w4.heap.size := S4.out.1.lt
    clear k4
    have T4 := Lib.hid (S4.out.alloc (.cells #[.int .i64 (-1), .int .i64 ((m : Int) + 1)] 3)).drew
    have U4 := Lib.hid S4.out.drew
    go_region_with ((first
      | (go_at_call 27; refine (pick_any rb B _ _ _ T4.out.1 (by omega)).mono ?_; rintro e w5 ⟨v3, rfl, hi0, hi1, _, hr5, hg5⟩; obtain ⟨ix, rfl⟩ := Int.eq_ofNat_of_zero_le hi0; have hix := hi1 (by omega); have S5 := Lib.hid (T4.out.picked hr5 hg5); obtain ⟨x, hx⟩ := two_of (Blk.drew (Blk.new w4 #[.int .i64 (-1), .int .i64 ((m : Int) + 1)] 3)|>.pick hg5 (by omega)) hix; have q1 : w5.cell? ⟨w2.heap.size, 1, none⟩ = some (.slice A m c) := S5.out.2.2.2.2.2.1.cell (i := 1) rfl; have q2 : w5.cell? ⟨w2.heap.size, 2, none⟩ = some (.int .i64 dn) := S5.out.2.2.2.2.2.1.cell (i := 2) rfl; have g2 := S5.out.2.2.2.2.2.1.free 2; have hs5 : w2.heap.size < w5.heap.size := S5.out.2.2.2.2.2.1.lt; clear hi1 hr5 hg5)
      | (go_at_call 27; refine (pick_any rb B _ _ _ U4.out.1 (by omega)).mono ?_; rintro e w5 ⟨v3, rfl, hi0, hi1, _, hr5, hg5⟩; obtain ⟨ix, rfl⟩ := Int.eq_ofNat_of_zero_le hi0; have hix := hi1 (by omega); have S5 := Lib.hid (U4.out.picked hr5 hg5); obtain ⟨x, hx⟩ := two_of (Blk.new w5 #[.int .i64 (-1), .int .i64 ((m : Int) + 1)] 3) hix; have q1 : w5.cell? ⟨w2.heap.size, 1, none⟩ = some (.slice A m c) := S5.out.2.2.2.2.2.1.cell (i := 1) rfl; have q2 : w5.cell? ⟨w2.heap.size, 2, none⟩ = some (.int .i64 dn) := S5.out.2.2.2.2.2.1.cell (i := 2) rfl; have g2 := S5.out.2.2.2.2.2.1.free 2; have hs5 : w2.heap.size < w5.heap.size := S5.out.2.2.2.2.2.1.lt; clear hi1 hr5 hg5)))
    all_goals
      first
        | (have S6 := Lib.hid ((S5.out.set 2 (.int .i64 x)).alloc (.cells #[.int .i64 (-1), .int .i64 ((m : Int) + 1)] 3)); obtain ⟨W, hW⟩ : ∃ W, W = (w5.setCell ⟨w2.heap.size, 2, none⟩ (.int .i64 x)).alloc (.cells #[.int .i64 (-1), .int .i64 ((m : Int) + 1)] 3) := ⟨_, rfl⟩; rw [← hW]; rw [← hW] at S6)
        | (have S6 := Lib.hid (S5.out.set 2 (.int .i64 x)); obtain ⟨W, hW⟩ : ∃ W, W = w5.setCell ⟨w2.heap.size, 2, none⟩ (.int .i64 x) := ⟨_, rfl⟩; rw [← hW]; rw [← hW] at S6)
      have k5 := S6.out.2.2.2.2.2.1
      have j5 := S6.out.2.2.2.2.1
      have d0 := k5.cell (i := 0) (v := .int .i64 (1 + id)) rfl
      have d1 := k5.cell (i := 1) (v := .slice A m c) rfl
      have d2 := k5.cell (i := 2) (v := .int .i64 x) rfl
      have z0 := j5.cell (i := 0) rfl
      have z1 := j5.cell (i := 1) rfl
      have z2 := j5.cell (i := 2) rfl
      have y0 := j5.free 0
      have y1 := j5.free 1
      have y2 := j5.free 2
      have hd := S6.out.done (.int .i64 (1 + id)) (.slice A m c) (.int .i64 x)
      rw [← HM.out] at hd
      have D := Lib.hid hd
      have hne : w.heap.size ≠ w2.heap.size := by omega
      have hne' : w2.heap.size ≠ w.heap.size := by omega
      obtain ⟨e0, e1, e2⟩ := three_stores _ w.heap.size z0 z1 z2
      have E := Lib.hid (And.intro e0 (And.intro e1 e2))
      clear k5 j5 e0 e1 e2 hd S5 S6 hW hx q1 q2 g2 T4 U4 S4
      go_wp2
      obtain ⟨e0, e1, e2⟩ := E.out
      exact bodyPost_ret (v := .agg #[.int .i64 (1 + id), .slice A m c, .int .i64 x]) (by simp [results, Try.results26, go_sem, e0, e1, e2]) rfl ⟨⟨1 + id, l, x⟩, A, m, c, p2 + 1 + 1 + 1, rfl, HM.out.symm, hl13, (by omega), D.out⟩
  · have hz0 : (v40 == 0) = false := by simp [h0]
    have hz1 : (v40 == 1) = false := by simp [h1]
    have k5 := S4.out.2.2.2.2.2.1
    have j5 := S4.out.2.2.2.2.1
    have d0 := k5.cell (i := 0) rfl
    have d1 := k5.cell (i := 1) rfl
    have d2 := k5.cell (i := 2) rfl
    have z0 := j5.cell (i := 0) rfl
    have z1 := j5.cell (i := 1) rfl
    have z2 := j5.cell (i := 2) rfl
    have y0 := j5.free 0
    have y1 := j5.free 1
    have y2 := j5.free 2
    have hne : w.heap.size ≠ w2.heap.size := by omega
    have hne' : w2.heap.size ≠ w.heap.size := by omega
    obtain ⟨e0, e1, e2⟩ := three_stores _ w.heap.size z0 z1 z2
    have hd := S4.out.done (.int .i64 (1 + id)) (.slice A m c) (.int .i64 dn)
    rw [← HM.out] at hd
    have D := Lib.hid hd
    have E := Lib.hid (And.intro e0 (And.intro e1 e2))
    clear k5 j5 e0 e1 e2 hd S4 h0 h1
    go_wp2
    obtain ⟨e0, e1, e2⟩ := E.out
    exact bodyPost_ret (v := .agg #[.int .i64 (1 + id), .slice A m c, .int .i64 dn]) (by simp [results, Try.results26, go_sem, e0, e1, e2]) rfl ⟨⟨1 + id, l, dn⟩, A, m, c, p2 + 1 + 1, rfl, HM.out.symm, hl13, (by omega), D.out⟩
end Go.Proofs.Ytplhhjmmkohljaa
