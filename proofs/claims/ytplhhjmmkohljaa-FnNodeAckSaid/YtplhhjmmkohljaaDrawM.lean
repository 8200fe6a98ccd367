/- Drawing a node and numbers beside it. -/
import Derived.Test.YtplhhjmmkohljaaDrawN
import Derived.Deep.RegionHeld3
namespace Go.Proofs.Ytplhhjmmkohljaa
open Go.RowKit

/-- a draw of a node and more under way: the reader that the call opened, the log, the result's block, and the node's block s -/
def DnT (w0 w : World) (rb B p : Nat) (A : Option Addr) (m c : Nat) (l : List Upd) (s : Nat) (cs : Array Value) : Prop :=
  Rd w rb B p ∧ w.ownsRow w0.heap.size 47 2 (.slice A m c) m (l.flatMap Upd.enc) ∧ Below w0.heap.size w0 w ∧ w0.heap.size < rb ∧ Blk w w0.heap.size #[.int .i64 0, .slice none 0 0, .int .i64 0] 25 ∧ Blk w s cs 25 ∧ rb < s
section
variable {w0 w w' : World} {rb B p p' : Nat} {A : Option Addr} {m c : Nat} {l : List Upd} {s : Nat} {cs : Array Value}
theorem DnT.offrb (h : DnT w0 w rb B p A m c l s cs) : (Value.slice A m c).ownBlock ≠ some rb := by
  intro e
  obtain ⟨xs, h1⟩ := own_blk h.2.1 e
  obtain ⟨_, A', n', c', l', h2, _⟩ := h.1
  rw [h1] at h2; injection h2 with h2; injection h2 with _ h2; exact absurd h2 (by decide)
theorem DnT.offr (h : DnT w0 w rb B p A m c l s cs) : (Value.slice A m c).ownBlock ≠ some w0.heap.size := by
  intro e
  obtain ⟨xs, h1⟩ := own_blk h.2.1 e
  have h2 : w.heap[w0.heap.size]? = some (.cells _ 25 (0, 0)) := h.2.2.2.2.1
  rw [h1] at h2; injection h2 with h2; injection h2 with _ h2; exact absurd h2 (by decide)
theorem DnT.picked (h : DnT w0 w rb B p A m c l s cs) (hr : Rd w' rb B p') (hg : w.grownBy w' (some rb)) : DnT w0 w' rb B p' A m c l s cs := by
  have ho := h.offrb
  obtain ⟨_, h2, h3, h4, h5, h6, h7⟩ := h
  exact ⟨hr, own_keep h2 (fun g e => hg.block g (h2.lt g e).2 (fun e' => ho (e.trans e'))), h3.grown hg h3.size (fun k e => by cases e; omega), h4, h5.pick hg (by omega), h6.pick hg (by omega), h7⟩
theorem DnT.drew (h : DnT w0 w rb B p A m c l s cs) : DnT w0 w.drew rb B p A m c l s cs := by
  obtain ⟨h1, h2, h3, h4, h5, h6, h7⟩ := h
  exact ⟨h1.keep (fun _ _ => rfl), own_keep h2 (fun _ _ => rfl), h3.drew, h4, h5, h6, h7⟩
theorem DnT.done (h : DnT w0 w rb B p A m c l s cs) (hm : l.length = m) (a b d : Value) :
    Flat Upd.enc 2 (((w.setCell ⟨w0.heap.size, 0, none⟩ a).setCell ⟨w0.heap.size, 1, none⟩ b).setCell ⟨w0.heap.size, 2, none⟩ d) w0.heap.size (((w.setCell ⟨w0.heap.size, 0, none⟩ a).setCell ⟨w0.heap.size, 1, none⟩ b).setCell ⟨w0.heap.size, 2, none⟩ d).heap.size A m c l ∧
    Below w0.heap.size w0 (((w.setCell ⟨w0.heap.size, 0, none⟩ a).setCell ⟨w0.heap.size, 1, none⟩ b).setCell ⟨w0.heap.size, 2, none⟩ d) := by
  have ha := h.offr
  obtain ⟨h1, h2, h3, h4, h5, h6, h7⟩ := h
  refine ⟨own_flat' Upd.len (own_keep h2 (fun g e => ?_)) hm, ((h3.setCell (p := ⟨w0.heap.size, 0, none⟩) (Nat.le_refl _) _).setCell (p := ⟨w0.heap.size, 1, none⟩) (Nat.le_refl _) _).setCell (p := ⟨w0.heap.size, 2, none⟩) (Nat.le_refl _) _⟩
  have hne : g ≠ w0.heap.size := by rintro rfl; exact ha e
  rw [Below.heap_setCell _ _ _ _ hne, Below.heap_setCell _ _ _ _ hne, Below.heap_setCell _ _ _ _ hne]
end
/-- opened, and a node drawn -/
theorem dnT_of {w w1 w2 : World} {rb p p' n c : Nat} {x : Nod} {A : Option Addr} (hr : Rd w1 rb (w.heap.size + 1) p) (hrb : w.heap.size + 1 ≤ rb) (hb : Below (w.alloc (.cells #[.int .i64 0, .slice none 0 0, .int .i64 0] 25)).heap.size (w.alloc (.cells #[.int .i64 0, .slice none 0 0, .int .i64 0] 25)) w1)
    (h : Rd w2 rb (w.heap.size + 1) p' ∧ w2.ownsRow w1.heap.size 47 2 (.slice A n c) n (x.log.flatMap Upd.enc) ∧ w1.grownBy w2 (some rb)) (cs : Array Value) :
    DnT w (w2.alloc (.cells cs 25)) rb (w.heap.size + 1) p' A n c x.log w2.heap.size cs := by
  obtain ⟨h1, h2, h3⟩ := h
  have hs := hb.size
  simp only [World.size_alloc] at hs
  have hlt := hr.lt
  refine ⟨h1.alloc _, (h2.alloc _).mono (by omega), ((below_box hb).grown h3 (by omega) (fun k e => by cases e; omega)).alloc (by have := h3.size; omega) _, by omega, ((Blk.new w _ _).below hb |>.pick h3 (by omega)).alloc _, Blk.new w2 _ _, by have := h3.size; omega⟩

/-- what drawing a node and a key leaves -/
def DrawnNodeKey (w : World) (e : Ending) (w' : World) : Prop :=
  ∃ (x : Nod) (A : Option Addr) (n c : Nat) (key : Int), e = .returned (.tuple #[.agg #[.int .i64 x.id, .slice A n c, .int .i64 x.done], .int .i64 key]) ∧ n ≤ 13 ∧ Flat Upd.enc 2 w' w.heap.size w'.heap.size A n c x.log ∧ Below w.heap.size w w'

set_option maxHeartbeats 2000000 in
theorem drawNodeRead_any (A : Option Addr) (n c : Nat) (l : List Int) (w : World) (h : Flat encU8 1 w 0 w.heap.size A n c l) (hl : ∀ x ∈ l, 0 ≤ x ∧ x ≤ 255) :
    Calls Try.prog 18 #[.slice A n c] w (DrawnNodeKey w) := by
  have H := Lib.hid (h.box (.cells #[.int .i64 0, .slice none 0 0, .int .i64 0] 25))
  have HL := Lib.hid hl
  clear h hl
  go_enter Try.func18, Try.ntmps18
  go_wp2_with fail
  refine (open_any _ _ _ l _ H.out HL.out).mono ?_
  rintro e w1 ⟨rb, rfl, hrb, hr1, hb1⟩
  simp only [World.size_alloc] at hr1 hrb
  have R1 := Lib.hid hr1
  have B1 := Lib.hid hb1
  clear hr1 hb1 H
  go_wp2_with fail
  refine (l91Node_any rb _ _ _ R1.out (by omega)).mono ?_
  rintro e w2 ⟨x, A', n', c', p', rfl, hn', h13, hp', hd⟩
  have D2 := Lib.hid (dnT_of (x := x) R1.out hrb B1.out hd #[.int .i64 x.id, .slice A' n' c', .int .i64 x.done])
  have HN := Lib.hid hn'
  clear hd R1 B1 hn'
  go_wp2_with fail
  have k2 := D2.out.2.2.2.2.2.1
  have d0 := k2.cell (i := 0) (v := .int .i64 x.id) rfl
  have d1 := k2.cell (i := 1) (v := .slice A' n' c') rfl
  have d2 := k2.cell (i := 2) (v := .int .i64 x.done) rfl
  have E2 := Lib.hid D2.out.drew
  obtain ⟨W, hW⟩ : ∃ W, W = w2.alloc (.cells #[.int .i64 x.id, .slice A' n' c', .int .i64 x.done] 25) := ⟨_, rfl⟩
  rw [← hW] at d0 d1 d2 E2 ⊢
  clear k2 hW D2
  have hrs : rb < w2.heap.size := E2.out.2.2.2.2.2.2
  have hr0 : w.heap.size < rb := E2.out.2.2.2.1
  have hne : w.heap.size ≠ w2.heap.size := by omega
  have hne' : w2.heap.size ≠ w.heap.size := by omega
  go_region_held3 (fun V => V.cell? ⟨w2.heap.size, 0, none⟩ = some (.int .i64 x.id) ∧ V.cell? ⟨w2.heap.size, 1, none⟩ = some (.slice A' n' c') ∧ V.cell? ⟨w2.heap.size, 2, none⟩ = some (.int .i64 x.done)) (go_keep)
    ((first
      | (go_at_call 27; refine (pick_any rb _ _ 30 _ E3.out.1 (by omega)).mono ?_; rintro e w4 ⟨v30, rfl, _, _, _, hr4, hg4⟩; have E4 := Lib.hid (E3.out.picked hr4 hg4); have j := E4.out.2.2.2.2.1; have i := E4.out.2.2.2.2.2.1; have q0 := i.cell (i := 0) (v := .int .i64 x.id) rfl; have q1 := i.cell (i := 1) (v := .slice A' n' c') rfl; have q2 := i.cell (i := 2) (v := .int .i64 x.done) rfl; have z0 := j.cell (i := 0) rfl; have z1 := j.cell (i := 1) rfl; have z2 := j.cell (i := 2) rfl; have y0 := j.free 0; have y1 := j.free 1; have y2 := j.free 2; clear hr4 hg4 j i)
      | (go_at_call 27; refine (pick_any rb _ _ 4 _ E2.out.1 (by omega)).mono ?_; rintro e w3 ⟨v4, rfl, _, _, _, hr3, hg3⟩; have E3 := Lib.hid (E2.out.picked hr3 hg3); have q0 := E3.out.2.2.2.2.2.1.cell (i := 0) (v := .int .i64 x.id) rfl; have q1 := E3.out.2.2.2.2.2.1.cell (i := 1) (v := .slice A' n' c') rfl; have q2 := E3.out.2.2.2.2.2.1.cell (i := 2) (v := .int .i64 x.done) rfl; clear hr3 hg3)))
  have hd := E4.out.done HN.out (.int .i64 x.id) (.slice A' n' c') (.int .i64 x.done)
  have D := Lib.hid hd
  obtain ⟨e0, e1, e2⟩ := three_stores w4 w.heap.size z0 z1 z2
  have E := Lib.hid (And.intro e0 (And.intro e1 e2))
  clear hd e0 e1 e2 E2 E3 E4
  go_wp2
  obtain ⟨e0, e1, e2⟩ := E.out
  exact bodyPost_ret (v := .tuple #[.agg #[.int .i64 x.id, .slice A' n' c', .int .i64 x.done], .int .i64 _]) (by simp [results, Try.results18, go_sem, e0, e1, e2]; rfl) rfl ⟨x, A', n', c', _, rfl, h13, D.out⟩

/-- what drawing a node, a key and a number leaves -/
def DrawnNodeKeyMany (w : World) (e : Ending) (w' : World) : Prop :=
  ∃ (x : Nod) (A : Option Addr) (n c : Nat) (key many : Int), e = .returned (.tuple #[.agg #[.int .i64 x.id, .slice A n c, .int .i64 x.done], .int .i64 key, .int .i64 many]) ∧ n ≤ 13 ∧ Flat Upd.enc 2 w' w.heap.size w'.heap.size A n c x.log ∧ Below w.heap.size w w'

set_option maxHeartbeats 2000000 in
theorem drawNodeValueAt_any (A : Option Addr) (n c : Nat) (l : List Int) (w : World) (h : Flat encU8 1 w 0 w.heap.size A n c l) (hl : ∀ x ∈ l, 0 ≤ x ∧ x ≤ 255) :
    Calls Try.prog 11 #[.slice A n c] w (DrawnNodeKeyMany w) := by
  have H := Lib.hid (h.box (.cells #[.int .i64 0, .slice none 0 0, .int .i64 0] 25))
  have HL := Lib.hid hl
  clear h hl
  go_enter Try.func11, Try.ntmps11
  go_wp2_with fail
  refine (open_any _ _ _ l _ H.out HL.out).mono ?_
  rintro e w1 ⟨rb, rfl, hrb, hr1, hb1⟩
  simp only [World.size_alloc] at hr1 hrb
  have R1 := Lib.hid hr1
  have B1 := Lib.hid hb1
  clear hr1 hb1 H
  go_wp2_with fail
  refine (l91Node_any rb _ _ _ R1.out (by omega)).mono ?_
  rintro e w2 ⟨x, A', n', c', p', rfl, hn', h13, hp', hd⟩
  have D2 := Lib.hid (dnT_of (x := x) R1.out hrb B1.out hd #[.int .i64 x.id, .slice A' n' c', .int .i64 x.done])
  have HN := Lib.hid hn'
  clear hd R1 B1 hn'
  go_wp2_with fail
  have k2 := D2.out.2.2.2.2.2.1
  have d0 := k2.cell (i := 0) (v := .int .i64 x.id) rfl
  have d1 := k2.cell (i := 1) (v := .slice A' n' c') rfl
  have d2 := k2.cell (i := 2) (v := .int .i64 x.done) rfl
  have E2 := Lib.hid D2.out.drew
  obtain ⟨W, hW⟩ : ∃ W, W = w2.alloc (.cells #[.int .i64 x.id, .slice A' n' c', .int .i64 x.done] 25) := ⟨_, rfl⟩
  rw [← hW] at d0 d1 d2 E2 ⊢
  clear k2 hW D2
  have hrs : rb < w2.heap.size := E2.out.2.2.2.2.2.2
  have hr0 : w.heap.size < rb := E2.out.2.2.2.1
  have hne : w.heap.size ≠ w2.heap.size := by omega
  have hne' : w2.heap.size ≠ w.heap.size := by omega
  have b4 : IntKind.i64.wrap ((n' : Int) + 2) = (n' : Int) + 2 := IntWalk.i64_in _ (by omega)
  go_region_held3 (fun V => V.cell? ⟨w2.heap.size, 0, none⟩ = some (.int .i64 x.id) ∧ V.cell? ⟨w2.heap.size, 1, none⟩ = some (.slice A' n' c') ∧ V.cell? ⟨w2.heap.size, 2, none⟩ = some (.int .i64 x.done)) (go_keep)
    ((first
      | (go_at_call 27; refine (pick_any rb _ _ 20 _ E4.out.1 (by omega)).mono ?_; rintro e w5 ⟨v20, rfl, _, _, _, hr5, hg5⟩; have E5 := Lib.hid (E4.out.picked hr5 hg5); have j := E5.out.2.2.2.2.1; have i := E5.out.2.2.2.2.2.1; have q0 := i.cell (i := 0) (v := .int .i64 x.id) rfl; have q1 := i.cell (i := 1) (v := .slice A' n' c') rfl; have q2 := i.cell (i := 2) (v := .int .i64 x.done) rfl; have z0 := j.cell (i := 0) rfl; have z1 := j.cell (i := 1) rfl; have z2 := j.cell (i := 2) rfl; have y0 := j.free 0; have y1 := j.free 1; have y2 := j.free 2; clear hr5 hg5 j i)
      | (go_at_call 27; refine (pick_any rb _ _ ((n' : Int) + 2) _ E3.out.1 (by omega)).mono ?_; rintro e w4 ⟨v30, rfl, _, _, _, hr4, hg4⟩; have E4 := Lib.hid (E3.out.picked hr4 hg4); have q0 := E4.out.2.2.2.2.2.1.cell (i := 0) (v := .int .i64 x.id) rfl; have q1 := E4.out.2.2.2.2.2.1.cell (i := 1) (v := .slice A' n' c') rfl; have q2 := E4.out.2.2.2.2.2.1.cell (i := 2) (v := .int .i64 x.done) rfl; clear hr4 hg4)
      | (go_at_call 27; refine (pick_any rb _ _ 3 _ E2.out.1 (by omega)).mono ?_; rintro e w3 ⟨v4, rfl, _, _, _, hr3, hg3⟩; have E3 := Lib.hid (E2.out.picked hr3 hg3); have q0 := E3.out.2.2.2.2.2.1.cell (i := 0) (v := .int .i64 x.id) rfl; have q1 := E3.out.2.2.2.2.2.1.cell (i := 1) (v := .slice A' n' c') rfl; have q2 := E3.out.2.2.2.2.2.1.cell (i := 2) (v := .int .i64 x.done) rfl; clear hr3 hg3)))
  have hd := E5.out.done HN.out (.int .i64 x.id) (.slice A' n' c') (.int .i64 x.done)
  have D := Lib.hid hd
  obtain ⟨e0, e1, e2⟩ := three_stores w5 w.heap.size z0 z1 z2
  have E := Lib.hid (And.intro e0 (And.intro e1 e2))
  clear hd e0 e1 e2 E2 E3 E4 E5
  go_wp2
  obtain ⟨e0, e1, e2⟩ := E.out
  exact bodyPost_ret (v := .tuple #[.agg #[.int .i64 x.id, .slice A' n' c', .int .i64 x.done], .int .i64 _, .int .i64 _]) (by simp [results, Try.results11, go_sem, e0, e1, e2]; exact ⟨rfl, rfl⟩) rfl ⟨x, A', n', c', _, _, rfl, h13, D.out⟩
end Go.Proofs.Ytplhhjmmkohljaa
