/- Nodes: valid, copied: the program's and the reference's walks. -/
import Derived.Test.YtnbakpdphfdacaaLog
import Derived.Deep.RegionHeld3
import Derived.Deep.Onto
namespace Go.Proofs.Ytnbakpdphfdacaa
open Go.RowKit

theorem World.cell?_alloc_new' (w : World) (cs : Array Value) (t : TypeId) (fr : Nat × Nat) (i : Nat) : (w.alloc (.cells cs t fr)).cell? ⟨w.heap.size, i, none⟩ = cs[i]? := by
  have h := heap_alloc_new w (.cells cs t fr)
  simp only [World.cell?, h]; rfl
/-- a box, another block behind it, and a draw -/
theorem World.cell?_alloc_box (w : World) (cs ds : Array Value) (t u : TypeId) (i : Nat) : ((w.alloc (.cells cs t)).alloc (.cells ds u)).drew.cell? ⟨w.heap.size, i, none⟩ = cs[i]? :=
  (World.cell?_of_block (w := w.alloc (.cells cs t)) (a := ⟨w.heap.size, i, none⟩) (Below.heap_alloc _ _ _ (by simp))).trans (World.cell?_alloc_new' w cs t _ i)
theorem World.cell?_alloc_top (w : World) (cs ds : Array Value) (t u : TypeId) (i : Nat) : ((w.alloc (.cells cs t)).alloc (.cells ds u)).drew.cell? ⟨w.heap.size + 1, i, none⟩ = ds[i]? := by
  have := World.cell?_alloc_new' (w.alloc (.cells cs t)) ds u (0, 0) i
  rwa [show (w.alloc (.cells cs t)).heap.size = w.heap.size + 1 from by simp] at this
theorem World.frozen?_alloc_top (w : World) (cs ds : Array Value) (t u : TypeId) (i : Nat) : ((w.alloc (.cells cs t)).alloc (.cells ds u)).drew.frozen? ⟨w.heap.size + 1, i, none⟩ = false := by
  have h := heap_alloc_new (w.alloc (.cells cs t)) (.cells ds u)
  rw [show (w.alloc (.cells cs t)).heap.size = w.heap.size + 1 from by simp] at h
  exact row_free (w := ((w.alloc (.cells cs t)).alloc (.cells ds u)).drew) h i
theorem three_stores (w : World) (g : Nat) {a b c : Value} (h0 : w.cell? ⟨g, 0, none⟩ = some a) (h1 : w.cell? ⟨g, 1, none⟩ = some b) (h2 : w.cell? ⟨g, 2, none⟩ = some c) :
    (∀ u, (w.setCell ⟨g, 0, none⟩ u).cell? ⟨g, 0, none⟩ = some u) ∧ (∀ u v, ((w.setCell ⟨g, 0, none⟩ u).setCell ⟨g, 1, none⟩ v).cell? ⟨g, 1, none⟩ = some v) ∧
    (∀ u v x, (((w.setCell ⟨g, 0, none⟩ u).setCell ⟨g, 1, none⟩ v).setCell ⟨g, 2, none⟩ x).cell? ⟨g, 2, none⟩ = some x) := by
  refine ⟨fun u => World.cell?_setCell_same' _ _ _ (by rw [h0]; rfl), fun u v => World.cell?_setCell_same' _ _ _ ?_, fun u v x => World.cell?_setCell_same' _ _ _ ?_⟩
  · rw [World.cell?_setCell_other _ _ _ _ (by simp), h1]; rfl
  · rw [World.cell?_setCell_other _ _ _ _ (by simp), World.cell?_setCell_other _ _ _ _ (by simp), h2]; rfl
theorem box_cell {w w1 : World} {cs : Array Value} {t : TypeId} {fr : Nat × Nat} (hb : Below (w.alloc (.cells cs t fr)).heap.size (w.alloc (.cells cs t fr)) w1) {i : Nat} {v : Value} (h : cs[i]? = some v) : w1.cell? ⟨w.heap.size, i, none⟩ = some v :=
  (hb.cell (p := ⟨w.heap.size, i, none⟩) (by simp)).trans ((World.cell?_alloc_new' w cs t fr i).trans h)
theorem Flat.box {α : Type} {enc : α → List Value} {sz : Nat} {w : World} {n c : Nat} {A : Option Addr} {l : List α} (h : Flat enc sz w 0 w.heap.size A n c l) (o : Obj) : Flat enc sz (w.alloc o) 0 (w.alloc o).heap.size A n c l :=
  (h.below ((Below.refl _ _).alloc (Nat.le_refl _) _) (Nat.le_refl _)).mono (Nat.zero_le _) (by simp)
theorem Flat.on {α : Type} {enc : α → List Value} {sz : Nat} {w w' : World} {n c : Nat} {A : Option Addr} {l : List α} (h : Flat enc sz w 0 w.heap.size A n c l) (hb : Below w.heap.size w w') : Flat enc sz w' 0 w'.heap.size A n c l :=
  (h.below hb (Nat.le_refl _)).mono (Nat.zero_le _) hb.size
theorem below_box {w w1 : World} {o : Obj} (hb : Below (w.alloc o).heap.size (w.alloc o) w1) : Below w.heap.size w w1 := ((Below.refl _ _).alloc (Nat.le_refl _) _).trans (hb.mono (by simp))

set_option maxHeartbeats 400000 in
theorem idValid_any (n : Int) (w : World) :
    Calls Try.prog 108 #[.int .i64 n] w fun e w' => e = .returned (.bool (inB n 1 99)) ∧ w = w' := by
  go_enter Try.func108, Try.ntmps108
  go_wp2
  all_goals go_ret
  all_goals exact ⟨ret_bool (by rw [Bool.eq_iff_iff]; simp [inB]; try omega), rfl⟩

def Nod.val (x : Nod) (A : Option Addr) (n c : Nat) : Value := .agg #[.int .i64 x.id, .slice A n c, .int .i64 x.done]

set_option maxHeartbeats 1000000 in
theorem nodeValid_any (x : Nod) (A : Option Addr) (n c : Nat) (w : World) (h : Flat Upd.enc 2 w 0 w.heap.size A n c x.log) (hn : n ≤ 1048576) :
    Calls Try.prog 86 #[.agg #[.int .i64 x.id, .slice A n c, .int .i64 x.done]] w fun e w' => e = .returned (.bool (nodeOk x)) ∧ Below w.heap.size w w' := by
  have HL := Lib.hid h.len
  have H := Lib.hid h
  clear h
  cases hid : inB x.id 1 99
  · go_enter Try.func86, Try.ntmps86
    go_wp2_with (go_at_call 108; refine (idValid_any _ _).mono ?_; rintro e w' ⟨rfl, rfl⟩)
    go_ret
    exact ⟨ret_bool (by simp [nodeOk, hid]), (Below.refl _ _).alloc (Nat.le_refl _) _⟩
  cases hlog : logOk x.log
  · go_enter Try.func86, Try.ntmps86
    go_wp2_with (first | (go_at_call 108; refine (idValid_any _ _).mono ?_; rintro e w' ⟨rfl, rfl⟩) | (go_at_call 109; refine (logValid_any _ _ _ x.log _ (H.out.box _) hn).mono ?_; rintro e w1 ⟨rfl, hb1⟩; have B1 := Lib.hid hb1; clear hb1))
    go_ret
    exact ⟨ret_bool (by simp [nodeOk, hid, hlog]), below_box B1.out⟩
  by_cases h0 : 0 ≤ x.done
  case neg =>
    go_enter Try.func86, Try.ntmps86
    go_wp2_with (first | (go_at_call 108; refine (idValid_any _ _).mono ?_; rintro e w' ⟨rfl, rfl⟩) | (go_at_call 109; refine (logValid_any _ _ _ x.log _ (H.out.box _) hn).mono ?_; rintro e w1 ⟨rfl, hb1⟩; have B1 := Lib.hid hb1; have q2 := box_cell (i := 2) hb1 rfl; clear hb1))
    go_ret
    exact ⟨ret_bool (by simp [nodeOk, inB]; omega), below_box B1.out⟩
  case pos =>
  go_enter Try.func86, Try.ntmps86
  go_wp2_with (first | (go_at_call 108; refine (idValid_any _ _).mono ?_; rintro e w' ⟨rfl, rfl⟩) | (go_at_call 109; refine (logValid_any _ _ _ x.log _ (H.out.box _) hn).mono ?_; rintro e w1 ⟨rfl, hb1⟩; have B1 := Lib.hid hb1; have q1 := box_cell (i := 1) hb1 rfl; have q2 := box_cell (i := 2) hb1 rfl; clear hb1))
  go_ret
  exact ⟨ret_bool (by rw [nodeOk, hid, hlog, Bool.eq_iff_iff]; have := HL.out; simp [inB]; omega), below_box B1.out⟩

set_option maxHeartbeats 1000000 in
theorem specNodeValid_any (x : Nod) (A : Option Addr) (n c : Nat) (w : World) (h : Flat Upd.enc 2 w 0 w.heap.size A n c x.log) (hn : n ≤ 1048576) :
    Calls Try.prog 82 #[.agg #[.int .i64 x.id, .slice A n c, .int .i64 x.done]] w fun e w' => e = .returned (.bool (nodeOk x)) ∧ Below w.heap.size w w' := by
  have HL := Lib.hid h.len
  have H := Lib.hid h
  clear h
  cases hid : inB x.id 1 99
  · go_enter Try.func82, Try.ntmps82
    go_wp2_with (go_at_call 66; refine (l6In_any _ _ _ _).mono ?_; rintro e w' ⟨rfl, rfl⟩)
    go_ret
    exact ⟨ret_bool (by simp [nodeOk, hid]), (Below.refl _ _).alloc (Nat.le_refl _) _⟩
  cases hlog : logOk x.log
  · go_enter Try.func82, Try.ntmps82
    go_wp2_with (first | (go_at_call 66; refine (l6In_any _ _ _ _).mono ?_; rintro e w' ⟨rfl, rfl⟩) | (go_at_call 99; refine (specLogValid_any _ _ _ x.log _ (H.out.box _) hn).mono ?_; rintro e w1 ⟨rfl, hb1⟩; have B1 := Lib.hid hb1; clear hb1))
    go_ret
    exact ⟨ret_bool (by simp [nodeOk, hid, hlog]), below_box B1.out⟩
  go_enter Try.func82, Try.ntmps82
  go_wp2_with (first | (go_at_call 66; refine (l6In_any _ _ _ _).mono ?_; rintro e w' ⟨rfl, rfl⟩) | (go_at_call 99; refine (specLogValid_any _ _ _ x.log _ (H.out.box _) hn).mono ?_; rintro e w1 ⟨rfl, hb1⟩; have B1 := Lib.hid hb1; have q1 := box_cell (i := 1) hb1 rfl; have q2 := box_cell (i := 2) hb1 rfl; clear hb1))
  go_ret
  exact ⟨ret_bool (by have := HL.out; simp [nodeOk, hid, hlog, this]), below_box B1.out⟩

/-- what a copied node leaves -/
def NodeCopied (w : World) (x : Nod) (n : Nat) (e : Ending) (w' : World) : Prop :=
  ∃ g, e = .returned (.agg #[.int .i64 x.id, .slice (some ⟨g, 0, none⟩) n n, .int .i64 x.done]) ∧ w'.ownsRow w.heap.size 72 2 (.slice (some ⟨g, 0, none⟩) n n) n (x.log.flatMap Upd.enc) ∧ Below w.heap.size w w'

set_option maxHeartbeats 2000000 in
theorem copyNode_any (x : Nod) (A : Option Addr) (n c : Nat) (w : World) (h : Flat Upd.enc 2 w 0 w.heap.size A n c x.log) (hn : n ≤ 1048576) :
    Calls Try.prog 61 #[.agg #[.int .i64 x.id, .slice A n c, .int .i64 x.done]] w (NodeCopied w x n) := by
  have HL := Lib.hid h.len
  have H := Lib.hid h
  clear h
  go_enter Try.func61, Try.ntmps61
  go_wp2_with fail
  have F2 := Lib.hid (((H.out.box (.cells #[.int .i64 x.id, .slice A n c, .int .i64 x.done] 57)).box (.cells #[.int .i64 0, .slice none 0 0, .int .i64 0] 57)).below (Below.refl (w.heap.size + 2) _).drew (by simp))
  go_region_held3 (fun w' => w'.cell? ⟨w.heap.size, 0, none⟩ = some (.int .i64 x.id) ∧ w'.cell? ⟨w.heap.size, 1, none⟩ = some (.slice A n c) ∧ w'.cell? ⟨w.heap.size, 2, none⟩ = some (.int .i64 x.done)) (go_keep)
    ((go_at_call 57; refine (copyLog_any A n c x.log _ F2.out hn).mono ?_; rintro e w1 ⟨rfl, hown1, hb1⟩; have O1 := Lib.hid hown1; have B1 := Lib.hid hb1; have q0 := (hb1.cell (p := ⟨w.heap.size, 0, none⟩) (by simp; omega)).trans (World.cell?_alloc_box w _ _ _ _ 0); have q1 := (hb1.cell (p := ⟨w.heap.size, 1, none⟩) (by simp; omega)).trans (World.cell?_alloc_box w _ _ _ _ 1); have q2 := (hb1.cell (p := ⟨w.heap.size, 2, none⟩) (by simp; omega)).trans (World.cell?_alloc_box w _ _ _ _ 2); have z0 := (hb1.cell (p := ⟨w.heap.size + 1, 0, none⟩) (by simp)).trans (World.cell?_alloc_top w _ _ _ _ 0); have z1 := (hb1.cell (p := ⟨w.heap.size + 1, 1, none⟩) (by simp)).trans (World.cell?_alloc_top w _ _ _ _ 1); have z2 := (hb1.cell (p := ⟨w.heap.size + 1, 2, none⟩) (by simp)).trans (World.cell?_alloc_top w _ _ _ _ 2); have y0 := (hb1.frozen (p := ⟨w.heap.size + 1, 0, none⟩) (by simp)).trans (World.frozen?_alloc_top w _ _ _ _ 0); have y1 := (hb1.frozen (p := ⟨w.heap.size + 1, 1, none⟩) (by simp)).trans (World.frozen?_alloc_top w _ _ _ _ 1); have y2 := (hb1.frozen (p := ⟨w.heap.size + 1, 2, none⟩) (by simp)).trans (World.frozen?_alloc_top w _ _ _ _ 2); clear hown1 hb1))
  go_wp2
  obtain ⟨e0, e1, e2⟩ := three_stores w1 (w.heap.size + 1) z0 z1 z2
  refine bodyPost_ret (v := .agg #[.int .i64 x.id, .slice (some ⟨w.heap.size + 1 + 1, 0, none⟩) n n, .int .i64 x.done]) (by simp [results, Try.results61, go_sem, e0, e1, e2]) rfl ⟨w.heap.size + 1 + 1, rfl, ?_, ?_⟩
  · have ho := O1.out
    simp only [World.size_drew, World.size_alloc] at ho
    exact own_keep (ho.mono (by omega)) (fun g hg => by
      have : w.heap.size + 1 + 1 = g := by simpa [Value.ownBlock] using hg
      rw [Below.heap_setCell _ _ _ _ (by show g ≠ w.heap.size + 1; omega), Below.heap_setCell _ _ _ _ (by show g ≠ w.heap.size + 1; omega), Below.heap_setCell _ _ _ _ (by show g ≠ w.heap.size + 1; omega)])
  · exact ((((((Below.refl _ _).alloc (Nat.le_refl _) _).alloc (by simp) _).drew).trans (B1.out.mono (by simp; omega))).setCell (by show w.heap.size ≤ w.heap.size + 1; omega) _ |>.setCell (by show w.heap.size ≤ w.heap.size + 1; omega) _ |>.setCell (by show w.heap.size ≤ w.heap.size + 1; omega) _)
end Go.Proofs.Ytnbakpdphfdacaa
