/- What is pending at a node; the numbers of a key's updates; telling a node what is everywhere. -/
import Derived.Test.YtagejkfeceeifaaNodeE
namespace Go.Proofs.Ytagejkfeceeifaa
open Go.RowKit

theorem Flat.empty {α : Type} (enc : α → List Value) (sz : Nat) (w : World) (lo hi : Nat) (A : Option Addr) (c : Nat) (hc : c ≤ maxLen) : Flat enc sz w lo hi A 0 c [] := ⟨rfl, Nat.zero_le _, hc, fun h => absurd h (by omega)⟩

def pending (x : Nod) : List Upd := if nodeOk x then x.log.drop x.done.toNat else []
/-- a log in new memory -/
def LogLeft (w : World) (l : List Upd) (e : Ending) (w' : World) : Prop :=
  ∃ A m c, e = .returned (.slice A m c) ∧ l.length = m ∧ w'.ownsRow w.heap.size 71 2 (.slice A m c) m (l.flatMap Upd.enc) ∧ Below w.heap.size w w'

theorem logLeft_nil {w w1 : World} (hb : Below w.heap.size w w1) : LogLeft w [] (.returned (.slice (some ⟨w1.heap.size, 0, none⟩) 0 0)) (w1.alloc (.cells #[] 71)) :=
  ⟨_, 0, 0, rfl, rfl, (World.ownsRow_made w1 #[] 0 (Nat.le_refl _) (Nat.zero_le _) (by simp)).mono hb.size, hb.alloc hb.size _⟩

set_option maxHeartbeats 1000000 in
theorem nodePending_any (x : Nod) (A : Option Addr) (n c : Nat) (w : World) (h : Flat Upd.enc 2 w 0 w.heap.size A n c x.log) (hn : n ≤ 1048576) :
    Calls Try.prog 31 #[.agg #[.int .i64 x.id, .slice A n c, .int .i64 x.done]] w (LogLeft w (pending x)) := by
  have HL := Lib.hid h.len
  have H := Lib.hid h
  have hnc := h.2.1
  have hcm := h.2.2.1
  unfold maxLen at hcm
  clear h
  cases hok : nodeOk x
  · rw [show pending x = [] from by simp [pending, hok]]
    have H0 := Lib.hid (H.out.box (.cells #[.int .i64 x.id, .slice A n c, .int .i64 x.done] 39))
    go_enter Try.func31, Try.ntmps31
    go_wp2_with (go_at_call 55; refine (nodeValid_any x _ _ _ _ H0.out hn).mono ?_; rintro e w1 ⟨rfl, hb1⟩; rw [hok]; have B1 := Lib.hid (below_box hb1); clear hb1)
    go_ret
    exact logLeft_nil B1.out
  have HO := Lib.hid hok
  clear hok
  obtain ⟨k, hdone, hkn, _⟩ := nodeOk_done HO.out
  rw [HL.out] at hkn
  have hp : pending x = x.log.drop k := by simp [pending, HO.out, hdone]
  rw [hp]
  have hvn := fun W hF => nodeValid_any x A n c W hF hn
  rw [hdone, HO.out] at hvn
  have HV := Lib.hid hvn
  rw [hdone]
  have hpl : (x.log.drop k).length = n - k := by rw [List.length_drop, HL.out]
  have HPL := Lib.hid hpl
  clear hp hdone hvn hpl
  have H0 := Lib.hid (H.out.box (.cells #[.int .i64 x.id, .slice A n c, .int .i64 k] 39))
  by_cases hkn' : k < n
  · obtain ⟨b, off, u, rfl, _⟩ := H.out.at_ hkn'
    have D := Lib.hid (H.out.drop_at hkn')
    have hck : ¬ c = k := by omega
    go_enter Try.func31, Try.ntmps31
    go_wp2_with fail
    refine (HV.out _ H0.out).mono ?_
    rintro e w1 ⟨rfl, hb1⟩
    have B1 := Lib.hid (below_box hb1)
    have q1 := box_cell (i := 1) hb1 rfl
    have q2 := box_cell (i := 2) hb1 rfl
    have F1 := Lib.hid (D.out.on B1.out)
    clear hb1
    go_wp2_with (go_at_call 48; refine (copyLog_any _ _ _ (x.log.drop k) _ F1.out (by omega)).mono ?_; rintro e w2 ⟨rfl, hown2, hb2⟩; have O2 := Lib.hid hown2; have B2 := Lib.hid (B1.out.trans (hb2.mono B1.out.size)); clear hown2 hb2)
    go_ret
    exact ⟨_, _, _, rfl, HPL.out, O2.out.mono B1.out.size, B2.out⟩
  · obtain rfl : n = k := by omega
    have hnil : x.log.drop n = [] := List.drop_eq_nil_of_le (by rw [HL.out]; exact Nat.le_refl _)
    have e0 : n - n = 0 := Nat.sub_self n
    rw [hnil]
    clear hnil HPL
    rcases Nat.lt_or_eq_of_le hnc with hcn | hcn
    · have hcn' : ¬ c = n := by omega
      go_enter Try.func31, Try.ntmps31
      go_wp2_with fail
      refine (HV.out _ H0.out).mono ?_
      rintro e w1 ⟨rfl, hb1⟩
      have B1 := Lib.hid (below_box hb1)
      have q1 := box_cell (i := 1) hb1 rfl
      have q2 := box_cell (i := 2) hb1 rfl
      clear hb1
      go_wp2_with (go_at_call 48; refine (copyLog_any _ _ _ [] _ (Flat.empty _ _ _ _ _ _ _ (by unfold maxLen; omega)) (by omega)).mono ?_; rintro e w2 ⟨rfl, hown2, hb2⟩; have O2 := Lib.hid hown2; have B2 := Lib.hid (B1.out.trans (hb2.mono B1.out.size)); clear hown2 hb2)
      go_ret
      exact ⟨_, _, _, rfl, rfl, O2.out.mono B1.out.size, B2.out⟩
    · subst hcn
      go_enter Try.func31, Try.ntmps31
      go_wp2_with fail
      refine (HV.out _ H0.out).mono ?_
      rintro e w1 ⟨rfl, hb1⟩
      have B1 := Lib.hid (below_box hb1)
      have q1 := box_cell (i := 1) hb1 rfl
      have q2 := box_cell (i := 2) hb1 rfl
      clear hb1
      go_wp2_with (go_at_call 48; refine (copyLog_any _ _ _ [] _ (Flat.empty _ _ _ _ _ _ _ (by unfold maxLen; omega)) (by omega)).mono ?_; rintro e w2 ⟨rfl, hown2, hb2⟩; have O2 := Lib.hid hown2; have B2 := Lib.hid (B1.out.trans (hb2.mono B1.out.size)); clear hown2 hb2)
      go_ret
      exact ⟨_, _, _, rfl, rfl, O2.out.mono B1.out.size, B2.out⟩

/-- what the numbers of a key's updates leave -/
def KeysLeft (w : World) (l : List Upd) (key : Int) (e : Ending) (w' : World) : Prop :=
  ∃ A m c, e = .returned (.slice A m c) ∧ (logOk l = true → (m = 0 ↔ keyIn l key = false)) ∧ m ≤ 12 ∧ Below w.heap.size w w'

theorem new_cellsN (N : Nat) (w : World) (t : TypeId) (xs : Array Value) (zs : List Value) (hN : N = w.heap.size) (h : xs.toList = zs) : ∀ j u, zs[j]? = some u → (w.alloc (.cells xs t)).cell? ((⟨N, 0, none⟩ : Addr).add j) = some u := by
  subst hN; exact new_cells w xs t zs h
theorem three_cells (w : World) (g : Nat) {a b c : Value} (h0 : w.cell? ⟨g, 0, none⟩ = some a) (h1 : w.cell? ⟨g, 1, none⟩ = some b) (h2 : w.cell? ⟨g, 2, none⟩ = some c) (u v x : Value) :
    (((w.setCell ⟨g, 0, none⟩ u).setCell ⟨g, 1, none⟩ v).setCell ⟨g, 2, none⟩ x).cell? ⟨g, 0, none⟩ = some u ∧ (((w.setCell ⟨g, 0, none⟩ u).setCell ⟨g, 1, none⟩ v).setCell ⟨g, 2, none⟩ x).cell? ⟨g, 1, none⟩ = some v ∧
    (((w.setCell ⟨g, 0, none⟩ u).setCell ⟨g, 1, none⟩ v).setCell ⟨g, 2, none⟩ x).cell? ⟨g, 2, none⟩ = some x := by
  obtain ⟨e0, e1, e2⟩ := three_stores w g h0 h1 h2
  refine ⟨?_, ?_, e2 u v x⟩
  · rw [World.cell?_setCell_other _ _ _ _ (by simp), World.cell?_setCell_other _ _ _ _ (by simp)]; exact e0 u
  · rw [World.cell?_setCell_other _ _ _ _ (by simp)]; exact e1 u v
theorem below_box' {w w1 : World} {o p : Obj} (hb : Below ((w.alloc o).alloc p).heap.size ((w.alloc o).alloc p) w1) : Below (w.alloc o).heap.size (w.alloc o) w1 := below_box hb
theorem two_box {w w1 : World} {cs ds : Array Value} {t u : TypeId} (hb : Below ((w.alloc (.cells cs t)).alloc (.cells ds u)).heap.size ((w.alloc (.cells cs t)).alloc (.cells ds u)) w1) :
    (∀ i, w1.cell? ⟨w.heap.size, i, none⟩ = cs[i]?) ∧ (∀ i, w1.cell? ⟨w.heap.size + 1, i, none⟩ = ds[i]?) ∧ (∀ i, w1.frozen? ⟨w.heap.size + 1, i, none⟩ = false) :=
  ⟨fun i => (hb.cell (p := ⟨w.heap.size, i, none⟩) (by simp; omega)).trans (World.cell?_alloc_box w _ _ _ _ i),
   fun i => (hb.cell (p := ⟨w.heap.size + 1, i, none⟩) (by simp)).trans (World.cell?_alloc_top w _ _ _ _ i),
   fun i => (hb.frozen (p := ⟨w.heap.size + 1, i, none⟩) (by simp)).trans (World.frozen?_alloc_top w _ _ _ _ i)⟩


/-- what telling a node leaves -/
def NodeTold (w : World) (x : Nod) (k : Nat) (e : Ending) (w' : World) : Prop :=
  ∃ A n c, e = .returned (.tuple #[.agg #[.int .i64 x.id, .slice A n c, .int .i64 k], .bool true]) ∧ x.log.length = n ∧ w'.ownsRow w.heap.size 71 2 (.slice A n c) n (x.log.flatMap Upd.enc) ∧ Below w.heap.size w w'

end Go.Proofs.Ytagejkfeceeifaa
