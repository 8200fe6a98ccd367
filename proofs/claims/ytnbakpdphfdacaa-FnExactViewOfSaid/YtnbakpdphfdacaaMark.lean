/- Marking: the log's cells are overwritten with numbers counted up; no other block changes. -/
import Derived.Test.YtnbakpdphfdacaaHeld
import Derived.Test.YtnbakpdphfdacaaRowSet
namespace Go.Proofs.Ytnbakpdphfdacaa
open Go.RowKit

/-- Outside the blocks lo .. hi - 1 the old blocks are as they were. -/
def Kept (lo hi : Nat) (w w' : World) : Prop := w.heap.size ≤ w'.heap.size ∧ w'.os = w.os ∧ w'.tape = w.tape ∧ w'.output = w.output ∧ ∀ b, b < w.heap.size → ¬ (lo ≤ b ∧ b < hi) → w'.heap[b]? = w.heap[b]?
theorem Kept.refl (lo hi : Nat) (w : World) : Kept lo hi w w := ⟨Nat.le_refl _, rfl, rfl, rfl, fun _ _ _ => rfl⟩
theorem Kept.trans {lo hi : Nat} {w w1 w2 : World} (h : Kept lo hi w w1) (h2 : Kept lo hi w1 w2) : Kept lo hi w w2 :=
  ⟨Nat.le_trans h.1 h2.1, h2.2.1.trans h.2.1, h2.2.2.1.trans h.2.2.1, h2.2.2.2.1.trans h.2.2.2.1, fun b hb hn => (h2.2.2.2.2 b (Nat.lt_of_lt_of_le hb h.1) hn).trans (h.2.2.2.2 b hb hn)⟩
theorem Kept.set {lo hi : Nat} {w w1 : World} (h : Kept lo hi w w1) {a : Addr} (h1 : lo ≤ a.block) (h2 : a.block < hi) (v : Value) : Kept lo hi w (w1.setCell a v) :=
  h.trans ⟨by simp [World.setCell], rfl, rfl, rfl, fun b _ hn => Below.heap_setCell _ _ _ _ (fun e => hn (by rw [e]; exact ⟨h1, h2⟩))⟩
theorem Kept.grown {lo hi : Nat} {w w1 w2 : World} {row : Option Nat} (h : Kept lo hi w w1) (hg : w1.grownBy w2 row) (hr : ∀ g, row = some g → lo ≤ g ∧ g < hi) : Kept lo hi w w2 :=
  h.trans ⟨hg.size, hg.os, hg.tape, hg.output, fun b hb hn => hg.block b hb (fun e => hn (hr b e.symm))⟩
theorem Kept.below {lo hi B : Nat} {w w1 : World} (h : Kept lo hi w w1) (hB : B ≤ lo) (hs : B ≤ w.heap.size) : Below B w w1 :=
  ⟨h.2.1, h.2.2.1, h.2.2.2.1, h.1, fun b hb => h.2.2.2.2 b (by omega) (by omega)⟩
theorem grown_set {w w1 : World} {g : Nat} (h : w.grownBy w1 (some g)) (i : Nat) (v : Value) : w.grownBy (w1.setCell ⟨g, i, none⟩ v) (some g) :=
  ⟨h.os, h.tape, h.output, by simpa [World.setCell] using h.size, fun k hk hn => (Below.heap_setCell _ _ _ _ (fun e => hn (by rw [e]))).trans (h.block k hk hn)⟩
theorem grown_refl (w : World) (row : Option Nat) : w.grownBy w row := ⟨rfl, rfl, rfl, Nat.le_refl _, fun _ _ _ => rfl⟩

theorem Filled.take_ {α : Type} {enc : α → List Value} {sz : Nat} {cs : Array Value} {l : List α} {n : Nat} (hs : ∀ x, (enc x).length = sz) (hsz : 0 < sz) (h : Filled enc sz cs l n) (hn : n ≤ l.length) : cs.toList.take (n * sz) = (l.take n).flatMap enc := by
  have hle : n * sz ≤ l.length * sz := Nat.mul_le_mul_right _ hn
  apply List.ext_getElem?
  intro m
  by_cases hm : m < n * sz
  · have hi : m / sz < n := Nat.div_lt_of_lt_mul (by rw [Nat.mul_comm]; exact hm)
    have hj : m % sz < sz := Nat.mod_lt _ hsz
    have e : m = m / sz * sz + m % sz := by have := Nat.div_add_mod m sz; rw [Nat.mul_comm] at this; omega
    have hil : m / sz < l.length := by omega
    have hu : (enc (l[m / sz]))[m % sz]? = some ((enc (l[m / sz]))[m % sz]'(by rw [hs]; exact hj)) := List.getElem?_eq_getElem _
    have h1 := h.2 (m / sz) _ hi (List.getElem?_eq_getElem hil) (m % sz) _ hu
    have h2 := flatMap_get hs (l.take n) (m / sz) _ (by rw [List.getElem?_take, if_pos hi]; exact List.getElem?_eq_getElem hil) (m % sz) _ hu
    rw [← e] at h1 h2
    rw [h2, List.getElem?_take, if_pos hm, Array.getElem?_toList, h1]
  · rw [List.getElem?_eq_none (by rw [List.length_take, Array.length_toList, h.1]; omega), List.getElem?_eq_none (by rw [length_flatMap hs, List.length_take]; rw [Nat.min_eq_left hn]; omega)]

theorem marks_take (s : Int) {n c : Nat} (h : n ≤ c) : (marks s c).take n = marks s n := by
  unfold marks; rw [← List.map_take, List.take_range, Nat.min_eq_left h]

set_option maxHeartbeats 2000000 in
theorem markUpdateS_block (g n c : Nat) (s : Int) (cs0 : Array Value) (w : World) (h : w.heap[g]? = some (.cells cs0 72 (0, 0))) (hz : cs0.size = c * 2) (hnc : n ≤ c) (hn : n ≤ 1048576) (hs0 : 0 ≤ s) (hs1 : s ≤ 17592186044416) :
    Calls Try.prog 26 #[.slice (some ⟨g, 0, none⟩) n c, .int .i64 s] w fun e w' => e = .returned (.int .i64 (s + 2 * (n : Int))) ∧
      (∃ cs, w'.heap[g]? = some (.cells cs 72 (0, 0)) ∧ Filled Upd.enc 2 cs (marks s c) n) ∧ w.grownBy w' (some g) := by
  have hlt := lt_of_block h
  have H := Lib.hid h
  have HZ := Lib.hid hz
  clear h hz
  go_enter Try.func26, Try.ntmps26
  go_wp2
  go_loopw [1, 5] (fun v i wr => ∃ k : Nat, k ≤ n ∧ v = .int .i64 (s + 2 * (k : Int)) ∧ i = .int .i64 k ∧ Hid (∃ cs, wr.heap[g]? = some (.cells cs 72 (0, 0)) ∧ Filled Upd.enc 2 cs (marks s c) k) ∧ w.grownBy wr (some g)) (fun _ i _ => n - (intOf i).toNat)
  case atStart => exact ⟨0, Nat.zero_le _, by simp, rfl, ⟨cs0, H.out, Filled.zero (by rw [HZ.out, marks_length])⟩, grown_refl _ _⟩
  case round =>
    obtain ⟨k, hk, rfl, rfl, hfill, hB⟩ := hrel
    have HB := Lib.hid hB
    have q1 : IntKind.i64.wrap (s + 2 * (k : Int) + 1) = s + 2 * (k : Int) + 1 := IntWalk.i64_in _ (by omega)
    have q2 : IntKind.i64.wrap (s + 2 * (k : Int) + 1 + 1) = s + 2 * (k : Int) + 1 + 1 := IntWalk.i64_in _ (by omega)
    clear hB
    by_cases hl : k < n
    · obtain ⟨cs, hg, hf⟩ := hfill.out
      have Hg := Lib.hid hg
      have Hf := Lib.hid hf
      have hfs := hf.1
      rw [marks_length] at hfs
      obtain ⟨v0, q0⟩ := row_cell (i := k * 2) hg (by omega)
      obtain ⟨v1, q3⟩ := row_cell (i := k * 2 + 1) hg (by omega)
      have f0 := row_free hg (k * 2)
      have f1 := row_free hg (k * 2 + 1)
      clear hg hf hfill hfs
      have hk0 : (0 : Int) ≤ (k : Int) := by omega
      have hkn : (k : Int) < (n : Int) := by omega
      go_wp2
      go_roundw
      case rel =>
        refine ⟨k + 1, by omega, by congr 1; push_cast; omega, by go_num, ⟨_, heap_setCell_at (heap_setCell_at Hg.out _) _, Filled.step Upd.len Hf.out (marks_at (by omega))⟩, ?_⟩
        exact grown_set (grown_set HB.out _ _) _ _
      case measure => simp [intOf]; omega
    · obtain rfl : k = n := by omega
      obtain ⟨cs, hg, hf⟩ := hfill.out
      have Hg := Lib.hid hg
      have Hf := Lib.hid hf
      clear hg hf hfill
      go_wp2
      go_ret
      exact ⟨rfl, ⟨cs, Hg.out, Hf.out⟩, HB.out⟩

set_option maxHeartbeats 2000000 in
theorem markUpdateS_nil (s : Int) (w : World) :
    Calls Try.prog 26 #[.slice none 0 0, .int .i64 s] w fun e w' => e = .returned (.int .i64 s) ∧ w = w' := by
  go_enter Try.func26, Try.ntmps26
  go_wp2
  go_loopw [1, 5] (fun v i wr => v = .int .i64 s ∧ i = .int .i64 0 ∧ w = wr) (fun _ _ _ => 0)
  case atStart => exact ⟨rfl, rfl, rfl⟩
  case round =>
    obtain ⟨rfl, rfl, rfl⟩ := hrel
    go_wp2
    go_ret
    exact ⟨rfl, rfl⟩

theorem markUpdateS_own (lo : Nat) (A : Option Addr) (n c : Nat) (xs : List Value) (s : Int) (w : World) (h : w.ownsRow lo 72 2 (.slice A n c) n xs) (hn : n ≤ 1048576) (hs0 : 0 ≤ s) (hs1 : s ≤ 17592186044416) :
    Calls Try.prog 26 #[.slice A n c, .int .i64 s] w fun e w' => e = .returned (.int .i64 (s + 2 * (n : Int))) ∧
      w'.ownsRow lo 72 2 (.slice A n c) n ((marks s n).flatMap Upd.enc) ∧ w.grownBy w' (Value.slice A n c).ownBlock := by
  rcases h.2 with ⟨hv, h0⟩ | ⟨g, cap, cur, hv, hlo, hg, hnc, hm, hcs, _⟩
  · injection hv with e1 e2 e3
    subst e1; subst e2; subst e3
    refine (markUpdateS_nil s w).mono ?_
    rintro e w' ⟨rfl, rfl⟩
    exact ⟨by simp, World.ownsRow_nil _ _ _ _, grown_refl _ _⟩
  · injection hv with e1 e2 e3
    subst e1; subst e3
    refine (markUpdateS_block g n c s cur w hg hcs hnc hn hs0 hs1).mono ?_
    rintro e w' ⟨rfl, ⟨cs, hg', hf⟩, hgr⟩
    refine ⟨rfl, ⟨by rw [length_flatMap Upd.len, marks_length], .inr ⟨g, c, cs, rfl, hlo, hg', hnc, hm, by have := hf.1; rwa [marks_length] at this, ?_⟩⟩, hgr⟩
    rw [Filled.take_ Upd.len (by omega) hf (by rw [marks_length]; exact hnc), marks_take s hnc]
end Go.Proofs.Ytnbakpdphfdacaa
