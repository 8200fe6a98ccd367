/- The texts Held Mark MarkN MarkC Ex CQ ExChainPut RunN ReadsN ReadsU ClaimExactChainPut, joined. -/
import Derived.IntWalk
import Derived.Deep.RegionHeld3
import Derived.Test.YtcomppiglhibkaaGreatDoorB2
import Derived.Test.YtcomppiglhibkaaGreatDoorB1
import Derived.Test.YtcomppiglhibkaaGreatDoorQ1
import Derived.Test.YtcomppiglhibkaaGreatDoorPX
import Derived.Test.YtcomppiglhibkaaGreatDoorB4
import Derived.Test.YtcomppiglhibkaaGreatDoorLX
/- Marks: numbers counted up, written into a log's cells and read again. -/
namespace Go.Proofs.YtcomppiglhibkaaGreatDoor
open Go.RowKit

/-- A log of 'n' updates whose fields count up from 'k'. -/
def marks (k : Int) (n : Nat) : List Upd := (List.range n).map fun (i : Nat) => ⟨k + 2 * (i : Int), k + 2 * (i : Int) + 1⟩

theorem marks_get {k : Int} {n i : Nat} {x : Upd} (h : (marks k n)[i]? = some x) : x = ⟨k + 2 * (i : Int), k + 2 * (i : Int) + 1⟩ := by
  simp only [marks, List.getElem?_map, Option.map_eq_some_iff] at h
  obtain ⟨j, hj, rfl⟩ := h
  obtain ⟨_, hj⟩ := List.getElem?_eq_some_iff.1 hj
  simp at hj; subst hj; rfl

theorem marks_length (k : Int) (n : Nat) : (marks k n).length = n := by simp [marks]
theorem marks_at {k : Int} {n i : Nat} (h : i < n) : (marks k n)[i]? = some ⟨k + 2 * (i : Int), k + 2 * (i : Int) + 1⟩ := by
  simp [marks, h]

set_option maxHeartbeats 2000000 in
theorem heldUpdateS_marks (A : Option Addr) (n c : Nat) (s : Int) (w : World) (h : Flat Upd.enc 2 w 0 w.heap.size A n c (marks s n)) (hn : n ≤ 1048576) (hs0 : 0 ≤ s) (hs1 : s ≤ 17592186044416) :
    Calls Mo.prog 52 #[.slice A n c, .int .i64 s] w fun e w' => e = .returned (.int .i64 (s + 2 * (n : Int))) ∧ Below w.heap.size w w' := by
  have H := Lib.hid h
  clear h
  go_enter Mo.func52, Tryz.ntmps52
  go_wp2
  go_loopw [1, 5] (fun v i wr => ∃ k : Nat, k ≤ n ∧ v = .int .i64 (s + 2 * (k : Int)) ∧ i = .int .i64 k ∧ Below w.heap.size w wr) (fun _ i _ => n - (intOf i).toNat)
  case atStart => exact ⟨0, Nat.zero_le _, by simp, rfl, Below.refl _ _⟩
  case round =>
    obtain ⟨k, hk, rfl, rfl, hB⟩ := hrel
    have HW := Lib.hid (H.out.below hB (Nat.le_refl _))
    have HB := Lib.hid hB
    clear hB H
    have q1 : IntKind.i64.wrap (s + 2 * (k : Int) + 1) = s + 2 * (k : Int) + 1 := IntWalk.i64_in _ (by omega)
    have q2 : IntKind.i64.wrap (s + 2 * (k : Int) + 1 + 1) = s + 2 * (k : Int) + 1 + 1 := IntWalk.i64_in _ (by omega)
    by_cases hlt : k < n
    · obtain ⟨b, off, x, rfl, _, _, hx, c0, c1⟩ := HW.out.upd hlt
      obtain rfl := marks_get hx
      clear hx
      have hk0 : (0 : Int) ≤ (k : Int) := by omega
      have hkn : (k : Int) < (n : Int) := by omega
      go_wp2
      go_roundw
      case rel => exact ⟨k + 1, by omega, by congr 1; push_cast; omega, by go_num, HB.out⟩
      case measure => simp [intOf]; omega
    · obtain rfl : k = n := by omega
      go_wp2
      go_ret
      exact ⟨rfl, HB.out⟩
end Go.Proofs.YtcomppiglhibkaaGreatDoor
/- Marking: the log's cells are overwritten with numbers counted up; no other block changes. -/
namespace Go.Proofs.YtcomppiglhibkaaGreatDoor
open Go.RowKit

/-- Outside the blocks lo .. hi - 1 the old blocks are as they were. -/
def Kept (lo hi : Nat) (w w' : World) : Prop := w.heap.size ≤ w'.heap.size ∧ w'.os = w.os ∧ w'.tape = w.tape ∧ w'.output = w.output ∧ ∀ b, b < w.heap.size → ¬ (lo ≤ b ∧ b < hi) → w'.heap[b]? = w.heap[b]?
theorem Kept.refl (lo hi : Nat) (w : World) : Kept lo hi w w := ⟨Nat.le_refl _, rfl, rfl, rfl, fun _ _ _ => rfl⟩
theorem Kept.trans {lo hi : Nat} {w w1 w2 : World} (h : Kept lo hi w w1) (h2 : Kept lo hi w1 w2) : Kept lo hi w w2 :=
  ⟨Nat.le_trans h.1 h2.1, h2.2.1.trans h.2.1, h2.2.2.1.trans h.2.2.1, h2.2.2.2.1.trans h.2.2.2.1, fun b hb hn => (h2.2.2.2.2 b (Nat.lt_of_lt_of_le hb h.1) hn).trans (h.2.2.2.2 b hb hn)⟩
theorem Kept.set {lo hi : Nat} {w w1 : World} (h : Kept lo hi w w1) {a : Addr} (h1 : lo ≤ a.block) (h2 : a.block < hi) (v : Value) : Kept lo hi w (w1.setCell a v) :=
  h.trans ⟨by simp [World.setCell], rfl, rfl, rfl, fun b _ hn => Below.heap_setCell _ _ _ _ (fun e => hn (by rw [e]; exact ⟨h1, h2⟩))⟩
theorem Kept.grown {lo hi : Nat} {w w1 w2 : World} {row : Option Nat} (h : Kept lo hi w w1) (hg : w1.grownBy w2 row) (hr : ∀ g, row = some g → lo ≤ g ∧ g < hi) : Kept lo hi w w2 :=
  h.trans ⟨hg.size, hg.os, hg.tape, hg.output, fun b hb hn => hg.block b hb (fun e => hn (hr b e.symm))⟩
theorem Kept.below {lo hi B : Nat} {w w1 : World} (h : Kept lo hi w w1) (hB : B ≤ lo) (hs : B ≤ w.heap.size) : Below B w w1 :=
  ⟨h.2.1, h.2.2.1, h.2.2.2.1, h.1, fun b hb => h.2.2.2.2 b (by omega) (by omega)⟩
theorem grown_set {w w1 : World} {g : Nat} (h : w.grownBy w1 (some g)) (i : Nat) (v : Value) : w.grownBy (w1.setCell ⟨g, i, none⟩ v) (some g) :=
  ⟨h.os, h.tape, h.output, by simpa [World.setCell] using h.size, fun k hk hn => (Below.heap_setCell _ _ _ _ (fun e => hn (by rw [e]))).trans (h.block k hk hn)⟩
theorem grown_refl (w : World) (row : Option Nat) : w.grownBy w row := ⟨rfl, rfl, rfl, Nat.le_refl _, fun _ _ _ => rfl⟩

theorem Filled.take_ {α : Type} {enc : α → List Value} {sz : Nat} {cs : Array Value} {l : List α} {n : Nat} (hs : ∀ x, (enc x).length = sz) (hsz : 0 < sz) (h : Filled enc sz cs l n) (hn : n ≤ l.length) : cs.toList.take (n * sz) = (l.take n).flatMap enc := by
  have hle : n * sz ≤ l.length * sz := Nat.mul_le_mul_right _ hn
  apply List.ext_getElem?
  intro m
  by_cases hm : m < n * sz
  · have hi : m / sz < n := Nat.div_lt_of_lt_mul (by rw [Nat.mul_comm]; exact hm)
    have hj : m % sz < sz := Nat.mod_lt _ hsz
    have e : m = m / sz * sz + m % sz := by have := Nat.div_add_mod m sz; rw [Nat.mul_comm] at this; omega
    have hil : m / sz < l.length := by omega
    have hu : (enc (l[m / sz]))[m % sz]? = some ((enc (l[m / sz]))[m % sz]'(by rw [hs]; exact hj)) := List.getElem?_eq_getElem _
    have h1 := h.2 (m / sz) _ hi (List.getElem?_eq_getElem hil) (m % sz) _ hu
    have h2 := flatMap_get hs (l.take n) (m / sz) _ (by rw [List.getElem?_take, if_pos hi]; exact List.getElem?_eq_getElem hil) (m % sz) _ hu
    rw [← e] at h1 h2
    rw [h2, List.getElem?_take, if_pos hm, Array.getElem?_toList, h1]
  · rw [List.getElem?_eq_none (by rw [List.length_take, Array.length_toList, h.1]; omega), List.getElem?_eq_none (by rw [length_flatMap hs, List.length_take]; rw [Nat.min_eq_left hn]; omega)]

theorem marks_take (s : Int) {n c : Nat} (h : n ≤ c) : (marks s c).take n = marks s n := by
  unfold marks; rw [← List.map_take, List.take_range, Nat.min_eq_left h]

set_option maxHeartbeats 2000000 in
theorem markUpdateS_block (g n c : Nat) (s : Int) (cs0 : Array Value) (w : World) (h : w.heap[g]? = some (.cells cs0 27 (0, 0))) (hz : cs0.size = c * 2) (hnc : n ≤ c) (hn : n ≤ 1048576) (hs0 : 0 ≤ s) (hs1 : s ≤ 17592186044416) :
    Calls Mo.prog 51 #[.slice (some ⟨g, 0, none⟩) n c, .int .i64 s] w fun e w' => e = .returned (.int .i64 (s + 2 * (n : Int))) ∧
      (∃ cs, w'.heap[g]? = some (.cells cs 27 (0, 0)) ∧ Filled Upd.enc 2 cs (marks s c) n) ∧ w.grownBy w' (some g) := by
  have hlt := lt_of_block h
  have H := Lib.hid h
  have HZ := Lib.hid hz
  clear h hz
  go_enter Mo.func51, Tryz.ntmps51
  go_wp2
  go_loopw [1, 5] (fun v i wr => ∃ k : Nat, k ≤ n ∧ v = .int .i64 (s + 2 * (k : Int)) ∧ i = .int .i64 k ∧ Hid (∃ cs, wr.heap[g]? = some (.cells cs 27 (0, 0)) ∧ Filled Upd.enc 2 cs (marks s c) k) ∧ w.grownBy wr (some g)) (fun _ i _ => n - (intOf i).toNat)
  case atStart => exact ⟨0, Nat.zero_le _, by simp, rfl, ⟨cs0, H.out, Filled.zero (by rw [HZ.out, marks_length])⟩, grown_refl _ _⟩
  case round =>
    obtain ⟨k, hk, rfl, rfl, hfill, hB⟩ := hrel
    have HB := Lib.hid hB
    have q1 : IntKind.i64.wrap (s + 2 * (k : Int) + 1) = s + 2 * (k : Int) + 1 := IntWalk.i64_in _ (by omega)
    have q2 : IntKind.i64.wrap (s + 2 * (k : Int) + 1 + 1) = s + 2 * (k : Int) + 1 + 1 := IntWalk.i64_in _ (by omega)
    clear hB
    by_cases hl : k < n
    · obtain ⟨cs, hg, hf⟩ := hfill.out
      have Hg := Lib.hid hg
      have Hf := Lib.hid hf
      have hfs := hf.1
      rw [marks_length] at hfs
      obtain ⟨v0, q0⟩ := row_cell (i := k * 2) hg (by omega)
      obtain ⟨v1, q3⟩ := row_cell (i := k * 2 + 1) hg (by omega)
      have f0 := row_free hg (k * 2)
      have f1 := row_free hg (k * 2 + 1)
      clear hg hf hfill hfs
      have hk0 : (0 : Int) ≤ (k : Int) := by omega
      have hkn : (k : Int) < (n : Int) := by omega
      go_wp2
      go_roundw
      case rel =>
        refine ⟨k + 1, by omega, by congr 1; push_cast; omega, by go_num, ⟨_, heap_setCell_at (heap_setCell_at Hg.out _) _, Filled.step Upd.len Hf.out (marks_at (by omega))⟩, ?_⟩
        exact grown_set (grown_set HB.out _ _) _ _
      case measure => simp [intOf]; omega
    · obtain rfl : k = n := by omega
      obtain ⟨cs, hg, hf⟩ := hfill.out
      have Hg := Lib.hid hg
      have Hf := Lib.hid hf
      clear hg hf hfill
      go_wp2
      go_ret
      exact ⟨rfl, ⟨cs, Hg.out, Hf.out⟩, HB.out⟩

set_option maxHeartbeats 2000000 in
theorem markUpdateS_nil (s : Int) (w : World) :
    Calls Mo.prog 51 #[.slice none 0 0, .int .i64 s] w fun e w' => e = .returned (.int .i64 s) ∧ w = w' := by
  go_enter Mo.func51, Tryz.ntmps51
  go_wp2
  go_loopw [1, 5] (fun v i wr => v = .int .i64 s ∧ i = .int .i64 0 ∧ w = wr) (fun _ _ _ => 0)
  case atStart => exact ⟨rfl, rfl, rfl⟩
  case round =>
    obtain ⟨rfl, rfl, rfl⟩ := hrel
    go_wp2
    go_ret
    exact ⟨rfl, rfl⟩

theorem markUpdateS_own (lo : Nat) (A : Option Addr) (n c : Nat) (xs : List Value) (s : Int) (w : World) (h : w.ownsRow lo 27 2 (.slice A n c) n xs) (hn : n ≤ 1048576) (hs0 : 0 ≤ s) (hs1 : s ≤ 17592186044416) :
    Calls Mo.prog 51 #[.slice A n c, .int .i64 s] w fun e w' => e = .returned (.int .i64 (s + 2 * (n : Int))) ∧
      w'.ownsRow lo 27 2 (.slice A n c) n ((marks s n).flatMap Upd.enc) ∧ w.grownBy w' (Value.slice A n c).ownBlock := by
  rcases h.2 with ⟨hv, h0⟩ | ⟨g, cap, cur, hv, hlo, hg, hnc, hm, hcs, _⟩
  · injection hv with e1 e2 e3
    subst e1; subst e2; subst e3
    refine (markUpdateS_nil s w).mono ?_
    rintro e w' ⟨rfl, rfl⟩
    exact ⟨by simp, World.ownsRow_nil _ _ _ _, grown_refl _ _⟩
  · injection hv with e1 e2 e3
    subst e1; subst e3
    refine (markUpdateS_block g n c s cur w hg hcs hnc hn hs0 hs1).mono ?_
    rintro e w' ⟨rfl, ⟨cs, hg', hf⟩, hgr⟩
    refine ⟨rfl, ⟨by rw [length_flatMap Upd.len, marks_length], .inr ⟨g, c, cs, rfl, hlo, hg', hnc, hm, by have := hf.1; rwa [marks_length] at this, ?_⟩⟩, hgr⟩
    rw [Filled.take_ Upd.len (by omega) hf (by rw [marks_length]; exact hnc), marks_take s hnc]
end Go.Proofs.YtcomppiglhibkaaGreatDoor
/- Marking a row of nodes: each node's cells and its log's are overwritten with numbers counted up; reading them again. -/
namespace Go.Proofs.YtcomppiglhibkaaGreatDoor
open Go.RowKit

/-- the number ahead of node k -/
def mk (s : Int) (l : List Nod) : Nat → Int
  | 0 => s
  | k + 1 => mk s l k + 2 * ((match l[k]? with | some x => x.log.length | none => 0 : Nat) : Int) + 2
def mkNod (v : Int) (m : Nat) : Nod := ⟨v, marks (v + 1) m, v + 1 + 2 * (m : Int)⟩
/-- the first k are marked -/
def mkd (s : Int) (l : List Nod) : Nat → List Nod
  | 0 => l
  | k + 1 => (mkd s l k).set k (mkNod (mk s l k) (match l[k]? with | some x => x.log.length | none => 0))
theorem mk_succ {s : Int} {l : List Nod} {k : Nat} {x : Nod} (hx : l[k]? = some x) : mk s l (k + 1) = mk s l k + 2 * (x.log.length : Int) + 2 := by simp [mk, hx]
theorem mkd_succ {s : Int} {l : List Nod} {k : Nat} {x : Nod} (hx : l[k]? = some x) : mkd s l (k + 1) = (mkd s l k).set k (mkNod (mk s l k) x.log.length) := by simp [mkd, hx]
theorem mkd_length (s : Int) (l : List Nod) (k : Nat) : (mkd s l k).length = l.length := by
  induction k with
  | zero => rfl
  | succ k ih => rw [mkd, List.length_set, ih]
theorem mkd_ge (s : Int) (l : List Nod) {k j : Nat} (h : k ≤ j) : (mkd s l k)[j]? = l[j]? := by
  induction k with
  | zero => rfl
  | succ k ih => rw [mkd, List.getElem?_set_ne (by omega), ih (by omega)]
theorem mkd_lt {s : Int} {l : List Nod} {k j : Nat} {x : Nod} (h : j < k) (hx : l[j]? = some x) : (mkd s l k)[j]? = some (mkNod (mk s l j) x.log.length) := by
  induction k with
  | zero => omega
  | succ k ih =>
    by_cases e : j = k
    · subst e
      have hj := (List.getElem?_eq_some_iff.1 hx).1
      rw [mkd_succ hx, List.getElem?_set_self (by rw [mkd_length]; exact hj)]
    · rw [mkd, List.getElem?_set_ne (by omega), ih (by omega)]
theorem mk_bd {s : Int} {l : List Nod} (h : ∀ x ∈ l, x.log.length ≤ 1048576) (k : Nat) : s ≤ mk s l k ∧ mk s l k ≤ s + 2097154 * (k : Int) := by
  induction k with
  | zero => simp [mk]
  | succ k ih =>
    unfold mk
    cases hx : l[k]? with
    | none => simp only []; push_cast; omega
    | some x =>
      have := h x (List.mem_of_getElem? hx)
      simp only []; push_cast; omega

section
variable {w w' : World} {lo hi : Nat} {v : Value} {l : List Nod}
/-- one node of a row of the call's own: its cells, its log, and what storing another log of the same length makes of the row -/
theorem NodRow.openLog {g n c k : Nat} (h : NodRow w lo hi (.slice (some ⟨g, 0, none⟩) n c) l) (hk : k < l.length) :
    ∃ x A' m d, l[k]? = some x ∧ w.cell? ⟨g, k * 3, none⟩ = some (.int .i64 x.id) ∧ w.cell? ⟨g, k * 3 + 1, none⟩ = some (.slice A' m d) ∧ w.cell? ⟨g, k * 3 + 2, none⟩ = some (.int .i64 x.done) ∧ x.log.length = m ∧
      w.ownsRow lo 27 2 (.slice A' m d) m (x.log.flatMap Upd.enc) ∧ (∀ q, (Value.slice A' m d).ownBlock = some q → lo ≤ q ∧ q < hi ∧ q ≠ g) ∧
      (∀ (w' : World) (lg : List Upd), lg.length = m → w'.ownsRow lo 27 2 (.slice A' m d) m (lg.flatMap Upd.enc) → w.grownBy w' (Value.slice A' m d).ownBlock → NodRow w' lo hi (.slice (some ⟨g, 0, none⟩) n c) (l.set k { x with log := lg })) := by
  obtain rfl : n = l.length := h.nods'.1
  obtain ⟨rs, ho, hv, hl, hr, hd⟩ := h
  have hx : l[k]? = some l[k] := List.getElem?_eq_getElem hk
  have hrk : rs[k]? = some (rs[k]'(by omega)) := List.getElem?_eq_getElem _
  obtain ⟨a1, a2, a3, a4, a5⟩ := hr k _ _ hrk hx
  have hcell : ∀ j u, ((rs[k]'(by omega)).enc)[j]? = some u → w.cell? ⟨g, k * 3 + j, none⟩ = some u := fun j u hu => by
    have hj : j < 3 := by have := (List.getElem?_eq_some_iff.1 hu).1; rw [RN.len] at this; exact this
    have hlt : k * 3 + j < l.length * 3 := by omega
    rw [ho.cellAt (k * 3 + j) hlt, flatMap_get RN.len rs k _ hrk j u hu]
  have offg : ∀ {A : Option Addr} {m c' : Nat} {xs : List Value} {lo' : Nat}, w.ownsRow lo' 27 2 (.slice A m c') m xs → ∀ q, (Value.slice A m c').ownBlock = some q → q ≠ g := fun hh q hq e => by
    subst e
    exact own_part hh ho (by decide) hq rfl
  refine ⟨_, (rs[k]'(by omega)).A, (rs[k]'(by omega)).n, (rs[k]'(by omega)).c, hx, ?_, hcell 1 _ rfl, ?_, a3, a4, fun q hq => ⟨(a4.lt q hq).1, a5 q hq, offg a4 q hq⟩, fun w' lg hlg hown hgr => ?_⟩
  · rw [← a1]; exact hcell 0 _ rfl
  · rw [← a2]; exact hcell 2 _ rfl
  · refine ⟨rs, by rw [List.length_set]; exact own_keep ho (fun q hq => hgr.block q (ho.lt q hq).2 (fun e => offg a4 q e.symm (by simpa [Value.ownBlock] using hq.symm))), hv, by simp [hl], fun i r y h1 h2 => ?_, hd⟩
    by_cases hik : k = i
    · subst hik
      rw [List.getElem?_set_self (by omega)] at h2
      injection h2 with h2
      rw [hrk] at h1; injection h1 with h1
      subst h1; subst h2
      exact ⟨a1, a2, hlg, hown, a5⟩
    · rw [List.getElem?_set_ne hik] at h2
      obtain ⟨b1, b2, b3, b4, b5⟩ := hr i r y h1 h2
      refine ⟨b1, b2, b3, own_keep b4 (fun q hq => hgr.block q (b4.lt q hq).2 (fun e => ?_)), b5⟩
      rcases Nat.lt_or_gt_of_ne hik with hlt | hlt
      · exact hd k i _ r q hrk h1 hlt e.symm hq
      · exact hd i k r _ q h1 hrk hlt hq e.symm
end

set_option maxHeartbeats 4000000 in
theorem markNodeS_row (g n c lo hi : Nat) (l : List Nod) (s : Int) (w : World) (h : NodRow w lo hi (.slice (some ⟨g, 0, none⟩) n c) l) (hn : n ≤ 1048576) (hlog : ∀ x ∈ l, x.log.length ≤ 1048576) (hs0 : 0 ≤ s) (hs1 : s ≤ 2097154) :
    Calls Mo.prog 30 #[.slice (some ⟨g, 0, none⟩) n c, .int .i64 s] w fun e w' => e = .returned (.int .i64 (mk s l n)) ∧
      NodRow w' lo hi (.slice (some ⟨g, 0, none⟩) n c) (mkd s l n) ∧ Kept lo hi w w' := by
  have hln := h.nods'.1
  have hgb : lo ≤ g ∧ g < hi := by
    obtain ⟨rs, ho, hv, _⟩ := h
    exact ⟨(ho.lt g rfl).1, hv g rfl⟩
  have MB := Lib.hid (fun k => mk_bd (s := s) hlog k)
  have H := Lib.hid h
  have HL := Lib.hid hln
  have HG := Lib.hid hlog
  clear h hln hlog
  go_enter Mo.func30, Tryz.ntmps30
  go_wp2
  go_loopw [1, 5] (fun v i wr => ∃ (k : Nat) (u : Int), k ≤ n ∧ v = .int .i64 u ∧ i = .int .i64 k ∧ Hid (u = mk s l k) ∧ Hid (NodRow wr lo hi (.slice (some ⟨g, 0, none⟩) n c) (mkd s l k)) ∧ Kept lo hi w wr) (fun _ i _ => n - (intOf i).toNat)
  case atStart => exact ⟨0, s, Nat.zero_le _, rfl, rfl, rfl, H.out, Kept.refl _ _ _⟩
  case round =>
    obtain ⟨k, u, hk, rfl, rfl, HU, HR, hK⟩ := hrel
    have HK := Lib.hid hK
    clear hK
    have hb := MB.out k
    rw [← HU.out] at hb
    by_cases hl : k < n
    · obtain ⟨x, A1, m1, d1, hx, c0, c1, c2, hm, _, _, _⟩ := HR.out.openLog (k := k) (by rw [mkd_length, ← HL.out]; exact hl)
      have hx' : l[k]? = some x := by rw [← hx]; exact (mkd_ge s l (Nat.le_refl k)).symm
      have HX := Lib.hid hx'
      have hlen := HG.out x (List.mem_of_getElem? hx')
      have H2 := Lib.hid (by have := HR.out.setId hx u; simp only [Nat.add_zero] at this; exact this)
      obtain ⟨y, A2, m2, d2, hy, _, e1, e2, hm2, ho2, hq2, hup2⟩ := H2.out.openLog (k := k) (by rw [List.length_set, mkd_length, ← HL.out]; exact hl)
      have hyx : y = { x with id := u } := by
        rw [List.getElem?_set_self (by rw [mkd_length, ← HL.out]; exact hl)] at hy; injection hy with hy; exact hy.symm
      have hm2' : m2 ≤ 1048576 := by rw [← hm2, hyx]; exact hlen
      have HM := Lib.hid (show m2 = x.log.length by rw [← hm2, hyx])
      have HY := Lib.hid hyx
      have O2 := Lib.hid ho2
      have Q2 := Lib.hid hq2
      have U2 := Lib.hid hup2
      have f0 : wr.frozen? ⟨g, k * 3, none⟩ = false := by
        obtain ⟨_, _, _, _, _, _, _, _, _, _, hfr⟩ := HR.out.at_ (k := k) (by rw [mkd_length, ← HL.out]; exact hl)
        exact hfr _
      clear hx hx' hm hlen hy hm2 hyx ho2 hq2 hup2
      have hk0 : (0 : Int) ≤ (k : Int) := by omega
      have hkn : (k : Int) < (n : Int) := by omega
      have q1 : IntKind.i64.wrap (u + 1) = u + 1 := IntWalk.i64_in _ (by omega)
      go_wp2_with fail
      refine (markUpdateS_own lo A2 m2 d2 _ (u + 1) _ O2.out hm2' (by omega) (by omega)).mono ?_
      rintro e w3 ⟨rfl, hown3, hg3⟩
      have hr3 := U2.out w3 _ (marks_length _ _) hown3 hg3
      obtain ⟨z, A4, m4, d4, hz, _, _, t2, _, _, hfr⟩ := hr3.at_ (k := k) (by rw [List.length_set, List.length_set, mkd_length, ← HL.out]; exact hl)
      have f2 := hfr (k * 3 + 2)
      have S3 := Lib.hid (hr3.setDone hz (u + 1 + 2 * (m2 : Int)))
      have HZ := Lib.hid hz
      have K3 := Lib.hid ((HK.out.set (a := ⟨g, k * 3, none⟩) hgb.1 hgb.2 (.int .i64 u)).grown hg3 (fun q hq => ⟨(Q2.out q hq).1, (Q2.out q hq).2.1⟩))
      have q2 : IntKind.i64.wrap (u + 1 + 2 * (m2 : Int) + 1) = u + 1 + 2 * (m2 : Int) + 1 := IntWalk.i64_in _ (by omega)
      clear hown3 hg3 hr3 hz hfr e1 e2 c0 c1 c2
      go_wp2_with fail
      go_roundw
      case rel =>
        refine ⟨k + 1, u + 1 + 2 * (m2 : Int) + 1, by omega, rfl, by go_num, ?_, ?_, K3.out.set (a := ⟨g, k * 3 + 2, none⟩) hgb.1 hgb.2 _⟩
        · show _ = _
          rw [mk_succ HX.out, ← HU.out, ← HM.out]; omega
        · have h3 := S3.out
          have ez : z = ⟨u, marks (u + 1) m2, z.done⟩ := by
            have := HZ.out
            rw [List.getElem?_set_self (by rw [List.length_set, mkd_length, ← HL.out]; exact hl)] at this
            injection this with this
            rw [← this, HY.out]
          rw [List.set_set, List.set_set, ez] at h3
          show NodRow _ _ _ _ _
          rw [mkd_succ HX.out, ← HU.out, ← HM.out]
          exact h3
      case measure => simp [intOf]; omega
    · obtain rfl : k = n := by omega
      go_wp2
      go_ret
      exact ⟨ret_int HU.out, HR.out, HK.out⟩
end Go.Proofs.YtcomppiglhibkaaGreatDoor
/- Marking a chain and reading the marks again: laws.markChain, laws.heldNodeS, laws.heldChain. -/
namespace Go.Proofs.YtcomppiglhibkaaGreatDoor
open Go.RowKit

theorem Kept.alloc {lo hi : Nat} {w w1 : World} (h : Kept lo hi w w1) (o : Obj) : Kept lo hi w (w1.alloc o) :=
  h.trans ⟨by simp, rfl, rfl, rfl, fun b hb _ => Below.heap_alloc _ _ _ hb⟩
theorem Kept.ofBelow {lo hi : Nat} {w w1 : World} (hb : Below w.heap.size w w1) : Kept lo hi w w1 := ⟨hb.size, hb.os, hb.tape, hb.output, fun b h _ => hb.block b h⟩

set_option maxHeartbeats 2000000 in
theorem markNodeS_nil (s : Int) (w : World) :
    Calls Mo.prog 30 #[.slice none 0 0, .int .i64 s] w fun e w' => e = .returned (.int .i64 s) ∧ w = w' := by
  go_enter Mo.func30, Tryz.ntmps30
  go_wp2
  go_loopw [1, 5] (fun v i wr => v = .int .i64 s ∧ i = .int .i64 0 ∧ w = wr) (fun _ _ _ => 0)
  case atStart => exact ⟨rfl, rfl, rfl⟩
  case round =>
    obtain ⟨rfl, rfl, rfl⟩ := hrel
    go_wp2
    go_ret
    exact ⟨rfl, rfl⟩

theorem markNodeS_any (lo hi : Nat) (A : Option Addr) (n c : Nat) (l : List Nod) (s : Int) (w : World) (h : NodRow w lo hi (.slice A n c) l) (hn : n ≤ 1048576) (hlog : ∀ x ∈ l, x.log.length ≤ 1048576) (hs0 : 0 ≤ s) (hs1 : s ≤ 2097154) :
    Calls Mo.prog 30 #[.slice A n c, .int .i64 s] w fun e w' => e = .returned (.int .i64 (mk s l n)) ∧
      NodRow w' lo hi (.slice A n c) (mkd s l n) ∧ Kept lo hi w w' := by
  have ho : ∃ rs : List RN, w.ownsRow lo 38 3 (.slice A n c) l.length (rs.flatMap RN.enc) := by obtain ⟨rs, ho, _⟩ := h; exact ⟨rs, ho⟩
  obtain ⟨rs, ho⟩ := ho
  rcases ho.2 with ⟨hv, h0⟩ | ⟨g, cap, cur, hv, _⟩
  · injection hv with e1 e2 e3
    subst e1; subst e2; subst e3
    have hl : l = [] := List.eq_nil_of_length_eq_zero h0
    subst hl
    refine (markNodeS_nil s w).mono ?_
    rintro e w' ⟨rfl, rfl⟩
    exact ⟨rfl, h, Kept.refl _ _ _⟩
  · injection hv with e1 e2 e3
    subst e1
    exact markNodeS_row g n c lo hi l s w h hn hlog hs0 hs1

set_option maxHeartbeats 2000000 in
theorem markChain_any (lo hi : Nat) (view : Int) (A : Option Addr) (n c : Nat) (l : List Nod) (s : Int) (w : World) (h : NodRow w lo hi (.slice A n c) l) (hhi : hi ≤ w.heap.size) (hn : n ≤ 1048576) (hlog : ∀ x ∈ l, x.log.length ≤ 1048576) (hs0 : 0 ≤ s) (hs1 : s ≤ 2097154) :
    Calls Mo.prog 15 #[.agg #[.int .i64 view, .slice A n c], .int .i64 s] w fun e w' => e = .returned (.int .i64 (mk s l n)) ∧
      NodRow w' lo hi (.slice A n c) (mkd s l n) ∧ Kept lo hi w w' := by
  have H := Lib.hid (h.keep (w' := w.alloc (.cells #[.int .i64 view, .slice A n c] 25)) (fun k _ hk => Below.heap_alloc _ _ _ (by omega)))
  have HG := Lib.hid hlog
  have KB := Lib.hid (Kept.alloc (Kept.refl lo hi w) (.cells #[.int .i64 view, .slice A n c] 25))
  clear h hlog
  obtain ⟨v, hv⟩ : ∃ v, mk s l n = v := ⟨_, rfl⟩
  rw [hv]
  have HV := Lib.hid hv
  clear hv
  go_enter Mo.func15, Tryz.ntmps15
  go_wp2_with fail
  refine (markNodeS_any lo hi _ _ _ l s _ H.out hn HG.out hs0 hs1).mono ?_
  rintro e w1 ⟨rfl, hr1, hk1⟩
  rw [HV.out]
  have R1 := Lib.hid hr1
  have K1 := Lib.hid (KB.out.trans hk1)
  clear hr1 hk1
  go_wp2
  go_ret
  exact ⟨rfl, R1.out, K1.out⟩

theorem below_cell_ {w w' : World} {a : Addr} {v : Value} (hb : Below w.heap.size w w') (h : w.cell? a = some v) : w'.cell? a = some v := (hb.cell (World.block_lt_of_cell? w a h)).trans h

set_option maxHeartbeats 4000000 in
theorem heldNodeS_marks (A : Option Addr) (n c : Nat) (l : List Nod) (s : Int) (w : World) (h : Nods w 0 w.heap.size A n c (mkd s l n)) (hn : n ≤ 1048576) (hlog : ∀ x ∈ l, x.log.length ≤ 1048576) (hs0 : 0 ≤ s) (hs1 : s ≤ 2097154) :
    Calls Mo.prog 31 #[.slice A n c, .int .i64 s] w fun e w' => e = .returned (.int .i64 (mk s l n)) ∧ Below w.heap.size w w' := by
  have hln := h.len
  rw [mkd_length] at hln
  have MB := Lib.hid (fun k => mk_bd (s := s) hlog k)
  have H := Lib.hid h
  have HL := Lib.hid hln
  have HG := Lib.hid hlog
  clear h hln hlog
  go_enter Mo.func31, Tryz.ntmps31
  go_wp2
  go_loopw [1, 5] (fun v i wr => ∃ (k : Nat) (u : Int), k ≤ n ∧ v = .int .i64 u ∧ i = .int .i64 k ∧ Hid (u = mk s l k) ∧ Below w.heap.size w wr) (fun _ i _ => n - (intOf i).toNat)
  case atStart => exact ⟨0, s, Nat.zero_le _, rfl, rfl, rfl, Below.refl _ _⟩
  case round =>
    obtain ⟨k, u, hk, rfl, rfl, HU, hB⟩ := hrel
    have HW := Lib.hid (H.out.below hB (Nat.le_refl _))
    have HB := Lib.hid hB
    have hsz := hB.size
    clear hB
    have hb := MB.out k
    rw [← HU.out] at hb
    by_cases hl : k < n
    · have hx : l[k]? = some (l[k]'(by rw [HL.out]; exact hl)) := List.getElem?_eq_getElem _
      obtain ⟨x, hxe⟩ : ∃ x, x = l[k]'(by rw [HL.out]; exact hl) := ⟨_, rfl⟩
      rw [← hxe] at hx
      clear hxe
      have hm := HG.out x (List.mem_of_getElem? hx)
      obtain ⟨b, off, y, A1, m, d1, rfl, _, _, hy, c0, c1, c2, hf⟩ := HW.out.nod (k := k) hl
      have hye : y = mkNod u x.log.length := by
        have := mkd_lt (s := s) hl hx
        rw [hy] at this; injection this with this
        rw [this, HU.out]
      have hml : m = x.log.length := by have := hf.len; rw [hye] at this; rw [← this]; exact marks_length _ _
      have F := Lib.hid (show Flat Upd.enc 2 wr 0 wr.heap.size A1 m d1 (marks (u + 1) m) by
        have := hf.mono (Nat.zero_le _) hsz
        rw [hye] at this; rw [hml]; rw [hml] at this; exact this)
      have c0' : wr.cell? ⟨b, off + k * 3, none⟩ = some (.int .i64 u) := by rw [c0, hye]; rfl
      have c2' : wr.cell? ⟨b, off + k * 3 + 2, none⟩ = some (.int .i64 (u + 1 + 2 * (m : Int))) := by rw [c2, hye, hml]; rfl
      have HX := Lib.hid hx
      have HM := Lib.hid hml
      rw [← hml] at hm
      clear hx hy hye hml hf c0 c2
      have hk0 : (0 : Int) ≤ (k : Int) := by omega
      have hkn : (k : Int) < (n : Int) := by omega
      have q1 : IntKind.i64.wrap (u + 1) = u + 1 := IntWalk.i64_in _ (by omega)
      have e1 : (u != u) = false := by simp
      have e2 : (u + 1 + 2 * (m : Int) != u + 1 + 2 * (m : Int)) = false := by simp
      have e3 : ¬ (u + 1 + 2 * (m : Int) < 0) := by omega
      go_wp2_with fail
      refine (heldUpdateS_marks A1 m d1 (u + 1) wr F.out hm (by omega) (by omega)).mono ?_
      rintro e w1 ⟨rfl, hb1⟩
      have B1 := Lib.hid (HB.out.trans (hb1.mono hsz))
      have c3 := below_cell_ hb1 c2'
      have q2 : IntKind.i64.wrap (u + 1 + 2 * (m : Int) + 1) = u + 1 + 2 * (m : Int) + 1 := IntWalk.i64_in _ (by omega)
      clear hb1 c0' c1 c2'
      go_wp2
      go_roundw
      case rel =>
        refine ⟨k + 1, u + 1 + 2 * (m : Int) + 1, by omega, rfl, by go_num, ?_, B1.out⟩
        show _ = _
        rw [mk_succ HX.out, ← HU.out, ← HM.out]; omega
      case measure => simp [intOf]; omega
    · obtain rfl : k = n := by omega
      go_wp2
      go_ret
      exact ⟨ret_int HU.out, HB.out⟩

set_option maxHeartbeats 2000000 in
theorem heldChain_marks (view : Int) (A : Option Addr) (n c : Nat) (l : List Nod) (s : Int) (w : World) (h : Nods w 0 w.heap.size A n c (mkd s l n)) (hn : n ≤ 1048576) (hlog : ∀ x ∈ l, x.log.length ≤ 1048576) (hs0 : 0 ≤ s) (hs1 : s ≤ 2097154) :
    Calls Mo.prog 16 #[.agg #[.int .i64 view, .slice A n c], .int .i64 s] w fun e w' => e = .returned (.int .i64 (mk s l n)) ∧ Below w.heap.size w w' := by
  have hv0 := (mk_bd (s := s) hlog n).1
  have H := Lib.hid (h.box (.cells #[.int .i64 view, .slice A n c] 25))
  have HG := Lib.hid hlog
  clear h hlog
  obtain ⟨v, hv⟩ : ∃ v, mk s l n = v := ⟨_, rfl⟩
  rw [hv]
  rw [hv] at hv0
  have HV := Lib.hid hv
  have hv1 : ¬ v < 0 := by omega
  clear hv
  go_enter Mo.func16, Tryz.ntmps16
  go_wp2_with fail
  refine (heldNodeS_marks _ _ _ l s _ H.out hn HG.out hs0 hs1).mono ?_
  rintro e w1 ⟨rfl, hb1⟩
  rw [HV.out]
  have B1 := Lib.hid (below_box hb1)
  clear hb1
  go_wp2
  go_ret
  exact ⟨rfl, B1.out⟩
end Go.Proofs.YtcomppiglhibkaaGreatDoor
/- The exact statements' variables: a chain in a block, its row of nodes in blocks of its own, kept over calls and marking; plain lemmas on worlds. -/
namespace Go.Proofs.YtcomppiglhibkaaGreatDoor
open Go.RowKit

/-- the chain (view, l) in block 'box', its row in blocks from lo on and below hi -/
structure CI (W : World) (t : TypeId) (lo hi box : Nat) (view : Int) (A : Option Addr) (n c : Nat) (l : List Nod) : Prop where
  blk : Blk W box #[.int .i64 view, .slice A n c] t
  nods : Nods W lo hi A n c l
  his : hi ≤ box
section
variable {W W' : World} {t : TypeId} {lo hi box : Nat} {view : Int} {A : Option Addr} {n c : Nat} {l : List Nod}
theorem CI.lt (h : CI W t lo hi box view A n c l) : box < W.heap.size := h.blk.lt
theorem CI.below (h : CI W t lo hi box view A n c l) (hb : Below W.heap.size W W') : CI W' t lo hi box view A n c l :=
  ⟨h.blk.below hb, h.nods.below hb (by have := h.his; have := h.lt; omega), h.his⟩
theorem CI.alloc (h : CI W t lo hi box view A n c l) (o : Obj) : CI (W.alloc o) t lo hi box view A n c l := h.below ((Below.refl _ _).alloc (Nat.le_refl _) _)
theorem CI.drew (h : CI W t lo hi box view A n c l) : CI W.drew t lo hi box view A n c l := h.below (Below.refl _ _).drew
theorem CI.kept {lo' hi' : Nat} (h : CI W t lo hi box view A n c l) (hk : Kept lo' hi' W W') (hd : box < lo' ∨ hi' ≤ lo ∧ hi' ≤ box) : CI W' t lo hi box view A n c l :=
  ⟨(hk.2.2.2.2 box h.lt (by omega)).trans h.blk, h.nods.keep (fun k h1 h2 => hk.2.2.2.2 k (by have := h.his; have := h.lt; omega) (by have := h.his; omega)), h.his⟩
theorem CI.wide (h : CI W t lo hi box view A n c l) : Nods W 0 W.heap.size A n c l := h.nods.wide (by have := h.his; have := h.lt; omega)
theorem CI.c0 (h : CI W t lo hi box view A n c l) : W.cell? ⟨box, 0, none⟩ = some (.int .i64 view) := h.blk.cell rfl
theorem CI.c1 (h : CI W t lo hi box view A n c l) : W.cell? ⟨box, 1, none⟩ = some (.slice A n c) := h.blk.cell rfl
/-- .. and the row is the call's own -/
structure CR (W : World) (lo hi box : Nat) (view : Int) (A : Option Addr) (n c : Nat) (l : List Nod) : Prop where
  blk : Blk W box #[.int .i64 view, .slice A n c] 25
  row : NodRow W lo hi (.slice A n c) l
  his : hi ≤ box
theorem CR.lt (h : CR W lo hi box view A n c l) : box < W.heap.size := h.blk.lt
theorem CR.below (h : CR W lo hi box view A n c l) (hb : Below W.heap.size W W') : CR W' lo hi box view A n c l :=
  ⟨h.blk.below hb, h.row.below hb (by have := h.his; have := h.lt; omega), h.his⟩
theorem CR.alloc (h : CR W lo hi box view A n c l) (o : Obj) : CR (W.alloc o) lo hi box view A n c l := h.below ((Below.refl _ _).alloc (Nat.le_refl _) _)
theorem CR.drew (h : CR W lo hi box view A n c l) : CR W.drew lo hi box view A n c l := h.below (Below.refl _ _).drew
theorem CR.kept {lo' hi' : Nat} (h : CR W lo hi box view A n c l) (hk : Kept lo' hi' W W') (hd : box < lo' ∨ hi' ≤ lo ∧ hi' ≤ box) : CR W' lo hi box view A n c l :=
  ⟨(hk.2.2.2.2 box h.lt (by omega)).trans h.blk, h.row.keep (fun k h1 h2 => hk.2.2.2.2 k (by have := h.his; have := h.lt; omega) (by have := h.his; omega)), h.his⟩
/-- its own row is marked -/
theorem CR.mark {l' : List Nod} (h : CR W lo hi box view A n c l) (hr : NodRow W' lo hi (.slice A n c) l') (hk : Kept lo hi W W') : CR W' lo hi box view A n c l' :=
  ⟨(hk.2.2.2.2 box h.lt (by have := h.his; omega)).trans h.blk, hr, h.his⟩
theorem CR.ci (h : CR W lo hi box view A n c l) : CI W 25 lo hi box view A n c l := ⟨h.blk, h.row.nods'.2, h.his⟩
theorem CR.new {lo : Nat} (h : NodRow W lo W.heap.size (.slice A n c) l) (view : Int) : CR (W.alloc (.cells #[.int .i64 view, .slice A n c] 25)) lo W.heap.size W.heap.size view A n c l :=
  ⟨Blk.new W _ _, h.keep (fun _ _ hk => Below.heap_alloc _ _ _ hk), Nat.le_refl _⟩
theorem CR.his' (h : CR W lo hi box view A n c l) : hi ≤ W.heap.size := by have := h.his; have := h.lt; omega
end
/-- a chain in new memory, and a second value -/
def ResAt (W : World) (v1 : Int) (l1 : List Nod) (u : Value) (e : Ending) (w' : World) : Prop :=
  ∃ A n c, e = .returned (.tuple #[.agg #[.int .i64 v1, .slice A n c], u]) ∧ l1.length = n ∧ NodRow w' W.heap.size w'.heap.size (.slice A n c) l1 ∧ Below W.heap.size W w'
theorem ChainRes.at_ {w w' : World} {o : Option (Int × List Nod)} {e : Ending} {v1 : Int} {l1 : List Nod} {t1 : Bool} (h : ChainRes w o e w') (h1 : o.getD (0, []) = (v1, l1)) (h2 : o.isSome = t1) : ResAt w v1 l1 (.bool t1) e w' := by
  obtain ⟨v, A, n, c, l, e1, rfl, hl, hrow, hb⟩ := h
  rw [h1] at e1; injection e1 with e1 e2
  subst e1; subst e2; subst h2
  exact ⟨A, n, c, rfl, hl, hrow, hb⟩
theorem optChain_ok {o : Option (Int × List Nod)} {v1 : Int} {l1 : List Nod} (ho : ∀ v l, o = some (v, l) → Good v l) (h1 : o.getD (0, []) = (v1, l1)) : l1.length ≤ 5 ∧ ∀ x ∈ l1, x.log.length ≤ 13 := by
  cases o with
  | none => injection h1 with e1 e2; subst e2; exact ⟨by simp, fun x hx => by cases hx⟩
  | some p => obtain ⟨v', l'⟩ := p; injection h1 with e1 e2; subst e1; subst e2; exact good_ok (ho _ _ rfl)
theorem swapM_good {v u : Int} {l r : List Nod} {old id : Int} (h : swapM v l old id = some (u, r)) : Good u r := by
  unfold swapM at h
  split at h
  · exact addM_good h
  · cases h
end Go.Proofs.YtcomppiglhibkaaGreatDoor
/- A chain in a block of the law's, anywhere outside its own row: for regions that lay the block ahead of the row. -/
namespace Go.Proofs.YtcomppiglhibkaaGreatDoor
open Go.RowKit

theorem put_ok {v v' : Int} {l r : List Nod} {u : Upd} (h : putM v l u = some (v', r)) : Good v' r := (good_put h).1
/-- the chain's block g and its row [rlo, rhi) lie in [lo, hi) -/
structure CQ (W : World) (lo hi rlo rhi g : Nat) (view : Int) (A : Option Addr) (n c : Nat) (l : List Nod) : Prop where
  blk : Blk W g #[.int .i64 view, .slice A n c] 25
  row : NodRow W rlo rhi (.slice A n c) l
  out : g < rlo ∨ rhi ≤ g
  b0 : lo ≤ g ∧ g < hi
  b1 : lo ≤ rlo ∧ rhi ≤ hi
  b2 : hi ≤ W.heap.size
section
variable {W W' : World} {lo hi rlo rhi g : Nat} {view : Int} {A : Option Addr} {n c : Nat} {l : List Nod}
theorem CQ.below (h : CQ W lo hi rlo rhi g view A n c l) (hb : Below W.heap.size W W') : CQ W' lo hi rlo rhi g view A n c l :=
  ⟨h.blk.below hb, h.row.below hb (by have := h.b1; have := h.b2; omega), h.out, h.b0, h.b1, Nat.le_trans h.b2 hb.size⟩
theorem CQ.alloc (h : CQ W lo hi rlo rhi g view A n c l) (o : Obj) : CQ (W.alloc o) lo hi rlo rhi g view A n c l := h.below ((Below.refl _ _).alloc (Nat.le_refl _) _)
theorem CQ.drew (h : CQ W lo hi rlo rhi g view A n c l) : CQ W.drew lo hi rlo rhi g view A n c l := h.below (Below.refl _ _).drew
theorem CQ.kept {lo' hi' : Nat} (h : CQ W lo hi rlo rhi g view A n c l) (hk : Kept lo' hi' W W') (hd : hi ≤ lo' ∨ hi' ≤ lo) : CQ W' lo hi rlo rhi g view A n c l :=
  ⟨(hk.2.2.2.2 g (by have := h.b0; have := h.b2; omega) (by have := h.b0; omega)).trans h.blk, h.row.keep (fun k h1 h2 => hk.2.2.2.2 k (by have := h.b1; have := h.b2; omega) (by have := h.b1; omega)), h.out, h.b0, h.b1, Nat.le_trans h.b2 hk.1⟩
theorem CQ.mark {l' : List Nod} (h : CQ W lo hi rlo rhi g view A n c l) (hr : NodRow W' rlo rhi (.slice A n c) l') (hk : Kept rlo rhi W W') : CQ W' lo hi rlo rhi g view A n c l' :=
  ⟨(hk.2.2.2.2 g (by have := h.b0; have := h.b2; omega) (by have := h.out; omega)).trans h.blk, hr, h.out, h.b0, h.b1, Nat.le_trans h.b2 hk.1⟩
theorem CQ.c0 (h : CQ W lo hi rlo rhi g view A n c l) : W.cell? ⟨g, 0, none⟩ = some (.int .i64 view) := h.blk.cell rfl
theorem CQ.c1 (h : CQ W lo hi rlo rhi g view A n c l) : W.cell? ⟨g, 1, none⟩ = some (.slice A n c) := h.blk.cell rfl
theorem CQ.wide (h : CQ W lo hi rlo rhi g view A n c l) : Nods W 0 W.heap.size A n c l := h.row.nods'.2.wide (by have := h.b1; have := h.b2; omega)
theorem CQ.his (h : CQ W lo hi rlo rhi g view A n c l) : rhi ≤ W.heap.size := by have := h.b1; have := h.b2; omega
theorem CQ.lt (h : CQ W lo hi rlo rhi g view A n c l) : g < W.heap.size := h.blk.lt
theorem CQ.new {lo : Nat} (h : NodRow W lo W.heap.size (.slice A n c) l) (hlo : lo ≤ W.heap.size) (view : Int) : CQ (W.alloc (.cells #[.int .i64 view, .slice A n c] 25)) lo (W.heap.size + 1) lo W.heap.size W.heap.size view A n c l :=
  ⟨Blk.new W _ _, h.keep (fun _ _ hk => Below.heap_alloc _ _ _ hk), .inr (Nat.le_refl _), ⟨hlo, by omega⟩, ⟨Nat.le_refl _, by omega⟩, by simp⟩
theorem CQ.fused {W0 wc : World} {rl : Nat} (hb : Below W0.heap.size W0 wc) (hrow : NodRow wc rl wc.heap.size (.slice A n c) l) (h1 : W0.heap.size ≤ rl) :
    CQ (wc.alloc (.cells #[.int .i64 view, .slice A n c] 25)) W0.heap.size (wc.alloc (.cells #[.int .i64 view, .slice A n c] 25)).heap.size rl wc.heap.size wc.heap.size view A n c l ∧ Below W0.heap.size W0 (wc.alloc (.cells #[.int .i64 view, .slice A n c] 25)) :=
  ⟨⟨Blk.new wc _ _, hrow.keep (fun _ _ hk => Below.heap_alloc _ _ _ hk), .inr (Nat.le_refl _), ⟨hb.size, by simp⟩, ⟨h1, by simp⟩, Nat.le_refl _⟩, hb.alloc hb.size _⟩
theorem CQ.stored {W0 wc : World} {rl s : Nat} {x y : Value} (hb : Below W0.heap.size W0 wc) (hrow : NodRow wc rl wc.heap.size (.slice A n c) l) (hk : Blk wc s #[x, y] 25) (h1 : W0.heap.size ≤ s) (h2 : s < rl) :
    CQ ((wc.setCell ⟨s, 0, none⟩ (.int .i64 view)).setCell ⟨s, 1, none⟩ (.slice A n c)) W0.heap.size ((wc.setCell ⟨s, 0, none⟩ (.int .i64 view)).setCell ⟨s, 1, none⟩ (.slice A n c)).heap.size rl wc.heap.size s view A n c l ∧ Below W0.heap.size W0 ((wc.setCell ⟨s, 0, none⟩ (.int .i64 view)).setCell ⟨s, 1, none⟩ (.slice A n c)) := by
  have hs : ((wc.setCell ⟨s, 0, none⟩ (.int .i64 view)).setCell ⟨s, 1, none⟩ (.slice A n c)).heap.size = wc.heap.size := by simp [World.setCell]
  have hl := hk.lt
  refine ⟨⟨(hk.set 0 _).set 1 _, hrow.keep (fun k h3 _ => ?_), .inl h2, ⟨h1, by rw [hs]; exact hl⟩, ⟨by omega, by rw [hs]; exact Nat.le_refl _⟩, Nat.le_refl _⟩, (hb.setCell (p := ⟨s, 0, none⟩) h1 _).setCell (p := ⟨s, 1, none⟩) h1 _⟩
  rw [Below.heap_setCell _ _ _ _ (by show k ≠ s; omega), Below.heap_setCell _ _ _ _ (by show k ≠ s; omega)]
end
end Go.Proofs.YtcomppiglhibkaaGreatDoor
/- 'laws.FnExactChainPut': the walk of the law: it returns true, and writes nothing that was there. Printed by genexp.py. -/
namespace Go.Proofs.YtcomppiglhibkaaGreatDoor
open Go.RowKit
set_option linter.unusedVariables false
set_option linter.unusedSimpArgs false

set_option maxRecDepth 100000 in
set_option maxHeartbeats 4000000 in
theorem exChainPut_walk (a : Addr) (view : Int) (A : Option Addr) (n c : Nat) (l : List Nod) (u : Upd) (w : World) (he : ErrAt a w) (h : Nods w 0 w.heap.size A n c l) :
    Calls Mo.prog 4 #[.agg #[.int .i64 view, .slice A n c], .agg #[.int .i64 u.key, .int .i64 u.value]] w fun e w' => e = .returned (.bool true) ∧ Below w.heap.size w w' := by
  obtain ⟨o, ho⟩ : ∃ o, putM view l u = o := ⟨_, rfl⟩
  obtain ⟨v1, hv1⟩ : ∃ v, (o.getD (0, [])).1 = v := ⟨_, rfl⟩
  obtain ⟨l1, hl1⟩ : ∃ v, (o.getD (0, [])).2 = v := ⟨_, rfl⟩
  obtain ⟨t1, ht1⟩ : ∃ v, o.isSome = v := ⟨_, rfl⟩
  have hp : o.getD (0, []) = (v1, l1) := by rw [← hv1, ← hl1]
  have gg := optChain_ok (o := o) (fun v l hh => put_ok (ho.trans hh)) hp
  have HG1 := Lib.hid (show ∀ x ∈ l1, x.log.length ≤ 1048576 from fun x hx => by have := gg.2 x hx; omega)
  have hl5 := gg.1
  have sp : ∀ (W : World) (A : Option Addr) (n c : Nat), Nods W 0 W.heap.size A n c l → n ≤ 1048576 → (∀ x ∈ l, x.log.length ≤ 1048576) → Calls Mo.prog 7 #[.agg #[.int .i64 view, .slice A n c], .agg #[.int .i64 u.key, .int .i64 u.value]] W (ResAt W v1 l1 (.bool t1)) := fun W A n c h hn hg =>
    (specChainPut_any view A n c l u W h hn hg).mono (fun e w' hq => ChainRes.at_ (by rw [ho] at hq; exact hq) hp ht1)
  have im : ∀ (W : World) (_ : ErrAt a W) (A : Option Addr) (n c : Nat), Nods W 0 W.heap.size A n c l → n ≤ 1048576 → (∀ x ∈ l, x.log.length ≤ 1048576) → Calls Mo.prog 6 #[.agg #[.int .i64 view, .slice A n c], .agg #[.int .i64 u.key, .int .i64 u.value]] W (ResAt W v1 l1 (.bool t1)) := fun W he A n c h hn hg =>
    (chainPut_any a view A n c l u W he h hn hg).mono (fun e w' hq => ChainRes.at_ (by rw [ho] at hq; exact hq) hp ht1)
  have SP := Lib.hid sp
  have IM := Lib.hid im
  have tt : (t1 != t1) = false := by simp
  have MB1 := Lib.hid (fun k => mk_bd (s := 1) HG1.out k)
  have HL := Lib.hid h.len
  have H := Lib.hid h
  have H0 := Lib.hid ((h.box (.cells #[.int .i64 view, .slice A n c] 42)).box (.cells #[.int .i64 u.key, .int .i64 u.value] 43))
  have HE := Lib.hid he
  have UU0 := Lib.hid (show Blk ((w.alloc (.cells #[.int .i64 view, .slice A n c] 42)).alloc (.cells #[.int .i64 u.key, .int .i64 u.value] 43)) (w.heap.size + 1) #[.int .i64 u.key, .int .i64 u.value] 43 from by
    have h := Blk.new (w.alloc (.cells #[.int .i64 view, .slice A n c] 42)) #[.int .i64 u.key, .int .i64 u.value] 43
    rwa [World.size_alloc] at h)
  have CA0 := Lib.hid ((CI.mk (Blk.new w #[.int .i64 view, .slice A n c] 42) (h.keep (w' := w.alloc (.cells #[.int .i64 view, .slice A n c] 42)) (fun _ _ hk => Below.heap_alloc _ _ _ hk)) (Nat.le_refl _)).alloc (.cells #[.int .i64 u.key, .int .i64 u.value] 43))
  obtain ⟨nn, hnn⟩ : ∃ k, l1.length = k := ⟨_, rfl⟩
  have NN := Lib.hid hnn
  have hnn5 : nn ≤ 5 := by omega
  clear hnn h he ho hv1 hl1 ht1 hp gg sp im
  go_enter Mo.func4, Tryz.ntmps4
  go_wp2_with fail
  refine (szChain_any _ _ _ _ l _ _ H0.out (by omega) (by omega)).mono ?_
  rintro e w1 ⟨z, rfl, hz, hb1⟩
  have BT := Lib.hid (below_box (below_box hb1))
  have CA := Lib.hid (CA0.out.below hb1)
  have UU := Lib.hid (UU0.out.below hb1)
  clear hb1 H0 CA0 UU0
  by_cases hz0 : z < 0
  · clear hz
    go_wp2
    go_ret
    exact ⟨rfl, BT.out⟩
  have hz' := hz.resolve_left hz0
  have hn : n ≤ 1048576 := by omega
  have HG := Lib.hid (show ∀ x ∈ l, x.log.length ≤ 1048576 from fun x hx => by have := hz'.2.2.2 x hx; have := hz'.2.1; omega)
  have MB := Lib.hid (fun k => mk_bd (s := 1) HG.out k)
  clear hz hz'
  have FW := Lib.hid CA.out.wide
  have q0 := CA.out.c0
  have q1 := CA.out.c1
  have r0 := UU.out.cell (i := 0) (v := .int .i64 u.key) rfl
  have r1 := UU.out.cell (i := 1) (v := .int .i64 u.value) rfl
  go_upto_region 5 with fail
  go_cut [6, 7] from 21 to 29 (fun sa sb wq => ∃ (gn rlo rhi : Nat) (A3 : Option Addr) (c3 : Nat), sa = .pointer (some ⟨gn, 0, none⟩) ∧ sb = .bool t1 ∧ CQ wq w1.heap.size wq.heap.size rlo rhi gn v1 A3 nn c3 l1 ∧ Below w1.heap.size w1 wq)
  case first =>
    have BD := Lib.hid (show Below w1.heap.size w1 w1.drew from (Below.refl _ _).drew)
    have BA := Lib.hid (show Below w1.heap.size w1 (w1.alloc (.cells #[.int .i64 0, .slice none 0 0] 25)).drew from ((Below.refl _ _).alloc (Nat.le_refl _) _).drew)
    have NA := Lib.hid (Blk.new w1 #[.int .i64 0, .slice none 0 0] 25).drew
    have FD := Lib.hid (show Nods w1.drew 0 w1.drew.heap.size A n c l from FW.out.on BD.out)
    have FE := Lib.hid (show Nods (w1.alloc (.cells #[.int .i64 0, .slice none 0 0] 25)).drew 0 (w1.alloc (.cells #[.int .i64 0, .slice none 0 0] 25)).drew.heap.size A n c l from FW.out.on BA.out)
    have l0 : w.heap.size < w1.heap.size := CA.out.lt
    have l1 : w.heap.size + 1 < w1.heap.size := UU.out.lt
    have e1 : w.heap.size ≠ w1.heap.size := by omega
    have e2 : w.heap.size + 1 ≠ w1.heap.size := by omega
    have e3 : w1.heap.size ≠ w.heap.size := by omega
    have e4 : w1.heap.size ≠ w.heap.size + 1 := by omega
    go_region_held3 (fun V => V.cell? ⟨w.heap.size, 0, none⟩ = some (.int .i64 view) ∧ V.cell? ⟨w.heap.size, 1, none⟩ = some (.slice A n c) ∧ V.cell? ⟨w.heap.size + 1, 0, none⟩ = some (.int .i64 u.key) ∧ V.cell? ⟨w.heap.size + 1, 1, none⟩ = some (.int .i64 u.value)) (go_keep) ((first
          | (go_at_call 12; (with_reducible refine (toChain_any _ _ _ _ l _ FE.out hn HG.out).mono ?_); rintro e wa ⟨Aa, na, ca, rfl, hla, hrowa, hba⟩; obtain rfl : na = n := by rw [← hla]; exact HL.out
             have HB1 := Lib.hid (BA.out.trans (hba.mono (by simp))); have x10 := (HB1.out.cell (p := ⟨w.heap.size, 0, none⟩) l0).trans q0; have x11 := (HB1.out.cell (p := ⟨w.heap.size, 1, none⟩) l0).trans q1; have x12 := (HB1.out.cell (p := ⟨w.heap.size + 1, 0, none⟩) l1).trans r0; have x13 := (HB1.out.cell (p := ⟨w.heap.size + 1, 1, none⟩) l1).trans r1; have s1 := HB1.out.size; have g11 : w.heap.size < wa.heap.size := (by omega); have g12 : w.heap.size + 1 < wa.heap.size := (by omega); have h11 : w.heap.size ≠ wa.heap.size := (by omega); have h12 : w.heap.size + 1 ≠ wa.heap.size := (by omega); have h13 : wa.heap.size ≠ w.heap.size := (by omega); have h14 : wa.heap.size ≠ w.heap.size + 1 := (by omega); have NB := Lib.hid (NA.out.below hba); have n0 := NB.out.cell (i := 0) (v := .int .i64 0) rfl; have n1 := NB.out.cell (i := 1) (v := .slice none 0 0) rfl; have z0 := NB.out.free 0; have z1 := NB.out.free 1; have FA := Lib.hid (hrowa.nods'.2.mono (Nat.zero_le _) (Nat.le_refl _)); clear hrowa hba hla)
          | (go_at_call 12; (with_reducible refine (toChain_any _ _ _ _ l _ FD.out hn HG.out).mono ?_); rintro e wa ⟨Aa, na, ca, rfl, hla, hrowa, hba⟩; obtain rfl : na = n := by rw [← hla]; exact HL.out
             have HB1 := Lib.hid (BD.out.trans (hba.mono (by simp))); have x10 := (HB1.out.cell (p := ⟨w.heap.size, 0, none⟩) l0).trans q0; have x11 := (HB1.out.cell (p := ⟨w.heap.size, 1, none⟩) l0).trans q1; have x12 := (HB1.out.cell (p := ⟨w.heap.size + 1, 0, none⟩) l1).trans r0; have x13 := (HB1.out.cell (p := ⟨w.heap.size + 1, 1, none⟩) l1).trans r1; have s1 := HB1.out.size; have g11 : w.heap.size < wa.heap.size := (by omega); have g12 : w.heap.size + 1 < wa.heap.size := (by omega); have h11 : w.heap.size ≠ wa.heap.size := (by omega); have h12 : w.heap.size + 1 ≠ wa.heap.size := (by omega); have h13 : wa.heap.size ≠ w.heap.size := (by omega); have h14 : wa.heap.size ≠ w.heap.size + 1 := (by omega); have FA := Lib.hid (hrowa.nods'.2.mono (Nat.zero_le _) (Nat.le_refl _)); clear hrowa hba hla)
          | (go_at_call 13; (with_reducible refine (toUpdate_any _ _ (wa.alloc (.cells #[.int .i64 0, .slice none 0 0] 25))).mono ?_); rintro e wb ⟨rfl, hbb⟩
             have HB2 := Lib.hid ((HB1.out.alloc HB1.out.size (.cells #[.int .i64 0, .slice none 0 0] 25)).trans (hbb.mono (by simp; omega))); have x20 := (HB2.out.cell (p := ⟨w.heap.size, 0, none⟩) l0).trans q0; have x21 := (HB2.out.cell (p := ⟨w.heap.size, 1, none⟩) l0).trans q1; have x22 := (HB2.out.cell (p := ⟨w.heap.size + 1, 0, none⟩) l1).trans r0; have x23 := (HB2.out.cell (p := ⟨w.heap.size + 1, 1, none⟩) l1).trans r1; have s2 := HB2.out.size; have g21 : w.heap.size < wb.heap.size := (by omega); have g22 : w.heap.size + 1 < wb.heap.size := (by omega); have h21 : w.heap.size ≠ wb.heap.size := (by omega); have h22 : w.heap.size + 1 ≠ wb.heap.size := (by omega); have h23 : wb.heap.size ≠ w.heap.size := (by omega); have h24 : wb.heap.size ≠ w.heap.size + 1 := (by omega); have NB := Lib.hid ((Blk.new wa #[.int .i64 0, .slice none 0 0] 25).below hbb); have n0 := NB.out.cell (i := 0) (v := .int .i64 0) rfl; have n1 := NB.out.cell (i := 1) (v := .slice none 0 0) rfl; have z0 := NB.out.free 0; have z1 := NB.out.free 1; (try (have NL2 := NB.out.lt)); have FB := Lib.hid ((FA.out.box (.cells #[.int .i64 0, .slice none 0 0] 25)).on hbb); clear hbb)
          | (go_at_call 13; (with_reducible refine (toUpdate_any _ _ wa).mono ?_); rintro e wb ⟨rfl, hbb⟩
             have HB2 := Lib.hid (HB1.out.trans (hbb.mono HB1.out.size)); have x20 := (HB2.out.cell (p := ⟨w.heap.size, 0, none⟩) l0).trans q0; have x21 := (HB2.out.cell (p := ⟨w.heap.size, 1, none⟩) l0).trans q1; have x22 := (HB2.out.cell (p := ⟨w.heap.size + 1, 0, none⟩) l1).trans r0; have x23 := (HB2.out.cell (p := ⟨w.heap.size + 1, 1, none⟩) l1).trans r1; have s2 := HB2.out.size; have g21 : w.heap.size < wb.heap.size := (by omega); have g22 : w.heap.size + 1 < wb.heap.size := (by omega); have h21 : w.heap.size ≠ wb.heap.size := (by omega); have h22 : w.heap.size + 1 ≠ wb.heap.size := (by omega); have h23 : wb.heap.size ≠ w.heap.size := (by omega); have h24 : wb.heap.size ≠ w.heap.size + 1 := (by omega); (try (have nb2 := NB.out.below hbb; clear NB n0 n1 z0 z1; have NB := Lib.hid nb2; have n0 := NB.out.cell (i := 0) (v := .int .i64 0) rfl; have n1 := NB.out.cell (i := 1) (v := .slice none 0 0) rfl; have z0 := NB.out.free 0; have z1 := NB.out.free 1; clear nb2)); (try (have NL2 := NB.out.lt)); have FB := Lib.hid (FA.out.on hbb); clear hbb)
          | (go_at_call 7; (with_reducible refine (SP.out (wb.alloc (.cells #[.int .i64 0, .slice none 0 0] 25)) _ _ _ (FB.out.box (.cells #[.int .i64 0, .slice none 0 0] 25)) hn HG.out).mono ?_); rintro e wc ⟨Ac, nc, cc, rfl, hlc, hrowc, hbc⟩; obtain rfl : nc = nn := by rw [← hlc]; exact NN.out
             have HB3 := Lib.hid ((HB2.out.alloc HB2.out.size (.cells #[.int .i64 0, .slice none 0 0] 25)).trans (hbc.mono (by simp; omega))); have x30 := (HB3.out.cell (p := ⟨w.heap.size, 0, none⟩) l0).trans q0; have x31 := (HB3.out.cell (p := ⟨w.heap.size, 1, none⟩) l0).trans q1; have x32 := (HB3.out.cell (p := ⟨w.heap.size + 1, 0, none⟩) l1).trans r0; have x33 := (HB3.out.cell (p := ⟨w.heap.size + 1, 1, none⟩) l1).trans r1; have s3 := HB3.out.size; have g31 : w.heap.size < wc.heap.size := (by omega); have g32 : w.heap.size + 1 < wc.heap.size := (by omega); have h31 : w.heap.size ≠ wc.heap.size := (by omega); have h32 : w.heap.size + 1 ≠ wc.heap.size := (by omega); have h33 : wc.heap.size ≠ w.heap.size := (by omega); have h34 : wc.heap.size ≠ w.heap.size + 1 := (by omega); have NB := Lib.hid ((Blk.new wb #[.int .i64 0, .slice none 0 0] 25).below hbc); have n0 := NB.out.cell (i := 0) (v := .int .i64 0) rfl; have n1 := NB.out.cell (i := 1) (v := .slice none 0 0) rfl; have z0 := NB.out.free 0; have z1 := NB.out.free 1; have RC := Lib.hid hrowc; have LC := Lib.hid (show wb.heap.size ≤ (wb.alloc (.cells #[.int .i64 0, .slice none 0 0] 25)).heap.size by simp); have HBC := Lib.hid hbc.size; clear hrowc hbc hlc)
          | (go_at_call 7; (with_reducible refine (SP.out wb _ _ _ FB.out hn HG.out).mono ?_); rintro e wc ⟨Ac, nc, cc, rfl, hlc, hrowc, hbc⟩; obtain rfl : nc = nn := by rw [← hlc]; exact NN.out
             have HB3 := Lib.hid (HB2.out.trans (hbc.mono HB2.out.size)); have x30 := (HB3.out.cell (p := ⟨w.heap.size, 0, none⟩) l0).trans q0; have x31 := (HB3.out.cell (p := ⟨w.heap.size, 1, none⟩) l0).trans q1; have x32 := (HB3.out.cell (p := ⟨w.heap.size + 1, 0, none⟩) l1).trans r0; have x33 := (HB3.out.cell (p := ⟨w.heap.size + 1, 1, none⟩) l1).trans r1; have s3 := HB3.out.size; have g31 : w.heap.size < wc.heap.size := (by omega); have g32 : w.heap.size + 1 < wc.heap.size := (by omega); have h31 : w.heap.size ≠ wc.heap.size := (by omega); have h32 : w.heap.size + 1 ≠ wc.heap.size := (by omega); have h33 : wc.heap.size ≠ w.heap.size := (by omega); have h34 : wc.heap.size ≠ w.heap.size + 1 := (by omega); (try (have nb2 := NB.out.below hbc; clear NB n0 n1 z0 z1; have NB := Lib.hid nb2; have n0 := NB.out.cell (i := 0) (v := .int .i64 0) rfl; have n1 := NB.out.cell (i := 1) (v := .slice none 0 0) rfl; have z0 := NB.out.free 0; have z1 := NB.out.free 1; clear nb2)); have RC := Lib.hid hrowc; have LC := Lib.hid (show wb.heap.size ≤ wb.heap.size by simp); have HBC := Lib.hid hbc.size; clear hrowc hbc hlc)))
    all_goals
      go_wp2_with fail
      go_meet
      case rel =>
        have hrc := RC.out
        have lc := LC.out
        have hbcs := HBC.out
        try simp only [World.size_alloc] at hrc lc hbcs
        first
          | exact ⟨_, _, _, Ac, cc, rfl, rfl, CQ.fused HB3.out hrc (by omega)⟩
          | exact ⟨_, _, _, Ac, cc, rfl, rfl, CQ.stored HB3.out hrc NB.out (by first | exact Nat.le_refl _ | omega) (by omega)⟩
  case rest =>
    obtain ⟨gw, wl, wh, A3, c3, rfl, rfl, CW, bx⟩ := hcut
    obtain ⟨w3, rfl⟩ : ∃ w3 : World, w3 = wc := ⟨_, rfl⟩
    have CW := Lib.hid CW
    have lw1 : w.heap.size + 1 < w1.heap.size := UU.out.lt
    have s3 := bx.size
    clear q0 q1 r0 r1 FW
    have CA_ := Lib.hid (CA.out.below bx)
    have UU_ := Lib.hid (UU.out.below bx)
    have BT_ := Lib.hid (BT.out.trans (bx.mono BT.out.size))
    clear CA UU BT
    have CA := Lib.hid CA_.out
    clear CA_
    have UU := Lib.hid UU_.out
    clear UU_
    have BT := Lib.hid BT_.out
    clear BT_
    clear bx
    have q0 := CA.out.c0
    have q1 := CA.out.c1
    go_wp2_with fail
    refine (toChain_any _ _ _ _ l _ CA.out.wide hn HG.out).mono ?_
    rintro e w4 ⟨A4, n4, c4, rfl, hl4, hrow4, hb4⟩
    obtain rfl : n4 = n := by rw [← hl4]; exact HL.out
    have CX := Lib.hid (CR.new hrow4 view)
    clear q0 q1
    have CA_ := Lib.hid (CA.out.below hb4)
    have UU_ := Lib.hid (UU.out.below hb4)
    have BT_ := Lib.hid (BT.out.trans (hb4.mono BT.out.size))
    have CW_ := Lib.hid (CW.out.below hb4)
    clear CA UU BT CW
    have CA := Lib.hid CA_.out
    clear CA_
    have UU := Lib.hid UU_.out
    clear UU_
    have BT := Lib.hid BT_.out
    clear BT_
    have CW := Lib.hid CW_.out
    clear CW_
    have CA_ := Lib.hid (CA.out.alloc (.cells #[.int .i64 view, .slice A4 n4 c4] 25))
    have UU_ := Lib.hid (UU.out.alloc (.cells #[.int .i64 view, .slice A4 n4 c4] 25))
    have BT_ := Lib.hid (BT.out.alloc BT.out.size (.cells #[.int .i64 view, .slice A4 n4 c4] 25))
    have CW_ := Lib.hid (CW.out.alloc (.cells #[.int .i64 view, .slice A4 n4 c4] 25))
    clear CA UU BT CW
    have CA := Lib.hid CA_.out
    clear CA_
    have UU := Lib.hid UU_.out
    clear UU_
    have BT := Lib.hid BT_.out
    clear BT_
    have CW := Lib.hid CW_.out
    clear CW_
    have s4 := hb4.size
    clear hrow4 hb4 hl4
    obtain ⟨wx, hwx⟩ : ∃ wx : World, w4.alloc (.cells #[.int .i64 view, .slice A4 n4 c4] 25) = wx := ⟨_, rfl⟩
    have sx : w4.heap.size < wx.heap.size := by rw [← hwx]; simp
    rw [hwx] at CX CA UU BT CW
    have FW := Lib.hid CX.out.ci.wide
    have q0 := CX.out.ci.c0
    have q1 := CX.out.ci.c1
    have r0 := UU.out.cell (i := 0) (v := .int .i64 u.key) rfl
    have r1 := UU.out.cell (i := 1) (v := .int .i64 u.value) rfl
    go_upto_region 7 with fail
    clear hwx
    go_cut [9, 10] from 31 to 38 (fun sa sb wq => ∃ (gn rlo rhi : Nat) (A3 : Option Addr) (c3 : Nat), sa = .pointer (some ⟨gn, 0, none⟩) ∧ sb = .bool t1 ∧ CQ wq wx.heap.size wq.heap.size rlo rhi gn v1 A3 nn c3 l1 ∧ Below wx.heap.size wx wq)
    case first =>
      have BD := Lib.hid (show Below wx.heap.size wx wx.drew from (Below.refl _ _).drew)
      have BA := Lib.hid (show Below wx.heap.size wx (wx.alloc (.cells #[.int .i64 0, .slice none 0 0] 25)).drew from ((Below.refl _ _).alloc (Nat.le_refl _) _).drew)
      have NA := Lib.hid (Blk.new wx #[.int .i64 0, .slice none 0 0] 25).drew
      have FD := Lib.hid (show Nods wx.drew 0 wx.drew.heap.size A4 n4 c4 l from FW.out.on BD.out)
      have FE := Lib.hid (show Nods (wx.alloc (.cells #[.int .i64 0, .slice none 0 0] 25)).drew 0 (wx.alloc (.cells #[.int .i64 0, .slice none 0 0] 25)).drew.heap.size A4 n4 c4 l from FW.out.on BA.out)
      have l0 : w4.heap.size < wx.heap.size := CX.out.ci.lt
      have l1 : w.heap.size + 1 < wx.heap.size := UU.out.lt
      have e1 : w4.heap.size ≠ wx.heap.size := by omega
      have e2 : w.heap.size + 1 ≠ wx.heap.size := by omega
      have e3 : wx.heap.size ≠ w4.heap.size := by omega
      have e4 : wx.heap.size ≠ w.heap.size + 1 := by omega
      go_region_held3 (fun V => V.cell? ⟨w4.heap.size, 0, none⟩ = some (.int .i64 view) ∧ V.cell? ⟨w4.heap.size, 1, none⟩ = some (.slice A4 n4 c4) ∧ V.cell? ⟨w.heap.size + 1, 0, none⟩ = some (.int .i64 u.key) ∧ V.cell? ⟨w.heap.size + 1, 1, none⟩ = some (.int .i64 u.value)) (go_keep) ((first
            | (go_at_call 13; (with_reducible refine (toUpdate_any _ _ (wx.alloc (.cells #[.int .i64 0, .slice none 0 0] 25)).drew).mono ?_); rintro e wb ⟨rfl, hbb⟩
               have HB2 := Lib.hid (BA.out.trans (hbb.mono (by simp))); have x20 := (HB2.out.cell (p := ⟨w4.heap.size, 0, none⟩) l0).trans q0; have x21 := (HB2.out.cell (p := ⟨w4.heap.size, 1, none⟩) l0).trans q1; have x22 := (HB2.out.cell (p := ⟨w.heap.size + 1, 0, none⟩) l1).trans r0; have x23 := (HB2.out.cell (p := ⟨w.heap.size + 1, 1, none⟩) l1).trans r1; have s2 := HB2.out.size; have g21 : w4.heap.size < wb.heap.size := (by omega); have g22 : w.heap.size + 1 < wb.heap.size := (by omega); have h21 : w4.heap.size ≠ wb.heap.size := (by omega); have h22 : w.heap.size + 1 ≠ wb.heap.size := (by omega); have h23 : wb.heap.size ≠ w4.heap.size := (by omega); have h24 : wb.heap.size ≠ w.heap.size + 1 := (by omega); have NB := Lib.hid (NA.out.below hbb); have n0 := NB.out.cell (i := 0) (v := .int .i64 0) rfl; have n1 := NB.out.cell (i := 1) (v := .slice none 0 0) rfl; have z0 := NB.out.free 0; have z1 := NB.out.free 1; (try (have NL2 := NB.out.lt)); have FB := Lib.hid (FE.out.on hbb); clear hbb)
            | (go_at_call 13; (with_reducible refine (toUpdate_any _ _ wx.drew).mono ?_); rintro e wb ⟨rfl, hbb⟩
               have HB2 := Lib.hid (BD.out.trans (hbb.mono (by simp))); have x20 := (HB2.out.cell (p := ⟨w4.heap.size, 0, none⟩) l0).trans q0; have x21 := (HB2.out.cell (p := ⟨w4.heap.size, 1, none⟩) l0).trans q1; have x22 := (HB2.out.cell (p := ⟨w.heap.size + 1, 0, none⟩) l1).trans r0; have x23 := (HB2.out.cell (p := ⟨w.heap.size + 1, 1, none⟩) l1).trans r1; have s2 := HB2.out.size; have g21 : w4.heap.size < wb.heap.size := (by omega); have g22 : w.heap.size + 1 < wb.heap.size := (by omega); have h21 : w4.heap.size ≠ wb.heap.size := (by omega); have h22 : w.heap.size + 1 ≠ wb.heap.size := (by omega); have h23 : wb.heap.size ≠ w4.heap.size := (by omega); have h24 : wb.heap.size ≠ w.heap.size + 1 := (by omega); (try (have NL2 := NB.out.lt)); have FB := Lib.hid (FD.out.on hbb); clear hbb)
            | (go_at_call 6; (with_reducible refine (IM.out (wb.alloc (.cells #[.int .i64 0, .slice none 0 0] 25)) ((HE.out.below (BT.out.trans (HB2.out.mono BT.out.size))).box _) _ _ _ (FB.out.box (.cells #[.int .i64 0, .slice none 0 0] 25)) hn HG.out).mono ?_); rintro e wc ⟨Ac, nc, cc, rfl, hlc, hrowc, hbc⟩; obtain rfl : nc = nn := by rw [← hlc]; exact NN.out
               have HB3 := Lib.hid ((HB2.out.alloc HB2.out.size (.cells #[.int .i64 0, .slice none 0 0] 25)).trans (hbc.mono (by simp; omega))); have x30 := (HB3.out.cell (p := ⟨w4.heap.size, 0, none⟩) l0).trans q0; have x31 := (HB3.out.cell (p := ⟨w4.heap.size, 1, none⟩) l0).trans q1; have x32 := (HB3.out.cell (p := ⟨w.heap.size + 1, 0, none⟩) l1).trans r0; have x33 := (HB3.out.cell (p := ⟨w.heap.size + 1, 1, none⟩) l1).trans r1; have s3 := HB3.out.size; have g31 : w4.heap.size < wc.heap.size := (by omega); have g32 : w.heap.size + 1 < wc.heap.size := (by omega); have h31 : w4.heap.size ≠ wc.heap.size := (by omega); have h32 : w.heap.size + 1 ≠ wc.heap.size := (by omega); have h33 : wc.heap.size ≠ w4.heap.size := (by omega); have h34 : wc.heap.size ≠ w.heap.size + 1 := (by omega); have NB := Lib.hid ((Blk.new wb #[.int .i64 0, .slice none 0 0] 25).below hbc); have n0 := NB.out.cell (i := 0) (v := .int .i64 0) rfl; have n1 := NB.out.cell (i := 1) (v := .slice none 0 0) rfl; have z0 := NB.out.free 0; have z1 := NB.out.free 1; have RC := Lib.hid hrowc; have LC := Lib.hid (show wb.heap.size ≤ (wb.alloc (.cells #[.int .i64 0, .slice none 0 0] 25)).heap.size by simp); have HBC := Lib.hid hbc.size; clear hrowc hbc hlc)
            | (go_at_call 6; (with_reducible refine (IM.out wb (HE.out.below (BT.out.trans (HB2.out.mono BT.out.size))) _ _ _ FB.out hn HG.out).mono ?_); rintro e wc ⟨Ac, nc, cc, rfl, hlc, hrowc, hbc⟩; obtain rfl : nc = nn := by rw [← hlc]; exact NN.out
               have HB3 := Lib.hid (HB2.out.trans (hbc.mono HB2.out.size)); have x30 := (HB3.out.cell (p := ⟨w4.heap.size, 0, none⟩) l0).trans q0; have x31 := (HB3.out.cell (p := ⟨w4.heap.size, 1, none⟩) l0).trans q1; have x32 := (HB3.out.cell (p := ⟨w.heap.size + 1, 0, none⟩) l1).trans r0; have x33 := (HB3.out.cell (p := ⟨w.heap.size + 1, 1, none⟩) l1).trans r1; have s3 := HB3.out.size; have g31 : w4.heap.size < wc.heap.size := (by omega); have g32 : w.heap.size + 1 < wc.heap.size := (by omega); have h31 : w4.heap.size ≠ wc.heap.size := (by omega); have h32 : w.heap.size + 1 ≠ wc.heap.size := (by omega); have h33 : wc.heap.size ≠ w4.heap.size := (by omega); have h34 : wc.heap.size ≠ w.heap.size + 1 := (by omega); (try (have nb2 := NB.out.below hbc; clear NB n0 n1 z0 z1; have NB := Lib.hid nb2; have n0 := NB.out.cell (i := 0) (v := .int .i64 0) rfl; have n1 := NB.out.cell (i := 1) (v := .slice none 0 0) rfl; have z0 := NB.out.free 0; have z1 := NB.out.free 1; clear nb2)); have RC := Lib.hid hrowc; have LC := Lib.hid (show wb.heap.size ≤ wb.heap.size by simp); have HBC := Lib.hid hbc.size; clear hrowc hbc hlc)))
      all_goals
        go_wp2_with fail
        go_meet
        case rel =>
          have hrc := RC.out
          have lc := LC.out
          have hbcs := HBC.out
          try simp only [World.size_alloc] at hrc lc hbcs
          first
            | exact ⟨_, _, _, Ac, cc, rfl, rfl, CQ.fused HB3.out hrc (by omega)⟩
            | exact ⟨_, _, _, Ac, cc, rfl, rfl, CQ.stored HB3.out hrc NB.out (by first | exact Nat.le_refl _ | omega) (by omega)⟩
    case rest =>
      obtain ⟨gg, gl, gh, A5, c5, rfl, rfl, CG, bx⟩ := hcut
      obtain ⟨w5, rfl⟩ : ∃ w5 : World, w5 = wc := ⟨_, rfl⟩
      have CG := Lib.hid CG
      have lgx : wx.heap.size ≤ gl := CG.out.b1.1
      have s5 := bx.size
      clear q0 q1 r0 r1 FW
      have CA_ := Lib.hid (CA.out.below bx)
      have UU_ := Lib.hid (UU.out.below bx)
      have BT_ := Lib.hid (BT.out.trans (bx.mono BT.out.size))
      have CW_ := Lib.hid (CW.out.below bx)
      have CX_ := Lib.hid (CX.out.below bx)
      clear CA UU BT CW CX
      have CA := Lib.hid CA_.out
      clear CA_
      have UU := Lib.hid UU_.out
      clear UU_
      have BT := Lib.hid BT_.out
      clear BT_
      have CW := Lib.hid CW_.out
      clear CW_
      have CX := Lib.hid CX_.out
      clear CX_
      clear bx
      have q0 := CG.out.c0
      have q1 := CG.out.c1
      have r0 := CW.out.c0
      have r1 := CW.out.c1
      have hn5 : nn ≤ 1048576 := by omega
      go_wp2_with fail
      refine (eqChain_same v1 _ _ _ _ _ l1 _ CG.out.wide CW.out.wide hn5 HG1.out).mono ?_
      rintro e w6 ⟨rfl, hb6⟩
      clear q0 q1 r0 r1
      have CA_ := Lib.hid (CA.out.below hb6)
      have UU_ := Lib.hid (UU.out.below hb6)
      have BT_ := Lib.hid (BT.out.trans (hb6.mono BT.out.size))
      have CW_ := Lib.hid (CW.out.below hb6)
      have CX_ := Lib.hid (CX.out.below hb6)
      have CG_ := Lib.hid (CG.out.below hb6)
      clear CA UU BT CW CX CG
      have CA := Lib.hid CA_.out
      clear CA_
      have UU := Lib.hid UU_.out
      clear UU_
      have BT := Lib.hid BT_.out
      clear BT_
      have CW := Lib.hid CW_.out
      clear CW_
      have CX := Lib.hid CX_.out
      clear CX_
      have CG := Lib.hid CG_.out
      clear CG_
      have CA_ := Lib.hid (CA.out.drew)
      have CW_ := Lib.hid (CW.out.drew)
      have CX_ := Lib.hid (CX.out.drew)
      have CG_ := Lib.hid (CG.out.drew)
      have BT_ := Lib.hid (BT.out.drew)
      clear CA CW CX CG BT
      have CA := Lib.hid CA_.out
      clear CA_
      have CW := Lib.hid CW_.out
      clear CW_
      have CX := Lib.hid CX_.out
      clear CX_
      have CG := Lib.hid CG_.out
      clear CG_
      have BT := Lib.hid BT_.out
      clear BT_
      have UUd := Lib.hid (show Blk w6.drew (w.heap.size + 1) #[.int .i64 u.key, .int .i64 u.value] 43 from UU.out)
      clear UU
      have UU := Lib.hid UUd.out
      clear UUd
      have s6 := hb6.size
      clear hb6
      have q0 : w6.cell? ⟨w.heap.size, 0, none⟩ = _ := CA.out.c0
      have q1 : w6.cell? ⟨w.heap.size, 1, none⟩ = _ := CA.out.c1
      have r0 : w6.cell? ⟨w4.heap.size, 0, none⟩ = _ := CX.out.ci.c0
      have r1 : w6.cell? ⟨w4.heap.size, 1, none⟩ = _ := CX.out.ci.c1
      go_wp2_with fail
      go_region_held3 (fun V => V.cell? ⟨w4.heap.size, 0, none⟩ = some (.int .i64 view) ∧ V.cell? ⟨w4.heap.size, 1, none⟩ = some (.slice A4 n4 c4) ∧ V.cell? ⟨w.heap.size, 0, none⟩ = some (.int .i64 view) ∧ V.cell? ⟨w.heap.size, 1, none⟩ = some (.slice A n4 c)) (go_keep)
        ((first
          | (go_at_call 12; (with_reducible refine (toChain_any _ _ _ _ l _ CA.out.wide hn HG.out).mono ?_); rintro e w7 ⟨A7, n7, c7, rfl, hl7, hrow7, hb7⟩; obtain rfl : n7 = n4 := by rw [← hl7]; exact HL.out
             have F7 := Lib.hid (hrow7.nods'.2.mono (Nat.zero_le _) (Nat.le_refl _)); have CG7 := Lib.hid (CG.out.below hb7); have CW7 := Lib.hid (CW.out.below hb7); have UU7 := Lib.hid (UU.out.below hb7); have B7 := Lib.hid (BT.out.trans (hb7.mono BT.out.size)); have ca := CA.out.below hb7; have cx := CX.out.below hb7; have t0 := ca.c0; have u0 := ca.c1; have t2 := cx.ci.c0; have u2 := cx.ci.c1; have CA7 := Lib.hid ca; have CX7 := Lib.hid cx; have s7 := hb7.size; clear hrow7 hb7 hl7 ca cx)
          | (go_at_call 14; (with_reducible refine (eqChain_same _ _ _ _ _ _ l _ CX7.out.ci.wide F7.out hn HG.out).mono ?_); rintro e w8 ⟨rfl, hb8⟩; have CG8 := Lib.hid (CG7.out.below hb8); have CW8 := Lib.hid (CW7.out.below hb8); have UU8 := Lib.hid (UU7.out.below hb8); have B8 := Lib.hid (B7.out.trans (hb8.mono B7.out.size)); have ca := CA7.out.below hb8; have cx := CX7.out.below hb8; have t0 := ca.c0; have u0 := ca.c1; have t2 := cx.ci.c0; have u2 := cx.ci.c1; have CA8 := Lib.hid ca; have CX8 := Lib.hid cx; have s8 := hb8.size; clear hb8 ca cx)))
      clear CA7 CX7 CG7 CW7 UU7 CA CX CG CW UU BT F7 q0 q1 r0 r1
      have q0 := CX8.out.ci.c0
      have q1 := CX8.out.ci.c1
      obtain ⟨kv, hkv⟩ : ∃ v, mk 1 l n7 = v := ⟨_, rfl⟩
      have KV := Lib.hid hkv
      have kv1 : 1 ≤ kv := by rw [← hkv]; exact (MB.out n7).1
      have kv0 : ¬ kv < 0 := by omega
      clear hkv
      go_wp2_with fail
      refine (markChain_any _ _ view _ _ _ l 1 _ CX8.out.row CX8.out.his' hn HG.out (by omega) (by omega)).mono ?_
      rintro e w9 ⟨rfl, hr9, hk9⟩
      rw [KV.out]
      have CG := Lib.hid (CG8.out.kept hk9 (.inr (Nat.le_of_lt sx)))
      have CW := Lib.hid (CW8.out.kept hk9 (.inl (Nat.le_refl _)))
      have CA := Lib.hid (CA8.out.kept hk9 (.inl (by omega)))
      have UU := Lib.hid (show Blk w9 (w.heap.size + 1) #[.int .i64 u.key, .int .i64 u.value] 43 from (hk9.2.2.2.2 _ UU8.out.lt (by omega)).trans UU8.out)
      have BT := Lib.hid (B8.out.trans (hk9.below (by omega) B8.out.size))
      clear hr9 hk9 q0 q1 CX8 CG8 CW8 CA8 UU8
      have q0 := CG.out.c0
      have q1 := CG.out.c1
      have r0 := CW.out.c0
      have r1 := CW.out.c1
      go_wp2_with fail
      refine (eqChain_same v1 _ _ _ _ _ l1 _ CG.out.wide CW.out.wide hn5 HG1.out).mono ?_
      rintro e w10 ⟨rfl, hb10⟩
      clear q0 q1 r0 r1
      have CA_ := Lib.hid (CA.out.below hb10)
      have UU_ := Lib.hid (UU.out.below hb10)
      have BT_ := Lib.hid (BT.out.trans (hb10.mono BT.out.size))
      have CW_ := Lib.hid (CW.out.below hb10)
      have CG_ := Lib.hid (CG.out.below hb10)
      clear CA UU BT CW CG
      have CA := Lib.hid CA_.out
      clear CA_
      have UU := Lib.hid UU_.out
      clear UU_
      have BT := Lib.hid BT_.out
      clear BT_
      have CW := Lib.hid CW_.out
      clear CW_
      have CG := Lib.hid CG_.out
      clear CG_
      clear hb10
      have q0 := CG.out.c0
      have q1 := CG.out.c1
      obtain ⟨mv, hmv⟩ : ∃ v, mk 1 l1 nn = v := ⟨_, rfl⟩
      have MV := Lib.hid hmv
      have mv1 : 1 ≤ mv := by rw [← hmv]; exact (MB1.out nn).1
      have mv0 : ¬ mv < 0 := by omega
      have mvv : (mv != mv) = false := by simp
      clear hmv
      go_wp2_with fail
      refine (markChain_any _ _ v1 _ _ _ l1 1 _ CG.out.row CG.out.his hn5 HG1.out (by omega) (by omega)).mono ?_
      rintro e w11 ⟨rfl, hr11, hk11⟩
      rw [MV.out]
      have CG_ := Lib.hid (CG.out.mark hr11 hk11)
      have CW_ := Lib.hid (CW.out.kept hk11 (.inl (by omega)))
      have CA_ := Lib.hid (CA.out.kept hk11 (.inl (by omega)))
      have UU_ := Lib.hid (show Blk w11 (w.heap.size + 1) #[.int .i64 u.key, .int .i64 u.value] 43 from (hk11.2.2.2.2 _ UU.out.lt (by omega)).trans UU.out)
      have BT_ := Lib.hid (BT.out.trans (hk11.below (by omega) BT.out.size))
      clear CG CW CA UU BT hr11 hk11 q0 q1
      have CG := Lib.hid CG_.out
      have CW := Lib.hid CW_.out
      have CA := Lib.hid CA_.out
      have UU := Lib.hid UU_.out
      have BT := Lib.hid BT_.out
      clear CG_ CW_ CA_ UU_ BT_
      have q0 := CG.out.c0
      have q1 := CG.out.c1
      go_wp2_with fail
      refine (heldChain_marks v1 _ _ _ l1 1 _ CG.out.wide hn5 HG1.out (by omega) (by omega)).mono ?_
      rintro e w12 ⟨rfl, hb12⟩
      rw [MV.out]
      clear q0 q1
      have CA_ := Lib.hid (CA.out.below hb12)
      have UU_ := Lib.hid (UU.out.below hb12)
      have BT_ := Lib.hid (BT.out.trans (hb12.mono BT.out.size))
      have CW_ := Lib.hid (CW.out.below hb12)
      have CG_ := Lib.hid (CG.out.below hb12)
      clear CA UU BT CW CG
      have CA := Lib.hid CA_.out
      clear CA_
      have UU := Lib.hid UU_.out
      clear UU_
      have BT := Lib.hid BT_.out
      clear BT_
      have CW := Lib.hid CW_.out
      clear CW_
      have CG := Lib.hid CG_.out
      clear CG_
      clear hb12
      have FW := Lib.hid CA.out.wide
      have q0 := CA.out.c0
      have q1 := CA.out.c1
      have r0 := UU.out.cell (i := 0) (v := .int .i64 u.key) rfl
      have r1 := UU.out.cell (i := 1) (v := .int .i64 u.value) rfl
      go_upto_region 24 with fail
      go_cut [14, 15] from 79 to 87 (fun sa sb wq => ∃ (gn rlo rhi : Nat) (A3 : Option Addr) (c3 : Nat), sa = .pointer (some ⟨gn, 0, none⟩) ∧ sb = .bool t1 ∧ CQ wq w12.heap.size wq.heap.size rlo rhi gn v1 A3 nn c3 l1 ∧ Below w12.heap.size w12 wq)
      case first =>
        have BD := Lib.hid (show Below w12.heap.size w12 w12.drew from (Below.refl _ _).drew)
        have BA := Lib.hid (show Below w12.heap.size w12 (w12.alloc (.cells #[.int .i64 0, .slice none 0 0] 25)).drew from ((Below.refl _ _).alloc (Nat.le_refl _) _).drew)
        have NA := Lib.hid (Blk.new w12 #[.int .i64 0, .slice none 0 0] 25).drew
        have FD := Lib.hid (show Nods w12.drew 0 w12.drew.heap.size A n7 c l from FW.out.on BD.out)
        have FE := Lib.hid (show Nods (w12.alloc (.cells #[.int .i64 0, .slice none 0 0] 25)).drew 0 (w12.alloc (.cells #[.int .i64 0, .slice none 0 0] 25)).drew.heap.size A n7 c l from FW.out.on BA.out)
        have l0 : w.heap.size < w12.heap.size := CA.out.lt
        have l1 : w.heap.size + 1 < w12.heap.size := UU.out.lt
        have e1 : w.heap.size ≠ w12.heap.size := by omega
        have e2 : w.heap.size + 1 ≠ w12.heap.size := by omega
        have e3 : w12.heap.size ≠ w.heap.size := by omega
        have e4 : w12.heap.size ≠ w.heap.size + 1 := by omega
        go_region_held3 (fun V => V.cell? ⟨w.heap.size, 0, none⟩ = some (.int .i64 view) ∧ V.cell? ⟨w.heap.size, 1, none⟩ = some (.slice A n7 c) ∧ V.cell? ⟨w.heap.size + 1, 0, none⟩ = some (.int .i64 u.key) ∧ V.cell? ⟨w.heap.size + 1, 1, none⟩ = some (.int .i64 u.value)) (go_keep) ((first
              | (go_at_call 12; (with_reducible refine (toChain_any _ _ _ _ l _ FE.out hn HG.out).mono ?_); rintro e wa ⟨Aa, na, ca, rfl, hla, hrowa, hba⟩; obtain rfl : na = n7 := by rw [← hla]; exact HL.out
                 have HB1 := Lib.hid (BA.out.trans (hba.mono (by simp))); have x10 := (HB1.out.cell (p := ⟨w.heap.size, 0, none⟩) l0).trans q0; have x11 := (HB1.out.cell (p := ⟨w.heap.size, 1, none⟩) l0).trans q1; have x12 := (HB1.out.cell (p := ⟨w.heap.size + 1, 0, none⟩) l1).trans r0; have x13 := (HB1.out.cell (p := ⟨w.heap.size + 1, 1, none⟩) l1).trans r1; have s1 := HB1.out.size; have g11 : w.heap.size < wa.heap.size := (by omega); have g12 : w.heap.size + 1 < wa.heap.size := (by omega); have h11 : w.heap.size ≠ wa.heap.size := (by omega); have h12 : w.heap.size + 1 ≠ wa.heap.size := (by omega); have h13 : wa.heap.size ≠ w.heap.size := (by omega); have h14 : wa.heap.size ≠ w.heap.size + 1 := (by omega); have NB := Lib.hid (NA.out.below hba); have n0 := NB.out.cell (i := 0) (v := .int .i64 0) rfl; have n1 := NB.out.cell (i := 1) (v := .slice none 0 0) rfl; have z0 := NB.out.free 0; have z1 := NB.out.free 1; have FA := Lib.hid (hrowa.nods'.2.mono (Nat.zero_le _) (Nat.le_refl _)); clear hrowa hba hla)
              | (go_at_call 12; (with_reducible refine (toChain_any _ _ _ _ l _ FD.out hn HG.out).mono ?_); rintro e wa ⟨Aa, na, ca, rfl, hla, hrowa, hba⟩; obtain rfl : na = n7 := by rw [← hla]; exact HL.out
                 have HB1 := Lib.hid (BD.out.trans (hba.mono (by simp))); have x10 := (HB1.out.cell (p := ⟨w.heap.size, 0, none⟩) l0).trans q0; have x11 := (HB1.out.cell (p := ⟨w.heap.size, 1, none⟩) l0).trans q1; have x12 := (HB1.out.cell (p := ⟨w.heap.size + 1, 0, none⟩) l1).trans r0; have x13 := (HB1.out.cell (p := ⟨w.heap.size + 1, 1, none⟩) l1).trans r1; have s1 := HB1.out.size; have g11 : w.heap.size < wa.heap.size := (by omega); have g12 : w.heap.size + 1 < wa.heap.size := (by omega); have h11 : w.heap.size ≠ wa.heap.size := (by omega); have h12 : w.heap.size + 1 ≠ wa.heap.size := (by omega); have h13 : wa.heap.size ≠ w.heap.size := (by omega); have h14 : wa.heap.size ≠ w.heap.size + 1 := (by omega); have FA := Lib.hid (hrowa.nods'.2.mono (Nat.zero_le _) (Nat.le_refl _)); clear hrowa hba hla)
              | (go_at_call 13; (with_reducible refine (toUpdate_any _ _ (wa.alloc (.cells #[.int .i64 0, .slice none 0 0] 25))).mono ?_); rintro e wb ⟨rfl, hbb⟩
                 have HB2 := Lib.hid ((HB1.out.alloc HB1.out.size (.cells #[.int .i64 0, .slice none 0 0] 25)).trans (hbb.mono (by simp; omega))); have x20 := (HB2.out.cell (p := ⟨w.heap.size, 0, none⟩) l0).trans q0; have x21 := (HB2.out.cell (p := ⟨w.heap.size, 1, none⟩) l0).trans q1; have x22 := (HB2.out.cell (p := ⟨w.heap.size + 1, 0, none⟩) l1).trans r0; have x23 := (HB2.out.cell (p := ⟨w.heap.size + 1, 1, none⟩) l1).trans r1; have s2 := HB2.out.size; have g21 : w.heap.size < wb.heap.size := (by omega); have g22 : w.heap.size + 1 < wb.heap.size := (by omega); have h21 : w.heap.size ≠ wb.heap.size := (by omega); have h22 : w.heap.size + 1 ≠ wb.heap.size := (by omega); have h23 : wb.heap.size ≠ w.heap.size := (by omega); have h24 : wb.heap.size ≠ w.heap.size + 1 := (by omega); have NB := Lib.hid ((Blk.new wa #[.int .i64 0, .slice none 0 0] 25).below hbb); have n0 := NB.out.cell (i := 0) (v := .int .i64 0) rfl; have n1 := NB.out.cell (i := 1) (v := .slice none 0 0) rfl; have z0 := NB.out.free 0; have z1 := NB.out.free 1; (try (have NL2 := NB.out.lt)); have FB := Lib.hid ((FA.out.box (.cells #[.int .i64 0, .slice none 0 0] 25)).on hbb); clear hbb)
              | (go_at_call 13; (with_reducible refine (toUpdate_any _ _ wa).mono ?_); rintro e wb ⟨rfl, hbb⟩
                 have HB2 := Lib.hid (HB1.out.trans (hbb.mono HB1.out.size)); have x20 := (HB2.out.cell (p := ⟨w.heap.size, 0, none⟩) l0).trans q0; have x21 := (HB2.out.cell (p := ⟨w.heap.size, 1, none⟩) l0).trans q1; have x22 := (HB2.out.cell (p := ⟨w.heap.size + 1, 0, none⟩) l1).trans r0; have x23 := (HB2.out.cell (p := ⟨w.heap.size + 1, 1, none⟩) l1).trans r1; have s2 := HB2.out.size; have g21 : w.heap.size < wb.heap.size := (by omega); have g22 : w.heap.size + 1 < wb.heap.size := (by omega); have h21 : w.heap.size ≠ wb.heap.size := (by omega); have h22 : w.heap.size + 1 ≠ wb.heap.size := (by omega); have h23 : wb.heap.size ≠ w.heap.size := (by omega); have h24 : wb.heap.size ≠ w.heap.size + 1 := (by omega); (try (have nb2 := NB.out.below hbb; clear NB n0 n1 z0 z1; have NB := Lib.hid nb2; have n0 := NB.out.cell (i := 0) (v := .int .i64 0) rfl; have n1 := NB.out.cell (i := 1) (v := .slice none 0 0) rfl; have z0 := NB.out.free 0; have z1 := NB.out.free 1; clear nb2)); (try (have NL2 := NB.out.lt)); have FB := Lib.hid (FA.out.on hbb); clear hbb)
              | (go_at_call 6; (with_reducible refine (IM.out (wb.alloc (.cells #[.int .i64 0, .slice none 0 0] 25)) ((HE.out.below (BT.out.trans (HB2.out.mono BT.out.size))).box _) _ _ _ (FB.out.box (.cells #[.int .i64 0, .slice none 0 0] 25)) hn HG.out).mono ?_); rintro e wc ⟨Ac, nc, cc, rfl, hlc, hrowc, hbc⟩; obtain rfl : nc = nn := by rw [← hlc]; exact NN.out
                 have HB3 := Lib.hid ((HB2.out.alloc HB2.out.size (.cells #[.int .i64 0, .slice none 0 0] 25)).trans (hbc.mono (by simp; omega))); have x30 := (HB3.out.cell (p := ⟨w.heap.size, 0, none⟩) l0).trans q0; have x31 := (HB3.out.cell (p := ⟨w.heap.size, 1, none⟩) l0).trans q1; have x32 := (HB3.out.cell (p := ⟨w.heap.size + 1, 0, none⟩) l1).trans r0; have x33 := (HB3.out.cell (p := ⟨w.heap.size + 1, 1, none⟩) l1).trans r1; have s3 := HB3.out.size; have g31 : w.heap.size < wc.heap.size := (by omega); have g32 : w.heap.size + 1 < wc.heap.size := (by omega); have h31 : w.heap.size ≠ wc.heap.size := (by omega); have h32 : w.heap.size + 1 ≠ wc.heap.size := (by omega); have h33 : wc.heap.size ≠ w.heap.size := (by omega); have h34 : wc.heap.size ≠ w.heap.size + 1 := (by omega); have NB := Lib.hid ((Blk.new wb #[.int .i64 0, .slice none 0 0] 25).below hbc); have n0 := NB.out.cell (i := 0) (v := .int .i64 0) rfl; have n1 := NB.out.cell (i := 1) (v := .slice none 0 0) rfl; have z0 := NB.out.free 0; have z1 := NB.out.free 1; have RC := Lib.hid hrowc; have LC := Lib.hid (show wb.heap.size ≤ (wb.alloc (.cells #[.int .i64 0, .slice none 0 0] 25)).heap.size by simp); have HBC := Lib.hid hbc.size; clear hrowc hbc hlc)
              | (go_at_call 6; (with_reducible refine (IM.out wb (HE.out.below (BT.out.trans (HB2.out.mono BT.out.size))) _ _ _ FB.out hn HG.out).mono ?_); rintro e wc ⟨Ac, nc, cc, rfl, hlc, hrowc, hbc⟩; obtain rfl : nc = nn := by rw [← hlc]; exact NN.out
                 have HB3 := Lib.hid (HB2.out.trans (hbc.mono HB2.out.size)); have x30 := (HB3.out.cell (p := ⟨w.heap.size, 0, none⟩) l0).trans q0; have x31 := (HB3.out.cell (p := ⟨w.heap.size, 1, none⟩) l0).trans q1; have x32 := (HB3.out.cell (p := ⟨w.heap.size + 1, 0, none⟩) l1).trans r0; have x33 := (HB3.out.cell (p := ⟨w.heap.size + 1, 1, none⟩) l1).trans r1; have s3 := HB3.out.size; have g31 : w.heap.size < wc.heap.size := (by omega); have g32 : w.heap.size + 1 < wc.heap.size := (by omega); have h31 : w.heap.size ≠ wc.heap.size := (by omega); have h32 : w.heap.size + 1 ≠ wc.heap.size := (by omega); have h33 : wc.heap.size ≠ w.heap.size := (by omega); have h34 : wc.heap.size ≠ w.heap.size + 1 := (by omega); (try (have nb2 := NB.out.below hbc; clear NB n0 n1 z0 z1; have NB := Lib.hid nb2; have n0 := NB.out.cell (i := 0) (v := .int .i64 0) rfl; have n1 := NB.out.cell (i := 1) (v := .slice none 0 0) rfl; have z0 := NB.out.free 0; have z1 := NB.out.free 1; clear nb2)); have RC := Lib.hid hrowc; have LC := Lib.hid (show wb.heap.size ≤ wb.heap.size by simp); have HBC := Lib.hid hbc.size; clear hrowc hbc hlc)))
        all_goals
          go_wp2_with fail
          go_meet
          case rel =>
            have hrc := RC.out
            have lc := LC.out
            have hbcs := HBC.out
            try simp only [World.size_alloc] at hrc lc hbcs
            first
              | exact ⟨_, _, _, Ac, cc, rfl, rfl, CQ.fused HB3.out hrc (by omega)⟩
              | exact ⟨_, _, _, Ac, cc, rfl, rfl, CQ.stored HB3.out hrc NB.out (by first | exact Nat.le_refl _ | omega) (by omega)⟩
      case rest =>
        obtain ⟨gq, ql, qh, A14, c14, rfl, rfl, CH, bx⟩ := hcut
        obtain ⟨w14, rfl⟩ : ∃ w14 : World, w14 = wc := ⟨_, rfl⟩
        have CH := Lib.hid CH
        clear q0 q1 r0 r1 FW
        have CA_ := Lib.hid (CA.out.below bx)
        have UU_ := Lib.hid (UU.out.below bx)
        have BT_ := Lib.hid (BT.out.trans (bx.mono BT.out.size))
        have CW_ := Lib.hid (CW.out.below bx)
        have CG_ := Lib.hid (CG.out.below bx)
        clear CA UU BT CW CG
        have CA := Lib.hid CA_.out
        clear CA_
        have UU := Lib.hid UU_.out
        clear UU_
        have BT := Lib.hid BT_.out
        clear BT_
        have CW := Lib.hid CW_.out
        clear CW_
        have CG := Lib.hid CG_.out
        clear CG_
        clear bx
        have q0 := CH.out.c0
        have q1 := CH.out.c1
        have r0 := CW.out.c0
        have r1 := CW.out.c1
        go_wp2_with fail
        refine (eqChain_same v1 _ _ _ _ _ l1 _ CH.out.wide CW.out.wide hn5 HG1.out).mono ?_
        rintro e w15 ⟨rfl, hb15⟩
        clear q0 q1 r0 r1
        have BT_ := Lib.hid (BT.out.trans (hb15.mono BT.out.size))
        have CG_ := Lib.hid (CG.out.below hb15)
        clear BT CG
        have BT := Lib.hid BT_.out
        clear BT_
        have CG := Lib.hid CG_.out
        clear CG_
        clear hb15
        have q0 := CG.out.c0
        have q1 := CG.out.c1
        go_wp2_with fail
        refine (heldChain_marks v1 _ _ _ l1 1 _ CG.out.wide hn5 HG1.out (by omega) (by omega)).mono ?_
        rintro e w16 ⟨rfl, hb16⟩
        rw [MV.out]
        have BE := Lib.hid (BT.out.trans (hb16.mono BT.out.size))
        clear hb16
        go_wp2_with fail
        go_ret
        exact ⟨rfl, BE.out⟩
theorem exChainPut_walkK (view : Int) (A : Option Addr) (n c : Nat) (l : List Nod) (k v : Int) (a : Addr) (w : World) (he : ErrAt a w) (h : Nods w 0 w.heap.size A n c l) :
    Calls Mo.prog 4 #[.agg #[.int .i64 view, .slice A n c], .agg #[.int .i64 k, .int .i64 v]] w fun e w' => e = .returned (.bool true) ∧ Below w.heap.size w w' := exChainPut_walk a view A n c l ⟨k, v⟩ w he h
end Go.Proofs.YtcomppiglhibkaaGreatDoor
/- Chains as they lie at the model's start. -/
namespace Go.Proofs.YtcomppiglhibkaaGreatDoor
open Go Go.RowKit
theorem brk_nods {W w : World} (hw : w.heap = (brk W).heap) {A : Option Addr} {n c : Nat} {l : List Nod} (h : Nods W 0 W.heap.size A n c l) : Nods w 0 w.heap.size A n c l := by
  obtain ⟨rs, h1, h2, h3⟩ := h
  exact ⟨rs, brk_flat hw h1, h2, fun i r x a b => ⟨(h3 i r x a b).1, (h3 i r x a b).2.1, brk_flat hw (h3 i r x a b).2.2⟩⟩
end Go.Proofs.YtcomppiglhibkaaGreatDoor
/- What a reading of the arguments gives: nodes and chains as plain lists. -/
namespace Go.Proofs.YtcomppiglhibkaaGreatDoor
open Go.ChangeShapes Go.WideShapes Go.ChangeAt Go.RowKit Go.Deep

section
variable {H : Type} {enc : TypeId × Value → H} {P : Program} {W : World}
theorem trod_slice_flat {α : Type} {encE : α → List Value} {sz : Nat} (hsz : 0 < sz) (hs : ∀ x, (encE x).length = sz) {Q : α → Prop} {t e : TypeId} (ht : P.underlying t = some (.slice e)) (hE : P.cellsOf e = sz)
    (hel : ∀ n cs y, DataW.trod enc P W 0 (fun _ => true) true n e cs = some y → ∃ x, cs = encE x ∧ Q x)
    {fuel : Nat} {cs : List Value} {y : DataW H × List MemPlace} (hf : DataW.trod enc P W 0 (fun _ => true) true fuel t cs = some y) :
    ∃ A n c l, cs = [.slice A n c] ∧ Flat encE sz W 0 W.heap.size A n c l ∧ ∀ x ∈ l, Q x := by
  rcases open_slice ht hf with ⟨hcs, _⟩ | ⟨a, len, cap, m, k, D, Pl, hcs, _, hl, hm, hmm, _, hi⟩
  · exact ⟨none, 0, 0, [], hcs, Flat.nil_ _ _ _ _ _, fun _ h => by cases h⟩
  · have hm' : len ≤ m := by rw [hmm]; split <;> omega
    have each : ∀ i : Fin len, ∃ x, Q x ∧ ∀ j u, (encE x)[j]? = some u → W.cell? (a.add (i.1 * sz + j)) = some u := by
      intro i
      obtain ⟨cs', hc, ht'⟩ := hi i.1 (by omega)
      obtain ⟨x, rfl, hq⟩ := hel _ _ _ ht'
      rw [hE] at hc
      obtain ⟨_, _, hat⟩ := World.cells?_some hc
      refine ⟨x, hq, fun j u hu => ?_⟩
      have hj : j < sz := by
        have := (List.getElem?_eq_some_iff.1 hu).1
        rw [hs] at this; exact this
      rw [← Go.Deep.add_add, hat j hj, hu]
    obtain ⟨f, hfs⟩ := Classical.skolem.1 each
    refine ⟨some a, len, cap, List.ofFn f, hcs, ⟨by simp, hl, hm, fun hn => ?_⟩, fun x hx => ?_⟩
    · have hc0 : ∃ u, (encE (f ⟨0, hn⟩))[0]? = some u := by
        have : 0 < (encE (f ⟨0, hn⟩)).length := by rw [hs]; exact hsz
        exact ⟨_, List.getElem?_eq_getElem this⟩
      obtain ⟨u, hu⟩ := hc0
      have h0 := (hfs ⟨0, hn⟩).2 0 u hu
      simp only [Nat.zero_mul, Nat.add_zero, Addr.add, if_true] at h0
      obtain ⟨e1, e2⟩ := plain_addr h0
      refine ⟨a.block, a.off, by rw [← e1], Nat.zero_le _, e2, fun i x hx j u hu => ?_⟩
      have hin : i < len := by have := (List.getElem?_eq_some_iff.1 hx).1; simpa using this
      have hfx : f ⟨i, hin⟩ = x := by
        rw [List.getElem?_ofFn] at hx
        simpa [hin] using hx
      have := (hfs ⟨i, hin⟩).2 j u (by rw [hfx]; exact hu)
      rw [e1] at this
      simp only [Addr.add] at this
      split at this
      · rename_i hz
        have e : a.off + i * sz + j = a.off := by omega
        rw [e]; exact this
      · rw [show a.off + i * sz + j = a.off + (i * sz + j) from by omega]; exact this
    · obtain ⟨i, rfl⟩ := List.mem_ofFn.1 hx
      exact (hfs i).1
end

section
variable {H : Type} {enc : TypeId × Value → H} {W : World}
set_option maxRecDepth 100000 in
/-- a node's three cells, and its log -/
theorem trod_nod {n : Nat} {cs : List Value} {y : DataW H × List MemPlace} (hy : DataW.trod enc Tryz.prog W 0 (fun _ => true) true n 79 cs = some y) :
    ∃ r : RN, cs = r.enc ∧ ∃ l, Flat Upd.enc 2 W 0 W.heap.size r.A r.n r.c l := by
  have hC : Tryz.prog.cellsOf 79 = 3 := by kernel_rfl
  have hI : Tryz.prog.cellsOf 3 = 1 := by kernel_rfl
  have hU : Tryz.prog.cellsOf 77 = 1 := by kernel_rfl
  obtain ⟨xs, m, _, _, hlen, hxs, hf⟩ := DataW.trod_struct Tryz.underlying79 hy
  rw [hC] at hlen
  match cs, hlen with
  | [c0, c1, c2], _ =>
    have f0 : DataW.trod enc Tryz.prog W 0 (fun _ => true) true m 3 (List.take (Tryz.prog.cellsOf 3) (List.drop 0 [c0, c1, c2])) = xs[0]? := hf 0 _ rfl
    have f1 : DataW.trod enc Tryz.prog W 0 (fun _ => true) true m 77 (List.take (Tryz.prog.cellsOf 77) (List.drop 1 [c0, c1, c2])) = xs[1]? := hf 1 _ rfl
    have f2 : DataW.trod enc Tryz.prog W 0 (fun _ => true) true m 3 (List.take (Tryz.prog.cellsOf 3) (List.drop 2 [c0, c1, c2])) = xs[2]? := hf 2 _ rfl
    simp only [hI, hU, List.drop_zero, List.drop_succ_cons, List.take_succ_cons, List.take_zero] at f0 f1 f2
    obtain ⟨y0, e0⟩ : ∃ y, xs[0]? = some y := ⟨xs[0]'(by rw [hxs]; decide), List.getElem?_eq_getElem _⟩
    obtain ⟨y1, e1⟩ : ∃ y, xs[1]? = some y := ⟨xs[1]'(by rw [hxs]; decide), List.getElem?_eq_getElem _⟩
    obtain ⟨y2, e2⟩ : ∃ y, xs[2]? = some y := ⟨xs[2]'(by rw [hxs]; decide), List.getElem?_eq_getElem _⟩
    obtain ⟨a, ha, _⟩ := DataW.trod_int Tryz.underlying3 (f0.trans e0)
    obtain ⟨A, k, c, l, hl, hfl, _⟩ := trod_slice_flat (Q := fun _ => True) (by omega) Upd.len Tryz.underlying77 (by kernel_rfl) (fun n cs y hy => by
      obtain ⟨x, hx⟩ := trod_upd hy
      exact ⟨x, hx, trivial⟩) (f1.trans e1)
    obtain ⟨b, hb, _⟩ := DataW.trod_int Tryz.underlying3 (f2.trans e2)
    injection ha with ha _; injection hb with hb _; injection hl with hl _
    exact ⟨⟨a, A, k, c, b⟩, by rw [ha, hb, hl]; rfl, l, hfl⟩

set_option maxRecDepth 100000 in
theorem reads_node {v : Value} {d : DataW H} {p : List MemPlace} (hv : Value.okWide Tryz.prog W .any 0 79 v) (h : DataW.Trod enc Tryz.prog W 0 (fun _ => true) true 79 v d p) :
    ∃ id A n c done l, v = .agg #[.int .i64 id, .slice A n c, .int .i64 done] ∧ Flat Upd.enc 2 W 0 W.heap.size A n c l := by
  obtain ⟨cs, rfl, hcs⟩ := okWide_struct Tryz.underlying79 hv
  obtain ⟨m, hm⟩ := h
  obtain ⟨r, hr, l, hl⟩ := trod_nod hm
  refine ⟨r.id, r.A, r.n, r.c, r.done, l, ?_, hl⟩
  have e : cs.toList = r.enc := hr
  have : cs = r.enc.toArray := by rw [← e]
  rw [this]; rfl

set_option maxRecDepth 100000 in
theorem reads_chain {v : Value} {d : DataW H} {p : List MemPlace} (hv : Value.okWide Tryz.prog W .any 0 42 v) (h : DataW.Trod enc Tryz.prog W 0 (fun _ => true) true 42 v d p) :
    ∃ view A n c l, v = .agg #[.int .i64 view, .slice A n c] ∧ Nods W 0 W.heap.size A n c l := by
  obtain ⟨cs, rfl, hcs⟩ := okWide_struct Tryz.underlying42 hv
  obtain ⟨m, hm⟩ := h
  have hC : Tryz.prog.cellsOf 42 = 2 := by kernel_rfl
  have hI : Tryz.prog.cellsOf 3 = 1 := by kernel_rfl
  have hU : Tryz.prog.cellsOf 40 = 1 := by kernel_rfl
  have hm' : DataW.trod enc Tryz.prog W 0 (fun _ => true) true m 42 cs.toList = some (d, p) := hm
  obtain ⟨xs, m', _, _, hlen, hxs, hf⟩ := DataW.trod_struct Tryz.underlying42 hm'
  rw [hC] at hlen
  obtain ⟨L, hL⟩ : ∃ L, L = cs.toList := ⟨_, rfl⟩
  have hcs' : cs = L.toArray := by rw [hL]
  rw [← hL] at hlen hf
  subst hcs'
  match L, hlen with
  | [c0, c1], _ =>
    have f0 : DataW.trod enc Tryz.prog W 0 (fun _ => true) true m' 3 (List.take (Tryz.prog.cellsOf 3) (List.drop 0 [c0, c1])) = xs[0]? := hf 0 _ rfl
    have f1 : DataW.trod enc Tryz.prog W 0 (fun _ => true) true m' 40 (List.take (Tryz.prog.cellsOf 40) (List.drop 1 [c0, c1])) = xs[1]? := hf 1 _ rfl
    simp only [hI, hU, List.drop_zero, List.drop_succ_cons, List.take_succ_cons, List.take_zero] at f0 f1
    obtain ⟨y0, e0⟩ : ∃ y, xs[0]? = some y := ⟨xs[0]'(by rw [hxs]; decide), List.getElem?_eq_getElem _⟩
    obtain ⟨y1, e1⟩ : ∃ y, xs[1]? = some y := ⟨xs[1]'(by rw [hxs]; decide), List.getElem?_eq_getElem _⟩
    obtain ⟨a, ha, _⟩ := DataW.trod_int Tryz.underlying3 (f0.trans e0)
    obtain ⟨A, k, c, rs, hl, hfl, hq⟩ := trod_slice_flat (Q := fun r : RN => ∃ l, Flat Upd.enc 2 W 0 W.heap.size r.A r.n r.c l) (by omega) RN.len Tryz.underlying40 (by kernel_rfl) (fun n cs y hy => trod_nod hy) (f1.trans e1)
    injection ha with ha _; injection hl with hl _
    have each : ∀ i : Fin rs.length, ∃ l, Flat Upd.enc 2 W 0 W.heap.size rs[i].A rs[i].n rs[i].c l := fun i => hq _ (List.getElem_mem _)
    obtain ⟨g, hg⟩ := Classical.skolem.1 each
    refine ⟨a, A, k, c, List.ofFn fun i : Fin rs.length => (⟨rs[i].id, g i, rs[i].done⟩ : Nod), by rw [ha, hl], rs, hfl, by simp, fun i r x hr hx => ?_⟩
    have hi := (List.getElem?_eq_some_iff.1 hr).1
    have hri : rs[i] = r := by rw [List.getElem?_eq_getElem hi] at hr; injection hr
    rw [List.getElem?_ofFn] at hx
    simp only [hi, dif_pos] at hx
    injection hx with hx
    subst hx
    subst hri
    exact ⟨rfl, rfl, hg ⟨i, hi⟩⟩
end
end Go.Proofs.YtcomppiglhibkaaGreatDoor
/- What a reading of an argument gives: an update, a call. -/
namespace Go.Proofs.YtcomppiglhibkaaGreatDoor
open Go.ChangeShapes Go.WideShapes Go.ChangeAt Go.RowKit Go.Deep
section
variable {H : Type} {enc : TypeId × Value → H} {W : World}
set_option maxRecDepth 100000 in
theorem reads_update {v : Value} {d : DataW H} {p : List MemPlace} (hv : Value.okWide Tryz.prog W .any 0 43 v) (h : DataW.Trod enc Tryz.prog W 0 (fun _ => true) true 43 v d p) :
    ∃ x : Upd, v = .agg #[.int .i64 x.key, .int .i64 x.value] := by
  obtain ⟨cs, rfl, hcs⟩ := okWide_struct Tryz.underlying43 hv
  obtain ⟨m, hm⟩ := h
  obtain ⟨x, hx⟩ := trod_upd hm
  refine ⟨x, ?_⟩
  have e : cs.toList = x.enc := hx
  have : cs = x.enc.toArray := by rw [← e]
  rw [this]; rfl
end
end Go.Proofs.YtcomppiglhibkaaGreatDoor
/- The tied card 'Rows.FnExactChainPutCardSaid', out of the row's statement 'Rows.FnExactChainPutSaid': the law returns true for every input, on every tape, free of races, and each argument reads behind the call as it read before; the variable errTake laid. The walk is exChainPut_walkK; here it is carried from the model over to the true program and lifted into the given row. -/
namespace Go.Proofs.YtcomppiglhibkaaGreatDoor.fnExactChainPut
open Go Go.Conc Go.ChangeShapes Go.WideShapes Go.ChangeAt Go.RowKit
set_option linter.unusedVariables false

set_option maxRecDepth 100000 in
theorem lifted (os : Os) (started : os.Started) (H : Type) (enc : TypeId × Value → H) :
    ReturnsInLeavingWide {} Tryz.checked os 4 .any (fun w args => (Rows.fnExactChainPutSpec.pre enc Tryz.prog Tryz.f4 Rows.fnExactChainPutRow.domain false w args ∧ laidMetH Tryz.prog laidList w) ∧ sizedMet enc Tryz.prog Tryz.f4 (OpenSpec.ofChange Rows.fnExactChainPutSpec) false w args)
      (Rows.fnExactChainPutSpec.post enc Tryz.prog Tryz.f4 false true false false) := by
  refine leaving_and (C := Tryz.checked) (X := fun w _ => laidMetH Tryz.prog laidList w) (fun _ _ _ hh h => h.of_heap hh) ownK started Tryz.func4
    (ChangeSpec.witness_at (enc := enc) (C := Tryz.checked) (os := os) (X := fun w _ => laidMetH Tryz.prog laidList w) false (laidWorld os) #[.agg #[.int .i64 0, .slice none 0 0], .agg #[.int .i64 0, .int .i64 0]] 8 rfl (by kernel_rfl) (by kernel_rfl) (by kernel_rfl) (by kernel_rfl) (by kernel_rfl) laid_metH) ?_
  intro W base args ds gs before hval0 hW hL
  have hval : ∀ (j : Nat) t v, Tryz.f4.params[j]? = some t → args[j]? = some v → Value.okWide Tryz.prog W .any base t v := hval0
  have hW' := hW
  obtain ⟨p, q, hA0, hV, rfl, hfz, hnd⟩ := hW
  have hA : DataW.TrodAll enc Tryz.prog W 0 (fun _ => true) true Tryz.f4.params.toList args.toList ds p := hA0
  rw [Tryz.params4] at hA hval
  obtain ⟨v0, vs0, d0, ds0, p0, q0, hargs, rfl, rfl, h0, r0⟩ := trodAll_cons hA
  obtain ⟨v1, vs1, d1, ds1, p1, q1, rfl, rfl, rfl, h1, r1⟩ := trodAll_cons r0
  obtain ⟨rfl, rfl, rfl⟩ := trodAll_nil r1
  obtain rfl : args = #[v0, v1] := by cases args; simp_all
  have hV' : DataW.TrodVars enc Tryz.prog W (fun _ => true) ["loop.example/chainfiles/impl.errTake"] gs q := hV
  obtain ⟨g1, rfl⟩ := trodVars_len hV'
  obtain ⟨ea, he⟩ := err_of_laid hL
  have k0 := h0
  have lt0 : ∀ x ∈ p0, x.block < W.heap.size := by obtain ⟨m, hm⟩ := k0; exact DataW.trod_lt m _ _ _ hm
  have k1 := h1
  have lt1 : ∀ x ∈ p1, x.block < W.heap.size := by obtain ⟨m, hm⟩ := k1; exact DataW.trod_lt m _ _ _ hm
  obtain ⟨view0, A0, n0, c0, l0, rfl, f0⟩ := reads_chain (hval 0 42 v0 rfl rfl) h0
  obtain ⟨x1, rfl⟩ := reads_update (hval 1 43 v1 rfl rfl) h1
  clear hA0 hval0
  obtain ⟨M, last, o, w', t', e1, e2, e3, e4⟩ := mo_run fmo4 (by kernel_rfl) (by decide) (by kernel_rfl) #[.agg #[.int .i64 view0, .slice A0 n0 c0], .agg #[.int .i64 x1.key, .int .i64 x1.value]] W (fun w hw => exChainPut_walkK view0 A0 n0 c0 l0 x1.key x1.value ea w (he.brk hw) (brk_nods hw f0))
  refine ⟨M, last, o, w', t', e1, e2, e3, e4.mono fun v hp => ?_⟩
  obtain ⟨rfl, bel⟩ := hp
  exact ⟨_, _, _, [], _, _, hW', trodAll_mk1 (shut_bool Tryz.underlying4 _), (trodAll_cons_mk (BelowT.trod laidOut (by kernel_rfl) (of_decide_eq_true (by kernel_rfl)) k0 bel lt0) (trodAll_cons_mk (BelowT.trod laidOut (by kernel_rfl) (of_decide_eq_true (by kernel_rfl)) k1 bel lt1) trodAll_mk0)), BelowT.trodVars bel hV', bel.frame _, fun h => by cases h⟩

theorem over : Rows.fnExactChainPutRow.holds Tryz.pinned (OpenSpec.ofChange Rows.fnExactChainPutSpec) :=
  OpenClaim.holds_of_wide_leaving 4 Tryz.f4 rfl rfl rfl rfl rfl rfl rfl ⟨rfl, rfl, rfl, rfl, rfl⟩ rfl rfl rfl rfl rfl (by kernel_rfl) Tryz.func4 (by kernel_rfl)
    (of_decide_eq_true (by kernel_rfl)) (by unfold Func.isWrapper; first | (rw [if_pos (by decide +kernel)]; kernel_rfl) | (rw [if_neg (by decide +kernel)]; exact ⟨rfl, rfl⟩))
    (fun os started H enc _ => lifted os started H enc)

theorem proved : Rows.FnExactChainPutCardSaid :=
  tied_goes .later [.sentinel] true Rows.fnExactChainPutCard.stood.harness true
    over (by kernel_rfl) fnExactChainPut_row_tie rfl ⟨rfl, rfl⟩ (by kernel_rfl) rfl
    (fun f fn hf hfn => by
      obtain rfl : f = 4 := Option.some.inj ((show Tryz.prog.funcNamed "loop.example/chainfiles/laws.FnExactChainPut" = some 4 by kernel_rfl).symm.trans hf) |>.symm
      obtain rfl : fn = Tryz.f4 := (Option.some.inj (Tryz.func4.symm.trans hfn)).symm
      exact ⟨by kernel_rfl, fun j t ht => by
        rw [Tryz.params4] at ht
        rcases j with _ | j
        · obtain rfl : 42 = t := by simpa using ht
          exact (show Tryz.prog.wantsStandIn 42 = false by kernel_rfl)
        rcases j with _ | j
        · obtain rfl : 43 = t := by simpa using ht
          exact (show Tryz.prog.wantsStandIn 43 = false by kernel_rfl)
        · simp at ht⟩)
    (by kernel_rfl)
#print axioms proved
end Go.Proofs.YtcomppiglhibkaaGreatDoor.fnExactChainPut
