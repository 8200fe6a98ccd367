/- The texts Held Mark MarkN MarkC Ex ReadsN, joined. -/
import Derived.IntWalk
import Derived.Test.YtcomppiglhibkaaB3
import Derived.Test.YtcomppiglhibkaaB1
import Derived.Test.YtcomppiglhibkaaB4
/- Marks: numbers counted up, written into a log's cells and read again. -/
namespace Go.Proofs.Ytcomppiglhibkaa
open Go.RowKit

/-- A log of 'n' updates whose fields count up from 'k'. -/
def marks (k : Int) (n : Nat) : List Upd := (List.range n).map fun (i : Nat) => ⟨k + 2 * (i : Int), k + 2 * (i : Int) + 1⟩

theorem marks_get {k : Int} {n i : Nat} {x : Upd} (h : (marks k n)[i]? = some x) : x = ⟨k + 2 * (i : Int), k + 2 * (i : Int) + 1⟩ := by
  simp only [marks, List.getElem?_map, Option.map_eq_some_iff] at h
  obtain ⟨j, hj, rfl⟩ := h
  obtain ⟨_, hj⟩ := List.getElem?_eq_some_iff.1 hj
  simp at hj; subst hj; rfl

theorem marks_length (k : Int) (n : Nat) : (marks k n).length = n := by simp [marks]
theorem marks_at {k : Int} {n i : Nat} (h : i < n) : (marks k n)[i]? = some ⟨k + 2 * (i : Int), k + 2 * (i : Int) + 1⟩ := by
  simp [marks, h]

set_option maxHeartbeats 2000000 in
theorem heldUpdateS_marks (A : Option Addr) (n c : Nat) (s : Int) (w : World) (h : Flat Upd.enc 2 w 0 w.heap.size A n c (marks s n)) (hn : n ≤ 1048576) (hs0 : 0 ≤ s) (hs1 : s ≤ 17592186044416) :
    Calls Mo.prog 81 #[.slice A n c, .int .i64 s] w fun e w' => e = .returned (.int .i64 (s + 2 * (n : Int))) ∧ Below w.heap.size w w' := by
  have H := Lib.hid h
  clear h
  go_enter Mo.func81, Try.ntmps81
  go_wp2
  go_loopw [1, 5] (fun v i wr => ∃ k : Nat, k ≤ n ∧ v = .int .i64 (s + 2 * (k : Int)) ∧ i = .int .i64 k ∧ Below w.heap.size w wr) (fun _ i _ => n - (intOf i).toNat)
  case atStart => exact ⟨0, Nat.zero_le _, by simp, rfl, Below.refl _ _⟩
  case round =>
    obtain ⟨k, hk, rfl, rfl, hB⟩ := hrel
    have HW := Lib.hid (H.out.below hB (Nat.le_refl _))
    have HB := Lib.hid hB
    clear hB H
    have q1 : IntKind.i64.wrap (s + 2 * (k : Int) + 1) = s + 2 * (k : Int) + 1 := IntWalk.i64_in _ (by omega)
    have q2 : IntKind.i64.wrap (s + 2 * (k : Int) + 1 + 1) = s + 2 * (k : Int) + 1 + 1 := IntWalk.i64_in _ (by omega)
    by_cases hlt : k < n
    · obtain ⟨b, off, x, rfl, _, _, hx, c0, c1⟩ := HW.out.upd hlt
      obtain rfl := marks_get hx
      clear hx
      have hk0 : (0 : Int) ≤ (k : Int) := by omega
      have hkn : (k : Int) < (n : Int) := by omega
      go_wp2
      go_roundw
      case rel => exact ⟨k + 1, by omega, by congr 1; push_cast; omega, by go_num, HB.out⟩
      case measure => simp [intOf]; omega
    · obtain rfl : k = n := by omega
      go_wp2
      go_ret
      exact ⟨rfl, HB.out⟩
end Go.Proofs.Ytcomppiglhibkaa
/- Marking: the log's cells are overwritten with numbers counted up; no other block changes. -/
namespace Go.Proofs.Ytcomppiglhibkaa
open Go.RowKit

/-- Outside the blocks lo .. hi - 1 the old blocks are as they were. -/
def Kept (lo hi : Nat) (w w' : World) : Prop := w.heap.size ≤ w'.heap.size ∧ w'.os = w.os ∧ w'.tape = w.tape ∧ w'.output = w.output ∧ ∀ b, b < w.heap.size → ¬ (lo ≤ b ∧ b < hi) → w'.heap[b]? = w.heap[b]?
theorem Kept.refl (lo hi : Nat) (w : World) : Kept lo hi w w := ⟨Nat.le_refl _, rfl, rfl, rfl, fun _ _ _ => rfl⟩
theorem Kept.trans {lo hi : Nat} {w w1 w2 : World} (h : Kept lo hi w w1) (h2 : Kept lo hi w1 w2) : Kept lo hi w w2 :=
  ⟨Nat.le_trans h.1 h2.1, h2.2.1.trans h.2.1, h2.2.2.1.trans h.2.2.1, h2.2.2.2.1.trans h.2.2.2.1, fun b hb hn => (h2.2.2.2.2 b (Nat.lt_of_lt_of_le hb h.1) hn).trans (h.2.2.2.2 b hb hn)⟩
theorem Kept.set {lo hi : Nat} {w w1 : World} (h : Kept lo hi w w1) {a : Addr} (h1 : lo ≤ a.block) (h2 : a.block < hi) (v : Value) : Kept lo hi w (w1.setCell a v) :=
  h.trans ⟨by simp [World.setCell], rfl, rfl, rfl, fun b _ hn => Below.heap_setCell _ _ _ _ (fun e => hn (by rw [e]; exact ⟨h1, h2⟩))⟩
theorem Kept.grown {lo hi : Nat} {w w1 w2 : World} {row : Option Nat} (h : Kept lo hi w w1) (hg : w1.grownBy w2 row) (hr : ∀ g, row = some g → lo ≤ g ∧ g < hi) : Kept lo hi w w2 :=
  h.trans ⟨hg.size, hg.os, hg.tape, hg.output, fun b hb hn => hg.block b hb (fun e => hn (hr b e.symm))⟩
theorem Kept.below {lo hi B : Nat} {w w1 : World} (h : Kept lo hi w w1) (hB : B ≤ lo) (hs : B ≤ w.heap.size) : Below B w w1 :=
  ⟨h.2.1, h.2.2.1, h.2.2.2.1, h.1, fun b hb => h.2.2.2.2 b (by omega) (by omega)⟩
theorem grown_set {w w1 : World} {g : Nat} (h : w.grownBy w1 (some g)) (i : Nat) (v : Value) : w.grownBy (w1.setCell ⟨g, i, none⟩ v) (some g) :=
  ⟨h.os, h.tape, h.output, by simpa [World.setCell] using h.size, fun k hk hn => (Below.heap_setCell _ _ _ _ (fun e => hn (by rw [e]))).trans (h.block k hk hn)⟩
theorem grown_refl (w : World) (row : Option Nat) : w.grownBy w row := ⟨rfl, rfl, rfl, Nat.le_refl _, fun _ _ _ => rfl⟩

theorem Filled.take_ {α : Type} {enc : α → List Value} {sz : Nat} {cs : Array Value} {l : List α} {n : Nat} (hs : ∀ x, (enc x).length = sz) (hsz : 0 < sz) (h : Filled enc sz cs l n) (hn : n ≤ l.length) : cs.toList.take (n * sz) = (l.take n).flatMap enc := by
  have hle : n * sz ≤ l.length * sz := Nat.mul_le_mul_right _ hn
  apply List.ext_getElem?
  intro m
  by_cases hm : m < n * sz
  · have hi : m / sz < n := Nat.div_lt_of_lt_mul (by rw [Nat.mul_comm]; exact hm)
    have hj : m % sz < sz := Nat.mod_lt _ hsz
    have e : m = m / sz * sz + m % sz := by have := Nat.div_add_mod m sz; rw [Nat.mul_comm] at this; omega
    have hil : m / sz < l.length := by omega
    have hu : (enc (l[m / sz]))[m % sz]? = some ((enc (l[m / sz]))[m % sz]'(by rw [hs]; exact hj)) := List.getElem?_eq_getElem _
    have h1 := h.2 (m / sz) _ hi (List.getElem?_eq_getElem hil) (m % sz) _ hu
    have h2 := flatMap_get hs (l.take n) (m / sz) _ (by rw [List.getElem?_take, if_pos hi]; exact List.getElem?_eq_getElem hil) (m % sz) _ hu
    rw [← e] at h1 h2
    rw [h2, List.getElem?_take, if_pos hm, Array.getElem?_toList, h1]
  · rw [List.getElem?_eq_none (by rw [List.length_take, Array.length_toList, h.1]; omega), List.getElem?_eq_none (by rw [length_flatMap hs, List.length_take]; rw [Nat.min_eq_left hn]; omega)]

theorem marks_take (s : Int) {n c : Nat} (h : n ≤ c) : (marks s c).take n = marks s n := by
  unfold marks; rw [← List.map_take, List.take_range, Nat.min_eq_left h]

set_option maxHeartbeats 2000000 in
theorem markUpdateS_block (g n c : Nat) (s : Int) (cs0 : Array Value) (w : World) (h : w.heap[g]? = some (.cells cs0 63 (0, 0))) (hz : cs0.size = c * 2) (hnc : n ≤ c) (hn : n ≤ 1048576) (hs0 : 0 ≤ s) (hs1 : s ≤ 17592186044416) :
    Calls Mo.prog 80 #[.slice (some ⟨g, 0, none⟩) n c, .int .i64 s] w fun e w' => e = .returned (.int .i64 (s + 2 * (n : Int))) ∧
      (∃ cs, w'.heap[g]? = some (.cells cs 63 (0, 0)) ∧ Filled Upd.enc 2 cs (marks s c) n) ∧ w.grownBy w' (some g) := by
  have hlt := lt_of_block h
  have H := Lib.hid h
  have HZ := Lib.hid hz
  clear h hz
  go_enter Mo.func80, Try.ntmps80
  go_wp2
  go_loopw [1, 5] (fun v i wr => ∃ k : Nat, k ≤ n ∧ v = .int .i64 (s + 2 * (k : Int)) ∧ i = .int .i64 k ∧ Hid (∃ cs, wr.heap[g]? = some (.cells cs 63 (0, 0)) ∧ Filled Upd.enc 2 cs (marks s c) k) ∧ w.grownBy wr (some g)) (fun _ i _ => n - (intOf i).toNat)
  case atStart => exact ⟨0, Nat.zero_le _, by simp, rfl, ⟨cs0, H.out, Filled.zero (by rw [HZ.out, marks_length])⟩, grown_refl _ _⟩
  case round =>
    obtain ⟨k, hk, rfl, rfl, hfill, hB⟩ := hrel
    have HB := Lib.hid hB
    have q1 : IntKind.i64.wrap (s + 2 * (k : Int) + 1) = s + 2 * (k : Int) + 1 := IntWalk.i64_in _ (by omega)
    have q2 : IntKind.i64.wrap (s + 2 * (k : Int) + 1 + 1) = s + 2 * (k : Int) + 1 + 1 := IntWalk.i64_in _ (by omega)
    clear hB
    by_cases hl : k < n
    · obtain ⟨cs, hg, hf⟩ := hfill.out
      have Hg := Lib.hid hg
      have Hf := Lib.hid hf
      have hfs := hf.1
      rw [marks_length] at hfs
      obtain ⟨v0, q0⟩ := row_cell (i := k * 2) hg (by omega)
      obtain ⟨v1, q3⟩ := row_cell (i := k * 2 + 1) hg (by omega)
      have f0 := row_free hg (k * 2)
      have f1 := row_free hg (k * 2 + 1)
      clear hg hf hfill hfs
      have hk0 : (0 : Int) ≤ (k : Int) := by omega
      have hkn : (k : Int) < (n : Int) := by omega
      go_wp2
      go_roundw
      case rel =>
        refine ⟨k + 1, by omega, by congr 1; push_cast; omega, by go_num, ⟨_, heap_setCell_at (heap_setCell_at Hg.out _) _, Filled.step Upd.len Hf.out (marks_at (by omega))⟩, ?_⟩
        exact grown_set (grown_set HB.out _ _) _ _
      case measure => simp [intOf]; omega
    · obtain rfl : k = n := by omega
      obtain ⟨cs, hg, hf⟩ := hfill.out
      have Hg := Lib.hid hg
      have Hf := Lib.hid hf
      clear hg hf hfill
      go_wp2
      go_ret
      exact ⟨rfl, ⟨cs, Hg.out, Hf.out⟩, HB.out⟩

set_option maxHeartbeats 2000000 in
theorem markUpdateS_nil (s : Int) (w : World) :
    Calls Mo.prog 80 #[.slice none 0 0, .int .i64 s] w fun e w' => e = .returned (.int .i64 s) ∧ w = w' := by
  go_enter Mo.func80, Try.ntmps80
  go_wp2
  go_loopw [1, 5] (fun v i wr => v = .int .i64 s ∧ i = .int .i64 0 ∧ w = wr) (fun _ _ _ => 0)
  case atStart => exact ⟨rfl, rfl, rfl⟩
  case round =>
    obtain ⟨rfl, rfl, rfl⟩ := hrel
    go_wp2
    go_ret
    exact ⟨rfl, rfl⟩

theorem markUpdateS_own (lo : Nat) (A : Option Addr) (n c : Nat) (xs : List Value) (s : Int) (w : World) (h : w.ownsRow lo 63 2 (.slice A n c) n xs) (hn : n ≤ 1048576) (hs0 : 0 ≤ s) (hs1 : s ≤ 17592186044416) :
    Calls Mo.prog 80 #[.slice A n c, .int .i64 s] w fun e w' => e = .returned (.int .i64 (s + 2 * (n : Int))) ∧
      w'.ownsRow lo 63 2 (.slice A n c) n ((marks s n).flatMap Upd.enc) ∧ w.grownBy w' (Value.slice A n c).ownBlock := by
  rcases h.2 with ⟨hv, h0⟩ | ⟨g, cap, cur, hv, hlo, hg, hnc, hm, hcs, _⟩
  · injection hv with e1 e2 e3
    subst e1; subst e2; subst e3
    refine (markUpdateS_nil s w).mono ?_
    rintro e w' ⟨rfl, rfl⟩
    exact ⟨by simp, World.ownsRow_nil _ _ _ _, grown_refl _ _⟩
  · injection hv with e1 e2 e3
    subst e1; subst e3
    refine (markUpdateS_block g n c s cur w hg hcs hnc hn hs0 hs1).mono ?_
    rintro e w' ⟨rfl, ⟨cs, hg', hf⟩, hgr⟩
    refine ⟨rfl, ⟨by rw [length_flatMap Upd.len, marks_length], .inr ⟨g, c, cs, rfl, hlo, hg', hnc, hm, by have := hf.1; rwa [marks_length] at this, ?_⟩⟩, hgr⟩
    rw [Filled.take_ Upd.len (by omega) hf (by rw [marks_length]; exact hnc), marks_take s hnc]
end Go.Proofs.Ytcomppiglhibkaa
/- Marking a row of nodes: each node's cells and its log's are overwritten with numbers counted up; reading them again. -/
namespace Go.Proofs.Ytcomppiglhibkaa
open Go.RowKit

/-- the number ahead of node k -/
def mk (s : Int) (l : List Nod) : Nat → Int
  | 0 => s
  | k + 1 => mk s l k + 2 * ((match l[k]? with | some x => x.log.length | none => 0 : Nat) : Int) + 2
def mkNod (v : Int) (m : Nat) : Nod := ⟨v, marks (v + 1) m, v + 1 + 2 * (m : Int)⟩
/-- the first k are marked -/
def mkd (s : Int) (l : List Nod) : Nat → List Nod
  | 0 => l
  | k + 1 => (mkd s l k).set k (mkNod (mk s l k) (match l[k]? with | some x => x.log.length | none => 0))
theorem mk_succ {s : Int} {l : List Nod} {k : Nat} {x : Nod} (hx : l[k]? = some x) : mk s l (k + 1) = mk s l k + 2 * (x.log.length : Int) + 2 := by simp [mk, hx]
theorem mkd_succ {s : Int} {l : List Nod} {k : Nat} {x : Nod} (hx : l[k]? = some x) : mkd s l (k + 1) = (mkd s l k).set k (mkNod (mk s l k) x.log.length) := by simp [mkd, hx]
theorem mkd_length (s : Int) (l : List Nod) (k : Nat) : (mkd s l k).length = l.length := by
  induction k with
  | zero => rfl
  | succ k ih => rw [mkd, List.length_set, ih]
theorem mkd_ge (s : Int) (l : List Nod) {k j : Nat} (h : k ≤ j) : (mkd s l k)[j]? = l[j]? := by
  induction k with
  | zero => rfl
  | succ k ih => rw [mkd, List.getElem?_set_ne (by omega), ih (by omega)]
theorem mkd_lt {s : Int} {l : List Nod} {k j : Nat} {x : Nod} (h : j < k) (hx : l[j]? = some x) : (mkd s l k)[j]? = some (mkNod (mk s l j) x.log.length) := by
  induction k with
  | zero => omega
  | succ k ih =>
    by_cases e : j = k
    · subst e
      have hj := (List.getElem?_eq_some_iff.1 hx).1
      rw [mkd_succ hx, List.getElem?_set_self (by rw [mkd_length]; exact hj)]
    · rw [mkd, List.getElem?_set_ne (by omega), ih (by omega)]
theorem mk_bd {s : Int} {l : List Nod} (h : ∀ x ∈ l, x.log.length ≤ 1048576) (k : Nat) : s ≤ mk s l k ∧ mk s l k ≤ s + 2097154 * (k : Int) := by
  induction k with
  | zero => simp [mk]
  | succ k ih =>
    unfold mk
    cases hx : l[k]? with
    | none => simp only []; push_cast; omega
    | some x =>
      have := h x (List.mem_of_getElem? hx)
      simp only []; push_cast; omega

section
variable {w w' : World} {lo hi : Nat} {v : Value} {l : List Nod}
/-- one node of a row of the call's own: its cells, its log, and what storing another log of the same length makes of the row -/
theorem NodRow.openLog {g n c k : Nat} (h : NodRow w lo hi (.slice (some ⟨g, 0, none⟩) n c) l) (hk : k < l.length) :
    ∃ x A' m d, l[k]? = some x ∧ w.cell? ⟨g, k * 3, none⟩ = some (.int .i64 x.id) ∧ w.cell? ⟨g, k * 3 + 1, none⟩ = some (.slice A' m d) ∧ w.cell? ⟨g, k * 3 + 2, none⟩ = some (.int .i64 x.done) ∧ x.log.length = m ∧
      w.ownsRow lo 63 2 (.slice A' m d) m (x.log.flatMap Upd.enc) ∧ (∀ q, (Value.slice A' m d).ownBlock = some q → lo ≤ q ∧ q < hi ∧ q ≠ g) ∧
      (∀ (w' : World) (lg : List Upd), lg.length = m → w'.ownsRow lo 63 2 (.slice A' m d) m (lg.flatMap Upd.enc) → w.grownBy w' (Value.slice A' m d).ownBlock → NodRow w' lo hi (.slice (some ⟨g, 0, none⟩) n c) (l.set k { x with log := lg })) := by
  obtain rfl : n = l.length := h.nods'.1
  obtain ⟨rs, ho, hv, hl, hr, hd⟩ := h
  have hx : l[k]? = some l[k] := List.getElem?_eq_getElem hk
  have hrk : rs[k]? = some (rs[k]'(by omega)) := List.getElem?_eq_getElem _
  obtain ⟨a1, a2, a3, a4, a5⟩ := hr k _ _ hrk hx
  have hcell : ∀ j u, ((rs[k]'(by omega)).enc)[j]? = some u → w.cell? ⟨g, k * 3 + j, none⟩ = some u := fun j u hu => by
    have hj : j < 3 := by have := (List.getElem?_eq_some_iff.1 hu).1; rw [RN.len] at this; exact this
    have hlt : k * 3 + j < l.length * 3 := by omega
    rw [ho.cellAt (k * 3 + j) hlt, flatMap_get RN.len rs k _ hrk j u hu]
  have offg : ∀ {A : Option Addr} {m c' : Nat} {xs : List Value} {lo' : Nat}, w.ownsRow lo' 63 2 (.slice A m c') m xs → ∀ q, (Value.slice A m c').ownBlock = some q → q ≠ g := fun hh q hq e => by
    subst e
    exact own_part hh ho (by decide) hq rfl
  refine ⟨_, (rs[k]'(by omega)).A, (rs[k]'(by omega)).n, (rs[k]'(by omega)).c, hx, ?_, hcell 1 _ rfl, ?_, a3, a4, fun q hq => ⟨(a4.lt q hq).1, a5 q hq, offg a4 q hq⟩, fun w' lg hlg hown hgr => ?_⟩
  · rw [← a1]; exact hcell 0 _ rfl
  · rw [← a2]; exact hcell 2 _ rfl
  · refine ⟨rs, by rw [List.length_set]; exact own_keep ho (fun q hq => hgr.block q (ho.lt q hq).2 (fun e => offg a4 q e.symm (by simpa [Value.ownBlock] using hq.symm))), hv, by simp [hl], fun i r y h1 h2 => ?_, hd⟩
    by_cases hik : k = i
    · subst hik
      rw [List.getElem?_set_self (by omega)] at h2
      injection h2 with h2
      rw [hrk] at h1; injection h1 with h1
      subst h1; subst h2
      exact ⟨a1, a2, hlg, hown, a5⟩
    · rw [List.getElem?_set_ne hik] at h2
      obtain ⟨b1, b2, b3, b4, b5⟩ := hr i r y h1 h2
      refine ⟨b1, b2, b3, own_keep b4 (fun q hq => hgr.block q (b4.lt q hq).2 (fun e => ?_)), b5⟩
      rcases Nat.lt_or_gt_of_ne hik with hlt | hlt
      · exact hd k i _ r q hrk h1 hlt e.symm hq
      · exact hd i k r _ q h1 hrk hlt hq e.symm
end

set_option maxHeartbeats 4000000 in
theorem markNodeS_row (g n c lo hi : Nat) (l : List Nod) (s : Int) (w : World) (h : NodRow w lo hi (.slice (some ⟨g, 0, none⟩) n c) l) (hn : n ≤ 1048576) (hlog : ∀ x ∈ l, x.log.length ≤ 1048576) (hs0 : 0 ≤ s) (hs1 : s ≤ 2097154) :
    Calls Mo.prog 53 #[.slice (some ⟨g, 0, none⟩) n c, .int .i64 s] w fun e w' => e = .returned (.int .i64 (mk s l n)) ∧
      NodRow w' lo hi (.slice (some ⟨g, 0, none⟩) n c) (mkd s l n) ∧ Kept lo hi w w' := by
  have hln := h.nods'.1
  have hgb : lo ≤ g ∧ g < hi := by
    obtain ⟨rs, ho, hv, _⟩ := h
    exact ⟨(ho.lt g rfl).1, hv g rfl⟩
  have MB := Lib.hid (fun k => mk_bd (s := s) hlog k)
  have H := Lib.hid h
  have HL := Lib.hid hln
  have HG := Lib.hid hlog
  clear h hln hlog
  go_enter Mo.func53, Try.ntmps53
  go_wp2
  go_loopw [1, 5] (fun v i wr => ∃ (k : Nat) (u : Int), k ≤ n ∧ v = .int .i64 u ∧ i = .int .i64 k ∧ Hid (u = mk s l k) ∧ Hid (NodRow wr lo hi (.slice (some ⟨g, 0, none⟩) n c) (mkd s l k)) ∧ Kept lo hi w wr) (fun _ i _ => n - (intOf i).toNat)
  case atStart => exact ⟨0, s, Nat.zero_le _, rfl, rfl, rfl, H.out, Kept.refl _ _ _⟩
  case round =>
    obtain ⟨k, u, hk, rfl, rfl, HU, HR, hK⟩ := hrel
    have HK := Lib.hid hK
    clear hK
    have hb := MB.out k
    rw [← HU.out] at hb
    by_cases hl : k < n
    · obtain ⟨x, A1, m1, d1, hx, c0, c1, c2, hm, _, _, _⟩ := HR.out.openLog (k := k) (by rw [mkd_length, ← HL.out]; exact hl)
      have hx' : l[k]? = some x := by rw [← hx]; exact (mkd_ge s l (Nat.le_refl k)).symm
      have HX := Lib.hid hx'
      have hlen := HG.out x (List.mem_of_getElem? hx')
      have H2 := Lib.hid (by have := HR.out.setId hx u; simp only [Nat.add_zero] at this; exact this)
      obtain ⟨y, A2, m2, d2, hy, _, e1, e2, hm2, ho2, hq2, hup2⟩ := H2.out.openLog (k := k) (by rw [List.length_set, mkd_length, ← HL.out]; exact hl)
      have hyx : y = { x with id := u } := by
        rw [List.getElem?_set_self (by rw [mkd_length, ← HL.out]; exact hl)] at hy; injection hy with hy; exact hy.symm
      have hm2' : m2 ≤ 1048576 := by rw [← hm2, hyx]; exact hlen
      have HM := Lib.hid (show m2 = x.log.length by rw [← hm2, hyx])
      have HY := Lib.hid hyx
      have O2 := Lib.hid ho2
      have Q2 := Lib.hid hq2
      have U2 := Lib.hid hup2
      have f0 : wr.frozen? ⟨g, k * 3, none⟩ = false := by
        obtain ⟨_, _, _, _, _, _, _, _, _, _, hfr⟩ := HR.out.at_ (k := k) (by rw [mkd_length, ← HL.out]; exact hl)
        exact hfr _
      clear hx hx' hm hlen hy hm2 hyx ho2 hq2 hup2
      have hk0 : (0 : Int) ≤ (k : Int) := by omega
      have hkn : (k : Int) < (n : Int) := by omega
      have q1 : IntKind.i64.wrap (u + 1) = u + 1 := IntWalk.i64_in _ (by omega)
      go_wp2_with fail
      refine (markUpdateS_own lo A2 m2 d2 _ (u + 1) _ O2.out hm2' (by omega) (by omega)).mono ?_
      rintro e w3 ⟨rfl, hown3, hg3⟩
      have hr3 := U2.out w3 _ (marks_length _ _) hown3 hg3
      obtain ⟨z, A4, m4, d4, hz, _, _, t2, _, _, hfr⟩ := hr3.at_ (k := k) (by rw [List.length_set, List.length_set, mkd_length, ← HL.out]; exact hl)
      have f2 := hfr (k * 3 + 2)
      have S3 := Lib.hid (hr3.setDone hz (u + 1 + 2 * (m2 : Int)))
      have HZ := Lib.hid hz
      have K3 := Lib.hid ((HK.out.set (a := ⟨g, k * 3, none⟩) hgb.1 hgb.2 (.int .i64 u)).grown hg3 (fun q hq => ⟨(Q2.out q hq).1, (Q2.out q hq).2.1⟩))
      have q2 : IntKind.i64.wrap (u + 1 + 2 * (m2 : Int) + 1) = u + 1 + 2 * (m2 : Int) + 1 := IntWalk.i64_in _ (by omega)
      clear hown3 hg3 hr3 hz hfr e1 e2 c0 c1 c2
      go_wp2_with fail
      go_roundw
      case rel =>
        refine ⟨k + 1, u + 1 + 2 * (m2 : Int) + 1, by omega, rfl, by go_num, ?_, ?_, K3.out.set (a := ⟨g, k * 3 + 2, none⟩) hgb.1 hgb.2 _⟩
        · show _ = _
          rw [mk_succ HX.out, ← HU.out, ← HM.out]; omega
        · have h3 := S3.out
          have ez : z = ⟨u, marks (u + 1) m2, z.done⟩ := by
            have := HZ.out
            rw [List.getElem?_set_self (by rw [List.length_set, mkd_length, ← HL.out]; exact hl)] at this
            injection this with this
            rw [← this, HY.out]
          rw [List.set_set, List.set_set, ez] at h3
          show NodRow _ _ _ _ _
          rw [mkd_succ HX.out, ← HU.out, ← HM.out]
          exact h3
      case measure => simp [intOf]; omega
    · obtain rfl : k = n := by omega
      go_wp2
      go_ret
      exact ⟨ret_int HU.out, HR.out, HK.out⟩
end Go.Proofs.Ytcomppiglhibkaa
/- Marking a chain and reading the marks again: laws.markChain, laws.heldNodeS, laws.heldChain. -/
namespace Go.Proofs.Ytcomppiglhibkaa
open Go.RowKit

theorem Kept.alloc {lo hi : Nat} {w w1 : World} (h : Kept lo hi w w1) (o : Obj) : Kept lo hi w (w1.alloc o) :=
  h.trans ⟨by simp, rfl, rfl, rfl, fun b hb _ => Below.heap_alloc _ _ _ hb⟩
theorem Kept.ofBelow {lo hi : Nat} {w w1 : World} (hb : Below w.heap.size w w1) : Kept lo hi w w1 := ⟨hb.size, hb.os, hb.tape, hb.output, fun b h _ => hb.block b h⟩

set_option maxHeartbeats 2000000 in
theorem markNodeS_nil (s : Int) (w : World) :
    Calls Mo.prog 53 #[.slice none 0 0, .int .i64 s] w fun e w' => e = .returned (.int .i64 s) ∧ w = w' := by
  go_enter Mo.func53, Try.ntmps53
  go_wp2
  go_loopw [1, 5] (fun v i wr => v = .int .i64 s ∧ i = .int .i64 0 ∧ w = wr) (fun _ _ _ => 0)
  case atStart => exact ⟨rfl, rfl, rfl⟩
  case round =>
    obtain ⟨rfl, rfl, rfl⟩ := hrel
    go_wp2
    go_ret
    exact ⟨rfl, rfl⟩

theorem markNodeS_any (lo hi : Nat) (A : Option Addr) (n c : Nat) (l : List Nod) (s : Int) (w : World) (h : NodRow w lo hi (.slice A n c) l) (hn : n ≤ 1048576) (hlog : ∀ x ∈ l, x.log.length ≤ 1048576) (hs0 : 0 ≤ s) (hs1 : s ≤ 2097154) :
    Calls Mo.prog 53 #[.slice A n c, .int .i64 s] w fun e w' => e = .returned (.int .i64 (mk s l n)) ∧
      NodRow w' lo hi (.slice A n c) (mkd s l n) ∧ Kept lo hi w w' := by
  have ho : ∃ rs : List RN, w.ownsRow lo 34 3 (.slice A n c) l.length (rs.flatMap RN.enc) := by obtain ⟨rs, ho, _⟩ := h; exact ⟨rs, ho⟩
  obtain ⟨rs, ho⟩ := ho
  rcases ho.2 with ⟨hv, h0⟩ | ⟨g, cap, cur, hv, _⟩
  · injection hv with e1 e2 e3
    subst e1; subst e2; subst e3
    have hl : l = [] := List.eq_nil_of_length_eq_zero h0
    subst hl
    refine (markNodeS_nil s w).mono ?_
    rintro e w' ⟨rfl, rfl⟩
    exact ⟨rfl, h, Kept.refl _ _ _⟩
  · injection hv with e1 e2 e3
    subst e1
    exact markNodeS_row g n c lo hi l s w h hn hlog hs0 hs1

set_option maxHeartbeats 2000000 in
theorem markChain_any (lo hi : Nat) (view : Int) (A : Option Addr) (n c : Nat) (l : List Nod) (s : Int) (w : World) (h : NodRow w lo hi (.slice A n c) l) (hhi : hi ≤ w.heap.size) (hn : n ≤ 1048576) (hlog : ∀ x ∈ l, x.log.length ≤ 1048576) (hs0 : 0 ≤ s) (hs1 : s ≤ 2097154) :
    Calls Mo.prog 25 #[.agg #[.int .i64 view, .slice A n c], .int .i64 s] w fun e w' => e = .returned (.int .i64 (mk s l n)) ∧
      NodRow w' lo hi (.slice A n c) (mkd s l n) ∧ Kept lo hi w w' := by
  have H := Lib.hid (h.keep (w' := w.alloc (.cells #[.int .i64 view, .slice A n c] 25)) (fun k _ hk => Below.heap_alloc _ _ _ (by omega)))
  have HG := Lib.hid hlog
  have KB := Lib.hid (Kept.alloc (Kept.refl lo hi w) (.cells #[.int .i64 view, .slice A n c] 25))
  clear h hlog
  obtain ⟨v, hv⟩ : ∃ v, mk s l n = v := ⟨_, rfl⟩
  rw [hv]
  have HV := Lib.hid hv
  clear hv
  go_enter Mo.func25, Try.ntmps25
  go_wp2_with fail
  refine (markNodeS_any lo hi _ _ _ l s _ H.out hn HG.out hs0 hs1).mono ?_
  rintro e w1 ⟨rfl, hr1, hk1⟩
  rw [HV.out]
  have R1 := Lib.hid hr1
  have K1 := Lib.hid (KB.out.trans hk1)
  clear hr1 hk1
  go_wp2
  go_ret
  exact ⟨rfl, R1.out, K1.out⟩

theorem below_cell_ {w w' : World} {a : Addr} {v : Value} (hb : Below w.heap.size w w') (h : w.cell? a = some v) : w'.cell? a = some v := (hb.cell (World.block_lt_of_cell? w a h)).trans h

set_option maxHeartbeats 4000000 in
theorem heldNodeS_marks (A : Option Addr) (n c : Nat) (l : List Nod) (s : Int) (w : World) (h : Nods w 0 w.heap.size A n c (mkd s l n)) (hn : n ≤ 1048576) (hlog : ∀ x ∈ l, x.log.length ≤ 1048576) (hs0 : 0 ≤ s) (hs1 : s ≤ 2097154) :
    Calls Mo.prog 54 #[.slice A n c, .int .i64 s] w fun e w' => e = .returned (.int .i64 (mk s l n)) ∧ Below w.heap.size w w' := by
  have hln := h.len
  rw [mkd_length] at hln
  have MB := Lib.hid (fun k => mk_bd (s := s) hlog k)
  have H := Lib.hid h
  have HL := Lib.hid hln
  have HG := Lib.hid hlog
  clear h hln hlog
  go_enter Mo.func54, Try.ntmps54
  go_wp2
  go_loopw [1, 5] (fun v i wr => ∃ (k : Nat) (u : Int), k ≤ n ∧ v = .int .i64 u ∧ i = .int .i64 k ∧ Hid (u = mk s l k) ∧ Below w.heap.size w wr) (fun _ i _ => n - (intOf i).toNat)
  case atStart => exact ⟨0, s, Nat.zero_le _, rfl, rfl, rfl, Below.refl _ _⟩
  case round =>
    obtain ⟨k, u, hk, rfl, rfl, HU, hB⟩ := hrel
    have HW := Lib.hid (H.out.below hB (Nat.le_refl _))
    have HB := Lib.hid hB
    have hsz := hB.size
    clear hB
    have hb := MB.out k
    rw [← HU.out] at hb
    by_cases hl : k < n
    · have hx : l[k]? = some (l[k]'(by rw [HL.out]; exact hl)) := List.getElem?_eq_getElem _
      obtain ⟨x, hxe⟩ : ∃ x, x = l[k]'(by rw [HL.out]; exact hl) := ⟨_, rfl⟩
      rw [← hxe] at hx
      clear hxe
      have hm := HG.out x (List.mem_of_getElem? hx)
      obtain ⟨b, off, y, A1, m, d1, rfl, _, _, hy, c0, c1, c2, hf⟩ := HW.out.nod (k := k) hl
      have hye : y = mkNod u x.log.length := by
        have := mkd_lt (s := s) hl hx
        rw [hy] at this; injection this with this
        rw [this, HU.out]
      have hml : m = x.log.length := by have := hf.len; rw [hye] at this; rw [← this]; exact marks_length _ _
      have F := Lib.hid (show Flat Upd.enc 2 wr 0 wr.heap.size A1 m d1 (marks (u + 1) m) by
        have := hf.mono (Nat.zero_le _) hsz
        rw [hye] at this; rw [hml]; rw [hml] at this; exact this)
      have c0' : wr.cell? ⟨b, off + k * 3, none⟩ = some (.int .i64 u) := by rw [c0, hye]; rfl
      have c2' : wr.cell? ⟨b, off + k * 3 + 2, none⟩ = some (.int .i64 (u + 1 + 2 * (m : Int))) := by rw [c2, hye, hml]; rfl
      have HX := Lib.hid hx
      have HM := Lib.hid hml
      rw [← hml] at hm
      clear hx hy hye hml hf c0 c2
      have hk0 : (0 : Int) ≤ (k : Int) := by omega
      have hkn : (k : Int) < (n : Int) := by omega
      have q1 : IntKind.i64.wrap (u + 1) = u + 1 := IntWalk.i64_in _ (by omega)
      have e1 : (u != u) = false := by simp
      have e2 : (u + 1 + 2 * (m : Int) != u + 1 + 2 * (m : Int)) = false := by simp
      have e3 : ¬ (u + 1 + 2 * (m : Int) < 0) := by omega
      go_wp2_with fail
      refine (heldUpdateS_marks A1 m d1 (u + 1) wr F.out hm (by omega) (by omega)).mono ?_
      rintro e w1 ⟨rfl, hb1⟩
      have B1 := Lib.hid (HB.out.trans (hb1.mono hsz))
      have c3 := below_cell_ hb1 c2'
      have q2 : IntKind.i64.wrap (u + 1 + 2 * (m : Int) + 1) = u + 1 + 2 * (m : Int) + 1 := IntWalk.i64_in _ (by omega)
      clear hb1 c0' c1 c2'
      go_wp2
      go_roundw
      case rel =>
        refine ⟨k + 1, u + 1 + 2 * (m : Int) + 1, by omega, rfl, by go_num, ?_, B1.out⟩
        show _ = _
        rw [mk_succ HX.out, ← HU.out, ← HM.out]; omega
      case measure => simp [intOf]; omega
    · obtain rfl : k = n := by omega
      go_wp2
      go_ret
      exact ⟨ret_int HU.out, HB.out⟩

set_option maxHeartbeats 2000000 in
theorem heldChain_marks (view : Int) (A : Option Addr) (n c : Nat) (l : List Nod) (s : Int) (w : World) (h : Nods w 0 w.heap.size A n c (mkd s l n)) (hn : n ≤ 1048576) (hlog : ∀ x ∈ l, x.log.length ≤ 1048576) (hs0 : 0 ≤ s) (hs1 : s ≤ 2097154) :
    Calls Mo.prog 26 #[.agg #[.int .i64 view, .slice A n c], .int .i64 s] w fun e w' => e = .returned (.int .i64 (mk s l n)) ∧ Below w.heap.size w w' := by
  have hv0 := (mk_bd (s := s) hlog n).1
  have H := Lib.hid (h.box (.cells #[.int .i64 view, .slice A n c] 25))
  have HG := Lib.hid hlog
  clear h hlog
  obtain ⟨v, hv⟩ : ∃ v, mk s l n = v := ⟨_, rfl⟩
  rw [hv]
  rw [hv] at hv0
  have HV := Lib.hid hv
  have hv1 : ¬ v < 0 := by omega
  clear hv
  go_enter Mo.func26, Try.ntmps26
  go_wp2_with fail
  refine (heldNodeS_marks _ _ _ l s _ H.out hn HG.out hs0 hs1).mono ?_
  rintro e w1 ⟨rfl, hb1⟩
  rw [HV.out]
  have B1 := Lib.hid (below_box hb1)
  clear hb1
  go_wp2
  go_ret
  exact ⟨rfl, B1.out⟩
end Go.Proofs.Ytcomppiglhibkaa
/- The exact statements' variables: a chain in a block, its row of nodes in blocks of its own, kept over calls and marking; plain lemmas on worlds. -/
namespace Go.Proofs.Ytcomppiglhibkaa
open Go.RowKit

/-- the chain (view, l) in block 'box', its row in blocks from lo on and below hi -/
structure CI (W : World) (t : TypeId) (lo hi box : Nat) (view : Int) (A : Option Addr) (n c : Nat) (l : List Nod) : Prop where
  blk : Blk W box #[.int .i64 view, .slice A n c] t
  nods : Nods W lo hi A n c l
  his : hi ≤ box
section
variable {W W' : World} {t : TypeId} {lo hi box : Nat} {view : Int} {A : Option Addr} {n c : Nat} {l : List Nod}
theorem CI.lt (h : CI W t lo hi box view A n c l) : box < W.heap.size := h.blk.lt
theorem CI.below (h : CI W t lo hi box view A n c l) (hb : Below W.heap.size W W') : CI W' t lo hi box view A n c l :=
  ⟨h.blk.below hb, h.nods.below hb (by have := h.his; have := h.lt; omega), h.his⟩
theorem CI.alloc (h : CI W t lo hi box view A n c l) (o : Obj) : CI (W.alloc o) t lo hi box view A n c l := h.below ((Below.refl _ _).alloc (Nat.le_refl _) _)
theorem CI.drew (h : CI W t lo hi box view A n c l) : CI W.drew t lo hi box view A n c l := h.below (Below.refl _ _).drew
theorem CI.kept {lo' hi' : Nat} (h : CI W t lo hi box view A n c l) (hk : Kept lo' hi' W W') (hd : box < lo' ∨ hi' ≤ lo ∧ hi' ≤ box) : CI W' t lo hi box view A n c l :=
  ⟨(hk.2.2.2.2 box h.lt (by omega)).trans h.blk, h.nods.keep (fun k h1 h2 => hk.2.2.2.2 k (by have := h.his; have := h.lt; omega) (by have := h.his; omega)), h.his⟩
theorem CI.wide (h : CI W t lo hi box view A n c l) : Nods W 0 W.heap.size A n c l := h.nods.wide (by have := h.his; have := h.lt; omega)
theorem CI.c0 (h : CI W t lo hi box view A n c l) : W.cell? ⟨box, 0, none⟩ = some (.int .i64 view) := h.blk.cell rfl
theorem CI.c1 (h : CI W t lo hi box view A n c l) : W.cell? ⟨box, 1, none⟩ = some (.slice A n c) := h.blk.cell rfl
/-- .. and the row is the call's own -/
structure CR (W : World) (lo hi box : Nat) (view : Int) (A : Option Addr) (n c : Nat) (l : List Nod) : Prop where
  blk : Blk W box #[.int .i64 view, .slice A n c] 25
  row : NodRow W lo hi (.slice A n c) l
  his : hi ≤ box
theorem CR.lt (h : CR W lo hi box view A n c l) : box < W.heap.size := h.blk.lt
theorem CR.below (h : CR W lo hi box view A n c l) (hb : Below W.heap.size W W') : CR W' lo hi box view A n c l :=
  ⟨h.blk.below hb, h.row.below hb (by have := h.his; have := h.lt; omega), h.his⟩
theorem CR.alloc (h : CR W lo hi box view A n c l) (o : Obj) : CR (W.alloc o) lo hi box view A n c l := h.below ((Below.refl _ _).alloc (Nat.le_refl _) _)
theorem CR.drew (h : CR W lo hi box view A n c l) : CR W.drew lo hi box view A n c l := h.below (Below.refl _ _).drew
theorem CR.kept {lo' hi' : Nat} (h : CR W lo hi box view A n c l) (hk : Kept lo' hi' W W') (hd : box < lo' ∨ hi' ≤ lo ∧ hi' ≤ box) : CR W' lo hi box view A n c l :=
  ⟨(hk.2.2.2.2 box h.lt (by omega)).trans h.blk, h.row.keep (fun k h1 h2 => hk.2.2.2.2 k (by have := h.his; have := h.lt; omega) (by have := h.his; omega)), h.his⟩
/-- its own row is marked -/
theorem CR.mark {l' : List Nod} (h : CR W lo hi box view A n c l) (hr : NodRow W' lo hi (.slice A n c) l') (hk : Kept lo hi W W') : CR W' lo hi box view A n c l' :=
  ⟨(hk.2.2.2.2 box h.lt (by have := h.his; omega)).trans h.blk, hr, h.his⟩
theorem CR.ci (h : CR W lo hi box view A n c l) : CI W 25 lo hi box view A n c l := ⟨h.blk, h.row.nods'.2, h.his⟩
theorem CR.new {lo : Nat} (h : NodRow W lo W.heap.size (.slice A n c) l) (view : Int) : CR (W.alloc (.cells #[.int .i64 view, .slice A n c] 25)) lo W.heap.size W.heap.size view A n c l :=
  ⟨Blk.new W _ _, h.keep (fun _ _ hk => Below.heap_alloc _ _ _ hk), Nat.le_refl _⟩
theorem CR.his' (h : CR W lo hi box view A n c l) : hi ≤ W.heap.size := by have := h.his; have := h.lt; omega
end
/-- a chain in new memory, and a second value -/
def ResAt (W : World) (v1 : Int) (l1 : List Nod) (u : Value) (e : Ending) (w' : World) : Prop :=
  ∃ A n c, e = .returned (.tuple #[.agg #[.int .i64 v1, .slice A n c], u]) ∧ l1.length = n ∧ NodRow w' W.heap.size w'.heap.size (.slice A n c) l1 ∧ Below W.heap.size W w'
theorem ChainRes.at_ {w w' : World} {o : Option (Int × List Nod)} {e : Ending} {v1 : Int} {l1 : List Nod} {t1 : Bool} (h : ChainRes w o e w') (h1 : o.getD (0, []) = (v1, l1)) (h2 : o.isSome = t1) : ResAt w v1 l1 (.bool t1) e w' := by
  obtain ⟨v, A, n, c, l, e1, rfl, hl, hrow, hb⟩ := h
  rw [h1] at e1; injection e1 with e1 e2
  subst e1; subst e2; subst h2
  exact ⟨A, n, c, rfl, hl, hrow, hb⟩
theorem optChain_ok {o : Option (Int × List Nod)} {v1 : Int} {l1 : List Nod} (ho : ∀ v l, o = some (v, l) → Good v l) (h1 : o.getD (0, []) = (v1, l1)) : l1.length ≤ 5 ∧ ∀ x ∈ l1, x.log.length ≤ 13 := by
  cases o with
  | none => injection h1 with e1 e2; subst e2; exact ⟨by simp, fun x hx => by cases hx⟩
  | some p => obtain ⟨v', l'⟩ := p; injection h1 with e1 e2; subst e1; subst e2; exact good_ok (ho _ _ rfl)
theorem swapM_good {v u : Int} {l r : List Nod} {old id : Int} (h : swapM v l old id = some (u, r)) : Good u r := by
  unfold swapM at h
  split at h
  · exact addM_good h
  · cases h
end Go.Proofs.Ytcomppiglhibkaa
/- What a reading of the arguments gives: nodes and chains as plain lists. -/
namespace Go.Proofs.Ytcomppiglhibkaa
open Go.ChangeShapes Go.WideShapes Go.ChangeAt Go.RowKit Go.Deep

section
variable {H : Type} {enc : TypeId × Value → H} {P : Program} {W : World}
theorem trod_slice_flat {α : Type} {encE : α → List Value} {sz : Nat} (hsz : 0 < sz) (hs : ∀ x, (encE x).length = sz) {Q : α → Prop} {t e : TypeId} (ht : P.underlying t = some (.slice e)) (hE : P.cellsOf e = sz)
    (hel : ∀ n cs y, DataW.trod enc P W 0 (fun _ => true) true n e cs = some y → ∃ x, cs = encE x ∧ Q x)
    {fuel : Nat} {cs : List Value} {y : DataW H × List MemPlace} (hf : DataW.trod enc P W 0 (fun _ => true) true fuel t cs = some y) :
    ∃ A n c l, cs = [.slice A n c] ∧ Flat encE sz W 0 W.heap.size A n c l ∧ ∀ x ∈ l, Q x := by
  rcases open_slice ht hf with ⟨hcs, _⟩ | ⟨a, len, cap, m, k, D, Pl, hcs, _, hl, hm, hmm, _, hi⟩
  · exact ⟨none, 0, 0, [], hcs, Flat.nil_ _ _ _ _ _, fun _ h => by cases h⟩
  · have hm' : len ≤ m := by rw [hmm]; split <;> omega
    have each : ∀ i : Fin len, ∃ x, Q x ∧ ∀ j u, (encE x)[j]? = some u → W.cell? (a.add (i.1 * sz + j)) = some u := by
      intro i
      obtain ⟨cs', hc, ht'⟩ := hi i.1 (by omega)
      obtain ⟨x, rfl, hq⟩ := hel _ _ _ ht'
      rw [hE] at hc
      obtain ⟨_, _, hat⟩ := World.cells?_some hc
      refine ⟨x, hq, fun j u hu => ?_⟩
      have hj : j < sz := by
        have := (List.getElem?_eq_some_iff.1 hu).1
        rw [hs] at this; exact this
      rw [← Go.Deep.add_add, hat j hj, hu]
    obtain ⟨f, hfs⟩ := Classical.skolem.1 each
    refine ⟨some a, len, cap, List.ofFn f, hcs, ⟨by simp, hl, hm, fun hn => ?_⟩, fun x hx => ?_⟩
    · have hc0 : ∃ u, (encE (f ⟨0, hn⟩))[0]? = some u := by
        have : 0 < (encE (f ⟨0, hn⟩)).length := by rw [hs]; exact hsz
        exact ⟨_, List.getElem?_eq_getElem this⟩
      obtain ⟨u, hu⟩ := hc0
      have h0 := (hfs ⟨0, hn⟩).2 0 u hu
      simp only [Nat.zero_mul, Nat.add_zero, Addr.add, if_true] at h0
      obtain ⟨e1, e2⟩ := plain_addr h0
      refine ⟨a.block, a.off, by rw [← e1], Nat.zero_le _, e2, fun i x hx j u hu => ?_⟩
      have hin : i < len := by have := (List.getElem?_eq_some_iff.1 hx).1; simpa using this
      have hfx : f ⟨i, hin⟩ = x := by
        rw [List.getElem?_ofFn] at hx
        simpa [hin] using hx
      have := (hfs ⟨i, hin⟩).2 j u (by rw [hfx]; exact hu)
      rw [e1] at this
      simp only [Addr.add] at this
      split at this
      · rename_i hz
        have e : a.off + i * sz + j = a.off := by omega
        rw [e]; exact this
      · rw [show a.off + i * sz + j = a.off + (i * sz + j) from by omega]; exact this
    · obtain ⟨i, rfl⟩ := List.mem_ofFn.1 hx
      exact (hfs i).1
end

section
variable {H : Type} {enc : TypeId × Value → H} {W : World}
set_option maxRecDepth 100000 in
/-- a node's three cells, and its log -/
theorem trod_nod {n : Nat} {cs : List Value} {y : DataW H × List MemPlace} (hy : DataW.trod enc Try.prog W 0 (fun _ => true) true n 100 cs = some y) :
    ∃ r : RN, cs = r.enc ∧ ∃ l, Flat Upd.enc 2 W 0 W.heap.size r.A r.n r.c l := by
  have hC : Try.prog.cellsOf 100 = 3 := by kernel_rfl
  have hI : Try.prog.cellsOf 3 = 1 := by kernel_rfl
  have hU : Try.prog.cellsOf 98 = 1 := by kernel_rfl
  obtain ⟨xs, m, _, _, hlen, hxs, hf⟩ := DataW.trod_struct Try.underlying100 hy
  rw [hC] at hlen
  match cs, hlen with
  | [c0, c1, c2], _ =>
    have f0 : DataW.trod enc Try.prog W 0 (fun _ => true) true m 3 (List.take (Try.prog.cellsOf 3) (List.drop 0 [c0, c1, c2])) = xs[0]? := hf 0 _ rfl
    have f1 : DataW.trod enc Try.prog W 0 (fun _ => true) true m 98 (List.take (Try.prog.cellsOf 98) (List.drop 1 [c0, c1, c2])) = xs[1]? := hf 1 _ rfl
    have f2 : DataW.trod enc Try.prog W 0 (fun _ => true) true m 3 (List.take (Try.prog.cellsOf 3) (List.drop 2 [c0, c1, c2])) = xs[2]? := hf 2 _ rfl
    simp only [hI, hU, List.drop_zero, List.drop_succ_cons, List.take_succ_cons, List.take_zero] at f0 f1 f2
    obtain ⟨y0, e0⟩ : ∃ y, xs[0]? = some y := ⟨xs[0]'(by rw [hxs]; decide), List.getElem?_eq_getElem _⟩
    obtain ⟨y1, e1⟩ : ∃ y, xs[1]? = some y := ⟨xs[1]'(by rw [hxs]; decide), List.getElem?_eq_getElem _⟩
    obtain ⟨y2, e2⟩ : ∃ y, xs[2]? = some y := ⟨xs[2]'(by rw [hxs]; decide), List.getElem?_eq_getElem _⟩
    obtain ⟨a, ha, _⟩ := DataW.trod_int Try.underlying3 (f0.trans e0)
    obtain ⟨A, k, c, l, hl, hfl, _⟩ := trod_slice_flat (Q := fun _ => True) (by omega) Upd.len Try.underlying98 (by kernel_rfl) (fun n cs y hy => by
      obtain ⟨x, hx⟩ := trod_upd hy
      exact ⟨x, hx, trivial⟩) (f1.trans e1)
    obtain ⟨b, hb, _⟩ := DataW.trod_int Try.underlying3 (f2.trans e2)
    injection ha with ha _; injection hb with hb _; injection hl with hl _
    exact ⟨⟨a, A, k, c, b⟩, by rw [ha, hb, hl]; rfl, l, hfl⟩

set_option maxRecDepth 100000 in
theorem reads_node {v : Value} {d : DataW H} {p : List MemPlace} (hv : Value.okWide Try.prog W .any 0 100 v) (h : DataW.Trod enc Try.prog W 0 (fun _ => true) true 100 v d p) :
    ∃ id A n c done l, v = .agg #[.int .i64 id, .slice A n c, .int .i64 done] ∧ Flat Upd.enc 2 W 0 W.heap.size A n c l := by
  obtain ⟨cs, rfl, hcs⟩ := okWide_struct Try.underlying100 hv
  obtain ⟨m, hm⟩ := h
  obtain ⟨r, hr, l, hl⟩ := trod_nod hm
  refine ⟨r.id, r.A, r.n, r.c, r.done, l, ?_, hl⟩
  have e : cs.toList = r.enc := hr
  have : cs = r.enc.toArray := by rw [← e]
  rw [this]; rfl

set_option maxRecDepth 100000 in
theorem reads_chain {v : Value} {d : DataW H} {p : List MemPlace} (hv : Value.okWide Try.prog W .any 0 47 v) (h : DataW.Trod enc Try.prog W 0 (fun _ => true) true 47 v d p) :
    ∃ view A n c l, v = .agg #[.int .i64 view, .slice A n c] ∧ Nods W 0 W.heap.size A n c l := by
  obtain ⟨cs, rfl, hcs⟩ := okWide_struct Try.underlying47 hv
  obtain ⟨m, hm⟩ := h
  have hC : Try.prog.cellsOf 47 = 2 := by kernel_rfl
  have hI : Try.prog.cellsOf 3 = 1 := by kernel_rfl
  have hU : Try.prog.cellsOf 45 = 1 := by kernel_rfl
  have hm' : DataW.trod enc Try.prog W 0 (fun _ => true) true m 47 cs.toList = some (d, p) := hm
  obtain ⟨xs, m', _, _, hlen, hxs, hf⟩ := DataW.trod_struct Try.underlying47 hm'
  rw [hC] at hlen
  obtain ⟨L, hL⟩ : ∃ L, L = cs.toList := ⟨_, rfl⟩
  have hcs' : cs = L.toArray := by rw [hL]
  rw [← hL] at hlen hf
  subst hcs'
  match L, hlen with
  | [c0, c1], _ =>
    have f0 : DataW.trod enc Try.prog W 0 (fun _ => true) true m' 3 (List.take (Try.prog.cellsOf 3) (List.drop 0 [c0, c1])) = xs[0]? := hf 0 _ rfl
    have f1 : DataW.trod enc Try.prog W 0 (fun _ => true) true m' 45 (List.take (Try.prog.cellsOf 45) (List.drop 1 [c0, c1])) = xs[1]? := hf 1 _ rfl
    simp only [hI, hU, List.drop_zero, List.drop_succ_cons, List.take_succ_cons, List.take_zero] at f0 f1
    obtain ⟨y0, e0⟩ : ∃ y, xs[0]? = some y := ⟨xs[0]'(by rw [hxs]; decide), List.getElem?_eq_getElem _⟩
    obtain ⟨y1, e1⟩ : ∃ y, xs[1]? = some y := ⟨xs[1]'(by rw [hxs]; decide), List.getElem?_eq_getElem _⟩
    obtain ⟨a, ha, _⟩ := DataW.trod_int Try.underlying3 (f0.trans e0)
    obtain ⟨A, k, c, rs, hl, hfl, hq⟩ := trod_slice_flat (Q := fun r : RN => ∃ l, Flat Upd.enc 2 W 0 W.heap.size r.A r.n r.c l) (by omega) RN.len Try.underlying45 (by kernel_rfl) (fun n cs y hy => trod_nod hy) (f1.trans e1)
    injection ha with ha _; injection hl with hl _
    have each : ∀ i : Fin rs.length, ∃ l, Flat Upd.enc 2 W 0 W.heap.size rs[i].A rs[i].n rs[i].c l := fun i => hq _ (List.getElem_mem _)
    obtain ⟨g, hg⟩ := Classical.skolem.1 each
    refine ⟨a, A, k, c, List.ofFn fun i : Fin rs.length => (⟨rs[i].id, g i, rs[i].done⟩ : Nod), by rw [ha, hl], rs, hfl, by simp, fun i r x hr hx => ?_⟩
    have hi := (List.getElem?_eq_some_iff.1 hr).1
    have hri : rs[i] = r := by rw [List.getElem?_eq_getElem hi] at hr; injection hr
    rw [List.getElem?_ofFn] at hx
    simp only [hi, dif_pos] at hx
    injection hx with hx
    subst hx
    subst hri
    exact ⟨rfl, rfl, hg ⟨i, hi⟩⟩
end
end Go.Proofs.Ytcomppiglhibkaa
