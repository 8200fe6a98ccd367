/- Texts of this claim, joined: Held Mark MarkN MarkC Ex CQ ConvX MarkX EC. -/
import Derived.IntWalk
import Derived.Lib.QuietBelow
import Derived.Test.YtemgilofjbnoaaaGreatDoorWB2
import Derived.Test.YtemgilofjbnoaaaGreatDoorWB1
import Derived.Test.YtemgilofjbnoaaaGreatDoorWQ1
import Derived.Test.YtemgilofjbnoaaaGreatDoorWP1
set_option linter.unusedSimpArgs false
set_option linter.unusedVariables false
namespace Go.Proofs.YtemgilofjbnoaaaGreatDoor
open Go.RowKit
def marks (k : Int) (n : Nat) : List Upd := (List.range n).map fun (i : Nat) => ⟨k + 2 * (i : Int), k + 2 * (i : Int) + 1⟩
theorem marks_get {k : Int} {n i : Nat} {x : Upd} (h : (marks k n)[i]? = some x) : x = ⟨k + 2 * (i : Int), k + 2 * (i : Int) + 1⟩ := by
  simp only [marks, List.getElem?_map, Option.map_eq_some_iff] at h
  obtain ⟨j, hj, rfl⟩ := h
  obtain ⟨_, hj⟩ := List.getElem?_eq_some_iff.1 hj
  simp at hj; subst hj; rfl
theorem marks_length (k : Int) (n : Nat) : (marks k n).length = n := by simp [marks]
theorem marks_at {k : Int} {n i : Nat} (h : i < n) : (marks k n)[i]? = some ⟨k + 2 * (i : Int), k + 2 * (i : Int) + 1⟩ := by
  simp [marks, h]
set_option maxHeartbeats 2000000 in
theorem heldUpdateS_marks (A : Option Addr) (n c : Nat) (s : Int) (w : World) (h : Flat Upd.enc 2 w 0 w.heap.size A n c (marks s n)) (hn : n ≤ 1048576) (hs0 : 0 ≤ s) (hs1 : s ≤ 17592186044416) :
    Calls Mo.prog 85 #[.slice A n c, .int .i64 s] w fun e w' => e = .returned (.int .i64 (s + 2 * (n : Int))) ∧ Below w.heap.size w w' := by
  have H := Lib.hid h
  clear h
  go_enter Mo.func85, Tryz.ntmps85
  go_wp2
  go_loopw [1, 5] (fun v i wr => ∃ k : Nat, k ≤ n ∧ v = .int .i64 (s + 2 * (k : Int)) ∧ i = .int .i64 k ∧ Below w.heap.size w wr) (fun _ i _ => n - (intOf i).toNat)
  case atStart => exact ⟨0, Nat.zero_le _, by simp, rfl, Below.refl _ _⟩
  case round =>
    obtain ⟨k, hk, rfl, rfl, hB⟩ := hrel
    have HW := Lib.hid (H.out.below hB (Nat.le_refl _))
    have HB := Lib.hid hB
    clear hB H
    have q1 : IntKind.i64.wrap (s + 2 * (k : Int) + 1) = s + 2 * (k : Int) + 1 := IntWalk.i64_in _ (by omega)
    have q2 : IntKind.i64.wrap (s + 2 * (k : Int) + 1 + 1) = s + 2 * (k : Int) + 1 + 1 := IntWalk.i64_in _ (by omega)
    by_cases hlt : k < n
    · obtain ⟨b, off, x, rfl, _, _, hx, c0, c1⟩ := HW.out.upd hlt
      obtain rfl := marks_get hx
      clear hx
      have hk0 : (0 : Int) ≤ (k : Int) := by omega
      have hkn : (k : Int) < (n : Int) := by omega
      go_wp2
      go_roundw
      case rel => exact ⟨k + 1, by omega, by congr 1; push_cast; omega, by go_num, HB.out⟩
      case measure => simp [intOf]; omega
    · obtain rfl : k = n := by omega
      go_wp2
      go_ret
      exact ⟨rfl, HB.out⟩
end Go.Proofs.YtemgilofjbnoaaaGreatDoor
namespace Go.Proofs.YtemgilofjbnoaaaGreatDoor
open Go.RowKit
def Kept (lo hi : Nat) (w w' : World) : Prop := w.heap.size ≤ w'.heap.size ∧ w'.os = w.os ∧ w'.tape = w.tape ∧ w'.output = w.output ∧ ∀ b, b < w.heap.size → ¬ (lo ≤ b ∧ b < hi) → w'.heap[b]? = w.heap[b]?
theorem Kept.refl (lo hi : Nat) (w : World) : Kept lo hi w w := ⟨Nat.le_refl _, rfl, rfl, rfl, fun _ _ _ => rfl⟩
theorem Kept.trans {lo hi : Nat} {w w1 w2 : World} (h : Kept lo hi w w1) (h2 : Kept lo hi w1 w2) : Kept lo hi w w2 :=
  ⟨Nat.le_trans h.1 h2.1, h2.2.1.trans h.2.1, h2.2.2.1.trans h.2.2.1, h2.2.2.2.1.trans h.2.2.2.1, fun b hb hn => (h2.2.2.2.2 b (Nat.lt_of_lt_of_le hb h.1) hn).trans (h.2.2.2.2 b hb hn)⟩
theorem Kept.set {lo hi : Nat} {w w1 : World} (h : Kept lo hi w w1) {a : Addr} (h1 : lo ≤ a.block) (h2 : a.block < hi) (v : Value) : Kept lo hi w (w1.setCell a v) :=
  h.trans ⟨by simp [World.setCell], rfl, rfl, rfl, fun b _ hn => Below.heap_setCell _ _ _ _ (fun e => hn (by rw [e]; exact ⟨h1, h2⟩))⟩
theorem Kept.grown {lo hi : Nat} {w w1 w2 : World} {row : Option Nat} (h : Kept lo hi w w1) (hg : w1.grownBy w2 row) (hr : ∀ g, row = some g → lo ≤ g ∧ g < hi) : Kept lo hi w w2 :=
  h.trans ⟨hg.size, hg.os, hg.tape, hg.output, fun b hb hn => hg.block b hb (fun e => hn (hr b e.symm))⟩
theorem Kept.below {lo hi B : Nat} {w w1 : World} (h : Kept lo hi w w1) (hB : B ≤ lo) (hs : B ≤ w.heap.size) : Below B w w1 :=
  ⟨h.2.1, h.2.2.1, h.2.2.2.1, h.1, fun b hb => h.2.2.2.2 b (by omega) (by omega)⟩
theorem grown_set {w w1 : World} {g : Nat} (h : w.grownBy w1 (some g)) (i : Nat) (v : Value) : w.grownBy (w1.setCell ⟨g, i, none⟩ v) (some g) :=
  ⟨h.os, h.tape, h.output, by simpa [World.setCell] using h.size, fun k hk hn => (Below.heap_setCell _ _ _ _ (fun e => hn (by rw [e]))).trans (h.block k hk hn)⟩
theorem grown_refl (w : World) (row : Option Nat) : w.grownBy w row := ⟨rfl, rfl, rfl, Nat.le_refl _, fun _ _ _ => rfl⟩
theorem Filled.take_ {α : Type} {enc : α → List Value} {sz : Nat} {cs : Array Value} {l : List α} {n : Nat} (hs : ∀ x, (enc x).length = sz) (hsz : 0 < sz) (h : Filled enc sz cs l n) (hn : n ≤ l.length) : cs.toList.take (n * sz) = (l.take n).flatMap enc := by
  have hle : n * sz ≤ l.length * sz := Nat.mul_le_mul_right _ hn
  apply List.ext_getElem?
  intro m
  by_cases hm : m < n * sz
  · have hi : m / sz < n := Nat.div_lt_of_lt_mul (by rw [Nat.mul_comm]; exact hm)
    have hj : m % sz < sz := Nat.mod_lt _ hsz
    have e : m = m / sz * sz + m % sz := by have := Nat.div_add_mod m sz; rw [Nat.mul_comm] at this; omega
    have hil : m / sz < l.length := by omega
    have hu : (enc (l[m / sz]))[m % sz]? = some ((enc (l[m / sz]))[m % sz]'(by rw [hs]; exact hj)) := List.getElem?_eq_getElem _
    have h1 := h.2 (m / sz) _ hi (List.getElem?_eq_getElem hil) (m % sz) _ hu
    have h2 := flatMap_get hs (l.take n) (m / sz) _ (by rw [List.getElem?_take, if_pos hi]; exact List.getElem?_eq_getElem hil) (m % sz) _ hu
    rw [← e] at h1 h2
    rw [h2, List.getElem?_take, if_pos hm, Array.getElem?_toList, h1]
  · rw [List.getElem?_eq_none (by rw [List.length_take, Array.length_toList, h.1]; omega), List.getElem?_eq_none (by rw [length_flatMap hs, List.length_take]; rw [Nat.min_eq_left hn]; omega)]
theorem marks_take (s : Int) {n c : Nat} (h : n ≤ c) : (marks s c).take n = marks s n := by
  unfold marks; rw [← List.map_take, List.take_range, Nat.min_eq_left h]
set_option maxHeartbeats 2000000 in
theorem markUpdateS_block (g n c : Nat) (s : Int) (cs0 : Array Value) (w : World) (h : w.heap[g]? = some (.cells cs0 28 (0, 0))) (hz : cs0.size = c * 2) (hnc : n ≤ c) (hn : n ≤ 1048576) (hs0 : 0 ≤ s) (hs1 : s ≤ 17592186044416) :
    Calls Mo.prog 84 #[.slice (some ⟨g, 0, none⟩) n c, .int .i64 s] w fun e w' => e = .returned (.int .i64 (s + 2 * (n : Int))) ∧
      (∃ cs, w'.heap[g]? = some (.cells cs 28 (0, 0)) ∧ Filled Upd.enc 2 cs (marks s c) n) ∧ w.grownBy w' (some g) := by
  have hlt := lt_of_block h
  have H := Lib.hid h
  have HZ := Lib.hid hz
  clear h hz
  go_enter Mo.func84, Tryz.ntmps84
  go_wp2
  go_loopw [1, 5] (fun v i wr => ∃ k : Nat, k ≤ n ∧ v = .int .i64 (s + 2 * (k : Int)) ∧ i = .int .i64 k ∧ Hid (∃ cs, wr.heap[g]? = some (.cells cs 28 (0, 0)) ∧ Filled Upd.enc 2 cs (marks s c) k) ∧ w.grownBy wr (some g)) (fun _ i _ => n - (intOf i).toNat)
  case atStart => exact ⟨0, Nat.zero_le _, by simp, rfl, ⟨cs0, H.out, Filled.zero (by rw [HZ.out, marks_length])⟩, grown_refl _ _⟩
  case round =>
    obtain ⟨k, hk, rfl, rfl, hfill, hB⟩ := hrel
    have HB := Lib.hid hB
    have q1 : IntKind.i64.wrap (s + 2 * (k : Int) + 1) = s + 2 * (k : Int) + 1 := IntWalk.i64_in _ (by omega)
    have q2 : IntKind.i64.wrap (s + 2 * (k : Int) + 1 + 1) = s + 2 * (k : Int) + 1 + 1 := IntWalk.i64_in _ (by omega)
    clear hB
    by_cases hl : k < n
    · obtain ⟨cs, hg, hf⟩ := hfill.out
      have Hg := Lib.hid hg
      have Hf := Lib.hid hf
      have hfs := hf.1
      rw [marks_length] at hfs
      obtain ⟨v0, q0⟩ := row_cell (i := k * 2) hg (by omega)
      obtain ⟨v1, q3⟩ := row_cell (i := k * 2 + 1) hg (by omega)
      have f0 := row_free hg (k * 2)
      have f1 := row_free hg (k * 2 + 1)
      clear hg hf hfill hfs
      have hk0 : (0 : Int) ≤ (k : Int) := by omega
      have hkn : (k : Int) < (n : Int) := by omega
      go_wp2
      go_roundw
      case rel =>
        refine ⟨k + 1, by omega, by congr 1; push_cast; omega, by go_num, ⟨_, heap_setCell_at (heap_setCell_at Hg.out _) _, Filled.step Upd.len Hf.out (marks_at (by omega))⟩, ?_⟩
        exact grown_set (grown_set HB.out _ _) _ _
      case measure => simp [intOf]; omega
    · obtain rfl : k = n := by omega
      obtain ⟨cs, hg, hf⟩ := hfill.out
      have Hg := Lib.hid hg
      have Hf := Lib.hid hf
      clear hg hf hfill
      go_wp2
      go_ret
      exact ⟨rfl, ⟨cs, Hg.out, Hf.out⟩, HB.out⟩
set_option maxHeartbeats 2000000 in
theorem markUpdateS_nil (s : Int) (w : World) :
    Calls Mo.prog 84 #[.slice none 0 0, .int .i64 s] w fun e w' => e = .returned (.int .i64 s) ∧ w = w' := by
  go_enter Mo.func84, Tryz.ntmps84
  go_wp2
  go_loopw [1, 5] (fun v i wr => v = .int .i64 s ∧ i = .int .i64 0 ∧ w = wr) (fun _ _ _ => 0)
  case atStart => exact ⟨rfl, rfl, rfl⟩
  case round =>
    obtain ⟨rfl, rfl, rfl⟩ := hrel
    go_wp2
    go_ret
    exact ⟨rfl, rfl⟩
theorem markUpdateS_own (lo : Nat) (A : Option Addr) (n c : Nat) (xs : List Value) (s : Int) (w : World) (h : w.ownsRow lo 28 2 (.slice A n c) n xs) (hn : n ≤ 1048576) (hs0 : 0 ≤ s) (hs1 : s ≤ 17592186044416) :
    Calls Mo.prog 84 #[.slice A n c, .int .i64 s] w fun e w' => e = .returned (.int .i64 (s + 2 * (n : Int))) ∧
      w'.ownsRow lo 28 2 (.slice A n c) n ((marks s n).flatMap Upd.enc) ∧ w.grownBy w' (Value.slice A n c).ownBlock := by
  rcases h.2 with ⟨hv, h0⟩ | ⟨g, cap, cur, hv, hlo, hg, hnc, hm, hcs, _⟩
  · injection hv with e1 e2 e3
    subst e1; subst e2; subst e3
    refine (markUpdateS_nil s w).mono ?_
    rintro e w' ⟨rfl, rfl⟩
    exact ⟨by simp, World.ownsRow_nil _ _ _ _, grown_refl _ _⟩
  · injection hv with e1 e2 e3
    subst e1; subst e3
    refine (markUpdateS_block g n c s cur w hg hcs hnc hn hs0 hs1).mono ?_
    rintro e w' ⟨rfl, ⟨cs, hg', hf⟩, hgr⟩
    refine ⟨rfl, ⟨by rw [length_flatMap Upd.len, marks_length], .inr ⟨g, c, cs, rfl, hlo, hg', hnc, hm, by have := hf.1; rwa [marks_length] at this, ?_⟩⟩, hgr⟩
    rw [Filled.take_ Upd.len (by omega) hf (by rw [marks_length]; exact hnc), marks_take s hnc]
end Go.Proofs.YtemgilofjbnoaaaGreatDoor
namespace Go.Proofs.YtemgilofjbnoaaaGreatDoor
open Go.RowKit
def mk (s : Int) (l : List Nod) : Nat → Int
  | 0 => s
  | k + 1 => mk s l k + 2 * ((match l[k]? with | some x => x.log.length | none => 0 : Nat) : Int) + 2
def mkNod (v : Int) (m : Nat) : Nod := ⟨v, marks (v + 1) m, v + 1 + 2 * (m : Int)⟩
def mkd (s : Int) (l : List Nod) : Nat → List Nod
  | 0 => l
  | k + 1 => (mkd s l k).set k (mkNod (mk s l k) (match l[k]? with | some x => x.log.length | none => 0))
theorem mk_succ {s : Int} {l : List Nod} {k : Nat} {x : Nod} (hx : l[k]? = some x) : mk s l (k + 1) = mk s l k + 2 * (x.log.length : Int) + 2 := by simp [mk, hx]
theorem mkd_succ {s : Int} {l : List Nod} {k : Nat} {x : Nod} (hx : l[k]? = some x) : mkd s l (k + 1) = (mkd s l k).set k (mkNod (mk s l k) x.log.length) := by simp [mkd, hx]
theorem mkd_length (s : Int) (l : List Nod) (k : Nat) : (mkd s l k).length = l.length := by
  induction k with
  | zero => rfl
  | succ k ih => rw [mkd, List.length_set, ih]
theorem mkd_ge (s : Int) (l : List Nod) {k j : Nat} (h : k ≤ j) : (mkd s l k)[j]? = l[j]? := by
  induction k with
  | zero => rfl
  | succ k ih => rw [mkd, List.getElem?_set_ne (by omega), ih (by omega)]
theorem mkd_lt {s : Int} {l : List Nod} {k j : Nat} {x : Nod} (h : j < k) (hx : l[j]? = some x) : (mkd s l k)[j]? = some (mkNod (mk s l j) x.log.length) := by
  induction k with
  | zero => omega
  | succ k ih =>
    by_cases e : j = k
    · subst e
      have hj := (List.getElem?_eq_some_iff.1 hx).1
      rw [mkd_succ hx, List.getElem?_set_self (by rw [mkd_length]; exact hj)]
    · rw [mkd, List.getElem?_set_ne (by omega), ih (by omega)]
theorem mk_bd {s : Int} {l : List Nod} (h : ∀ x ∈ l, x.log.length ≤ 1048576) (k : Nat) : s ≤ mk s l k ∧ mk s l k ≤ s + 2097154 * (k : Int) := by
  induction k with
  | zero => simp [mk]
  | succ k ih =>
    unfold mk
    cases hx : l[k]? with
    | none => simp only []; push_cast; omega
    | some x =>
      have := h x (List.mem_of_getElem? hx)
      simp only []; push_cast; omega
section
variable {w w' : World} {lo hi : Nat} {v : Value} {l : List Nod}
theorem NodRow.openLog {g n c k : Nat} (h : NodRow w lo hi (.slice (some ⟨g, 0, none⟩) n c) l) (hk : k < l.length) :
    ∃ x A' m d, l[k]? = some x ∧ w.cell? ⟨g, k * 3, none⟩ = some (.int .i64 x.id) ∧ w.cell? ⟨g, k * 3 + 1, none⟩ = some (.slice A' m d) ∧ w.cell? ⟨g, k * 3 + 2, none⟩ = some (.int .i64 x.done) ∧ x.log.length = m ∧
      w.ownsRow lo 28 2 (.slice A' m d) m (x.log.flatMap Upd.enc) ∧ (∀ q, (Value.slice A' m d).ownBlock = some q → lo ≤ q ∧ q < hi ∧ q ≠ g) ∧
      (∀ (w' : World) (lg : List Upd), lg.length = m → w'.ownsRow lo 28 2 (.slice A' m d) m (lg.flatMap Upd.enc) → w.grownBy w' (Value.slice A' m d).ownBlock → NodRow w' lo hi (.slice (some ⟨g, 0, none⟩) n c) (l.set k { x with log := lg })) := by
  obtain rfl : n = l.length := h.nods'.1
  obtain ⟨rs, ho, hv, hl, hr, hd⟩ := h
  have hx : l[k]? = some l[k] := List.getElem?_eq_getElem hk
  have hrk : rs[k]? = some (rs[k]'(by omega)) := List.getElem?_eq_getElem _
  obtain ⟨a1, a2, a3, a4, a5⟩ := hr k _ _ hrk hx
  have hcell : ∀ j u, ((rs[k]'(by omega)).enc)[j]? = some u → w.cell? ⟨g, k * 3 + j, none⟩ = some u := fun j u hu => by
    have hj : j < 3 := by have := (List.getElem?_eq_some_iff.1 hu).1; rw [RN.len] at this; exact this
    have hlt : k * 3 + j < l.length * 3 := by omega
    rw [ho.cellAt (k * 3 + j) hlt, flatMap_get RN.len rs k _ hrk j u hu]
  have offg : ∀ {A : Option Addr} {m c' : Nat} {xs : List Value} {lo' : Nat}, w.ownsRow lo' 28 2 (.slice A m c') m xs → ∀ q, (Value.slice A m c').ownBlock = some q → q ≠ g := fun hh q hq e => by
    subst e
    exact own_part hh ho (by decide) hq rfl
  refine ⟨_, (rs[k]'(by omega)).A, (rs[k]'(by omega)).n, (rs[k]'(by omega)).c, hx, ?_, hcell 1 _ rfl, ?_, a3, a4, fun q hq => ⟨(a4.lt q hq).1, a5 q hq, offg a4 q hq⟩, fun w' lg hlg hown hgr => ?_⟩
  · rw [← a1]; exact hcell 0 _ rfl
  · rw [← a2]; exact hcell 2 _ rfl
  · refine ⟨rs, by rw [List.length_set]; exact own_keep ho (fun q hq => hgr.block q (ho.lt q hq).2 (fun e => offg a4 q e.symm (by simpa [Value.ownBlock] using hq.symm))), hv, by simp [hl], fun i r y h1 h2 => ?_, hd⟩
    by_cases hik : k = i
    · subst hik
      rw [List.getElem?_set_self (by omega)] at h2
      injection h2 with h2
      rw [hrk] at h1; injection h1 with h1
      subst h1; subst h2
      exact ⟨a1, a2, hlg, hown, a5⟩
    · rw [List.getElem?_set_ne hik] at h2
      obtain ⟨b1, b2, b3, b4, b5⟩ := hr i r y h1 h2
      refine ⟨b1, b2, b3, own_keep b4 (fun q hq => hgr.block q (b4.lt q hq).2 (fun e => ?_)), b5⟩
      rcases Nat.lt_or_gt_of_ne hik with hlt | hlt
      · exact hd k i _ r q hrk h1 hlt e.symm hq
      · exact hd i k r _ q h1 hrk hlt hq e.symm
end
set_option maxHeartbeats 4000000 in
theorem markNodeS_row (g n c lo hi : Nat) (l : List Nod) (s : Int) (w : World) (h : NodRow w lo hi (.slice (some ⟨g, 0, none⟩) n c) l) (hn : n ≤ 1048576) (hlog : ∀ x ∈ l, x.log.length ≤ 1048576) (hs0 : 0 ≤ s) (hs1 : s ≤ 2097154) :
    Calls Mo.prog 56 #[.slice (some ⟨g, 0, none⟩) n c, .int .i64 s] w fun e w' => e = .returned (.int .i64 (mk s l n)) ∧
      NodRow w' lo hi (.slice (some ⟨g, 0, none⟩) n c) (mkd s l n) ∧ Kept lo hi w w' := by
  have hln := h.nods'.1
  have hgb : lo ≤ g ∧ g < hi := by
    obtain ⟨rs, ho, hv, _⟩ := h
    exact ⟨(ho.lt g rfl).1, hv g rfl⟩
  have MB := Lib.hid (fun k => mk_bd (s := s) hlog k)
  have H := Lib.hid h
  have HL := Lib.hid hln
  have HG := Lib.hid hlog
  clear h hln hlog
  go_enter Mo.func56, Tryz.ntmps56
  go_wp2
  go_loopw [1, 5] (fun v i wr => ∃ (k : Nat) (u : Int), k ≤ n ∧ v = .int .i64 u ∧ i = .int .i64 k ∧ Hid (u = mk s l k) ∧ Hid (NodRow wr lo hi (.slice (some ⟨g, 0, none⟩) n c) (mkd s l k)) ∧ Kept lo hi w wr) (fun _ i _ => n - (intOf i).toNat)
  case atStart => exact ⟨0, s, Nat.zero_le _, rfl, rfl, rfl, H.out, Kept.refl _ _ _⟩
  case round =>
    obtain ⟨k, u, hk, rfl, rfl, HU, HR, hK⟩ := hrel
    have HK := Lib.hid hK
    clear hK
    have hb := MB.out k
    rw [← HU.out] at hb
    by_cases hl : k < n
    · obtain ⟨x, A1, m1, d1, hx, c0, c1, c2, hm, _, _, _⟩ := HR.out.openLog (k := k) (by rw [mkd_length, ← HL.out]; exact hl)
      have hx' : l[k]? = some x := by rw [← hx]; exact (mkd_ge s l (Nat.le_refl k)).symm
      have HX := Lib.hid hx'
      have hlen := HG.out x (List.mem_of_getElem? hx')
      have H2 := Lib.hid (by have := HR.out.setId hx u; simp only [Nat.add_zero] at this; exact this)
      obtain ⟨y, A2, m2, d2, hy, _, e1, e2, hm2, ho2, hq2, hup2⟩ := H2.out.openLog (k := k) (by rw [List.length_set, mkd_length, ← HL.out]; exact hl)
      have hyx : y = { x with id := u } := by
        rw [List.getElem?_set_self (by rw [mkd_length, ← HL.out]; exact hl)] at hy; injection hy with hy; exact hy.symm
      have hm2' : m2 ≤ 1048576 := by rw [← hm2, hyx]; exact hlen
      have HM := Lib.hid (show m2 = x.log.length by rw [← hm2, hyx])
      have HY := Lib.hid hyx
      have O2 := Lib.hid ho2
      have Q2 := Lib.hid hq2
      have U2 := Lib.hid hup2
      have f0 : wr.frozen? ⟨g, k * 3, none⟩ = false := by
        obtain ⟨_, _, _, _, _, _, _, _, _, _, hfr⟩ := HR.out.at_ (k := k) (by rw [mkd_length, ← HL.out]; exact hl)
        exact hfr _
      clear hx hx' hm hlen hy hm2 hyx ho2 hq2 hup2
      have hk0 : (0 : Int) ≤ (k : Int) := by omega
      have hkn : (k : Int) < (n : Int) := by omega
      have q1 : IntKind.i64.wrap (u + 1) = u + 1 := IntWalk.i64_in _ (by omega)
      go_wp2_with fail
      refine (markUpdateS_own lo A2 m2 d2 _ (u + 1) _ O2.out hm2' (by omega) (by omega)).mono ?_
      rintro e w3 ⟨rfl, hown3, hg3⟩
      have hr3 := U2.out w3 _ (marks_length _ _) hown3 hg3
      obtain ⟨z, A4, m4, d4, hz, _, _, t2, _, _, hfr⟩ := hr3.at_ (k := k) (by rw [List.length_set, List.length_set, mkd_length, ← HL.out]; exact hl)
      have f2 := hfr (k * 3 + 2)
      have S3 := Lib.hid (hr3.setDone hz (u + 1 + 2 * (m2 : Int)))
      have HZ := Lib.hid hz
      have K3 := Lib.hid ((HK.out.set (a := ⟨g, k * 3, none⟩) hgb.1 hgb.2 (.int .i64 u)).grown hg3 (fun q hq => ⟨(Q2.out q hq).1, (Q2.out q hq).2.1⟩))
      have q2 : IntKind.i64.wrap (u + 1 + 2 * (m2 : Int) + 1) = u + 1 + 2 * (m2 : Int) + 1 := IntWalk.i64_in _ (by omega)
      clear hown3 hg3 hr3 hz hfr e1 e2 c0 c1 c2
      go_wp2_with fail
      go_roundw
      case rel =>
        refine ⟨k + 1, u + 1 + 2 * (m2 : Int) + 1, by omega, rfl, by go_num, ?_, ?_, K3.out.set (a := ⟨g, k * 3 + 2, none⟩) hgb.1 hgb.2 _⟩
        · show _ = _
          rw [mk_succ HX.out, ← HU.out, ← HM.out]; omega
        · have h3 := S3.out
          have ez : z = ⟨u, marks (u + 1) m2, z.done⟩ := by
            have := HZ.out
            rw [List.getElem?_set_self (by rw [List.length_set, mkd_length, ← HL.out]; exact hl)] at this
            injection this with this
            rw [← this, HY.out]
          rw [List.set_set, List.set_set, ez] at h3
          show NodRow _ _ _ _ _
          rw [mkd_succ HX.out, ← HU.out, ← HM.out]
          exact h3
      case measure => simp [intOf]; omega
    · obtain rfl : k = n := by omega
      go_wp2
      go_ret
      exact ⟨ret_int HU.out, HR.out, HK.out⟩
end Go.Proofs.YtemgilofjbnoaaaGreatDoor
namespace Go.Proofs.YtemgilofjbnoaaaGreatDoor
open Go.RowKit
theorem Kept.alloc {lo hi : Nat} {w w1 : World} (h : Kept lo hi w w1) (o : Obj) : Kept lo hi w (w1.alloc o) :=
  h.trans ⟨by simp, rfl, rfl, rfl, fun b hb _ => Below.heap_alloc _ _ _ hb⟩
set_option maxHeartbeats 2000000 in
theorem markNodeS_nil (s : Int) (w : World) :
    Calls Mo.prog 56 #[.slice none 0 0, .int .i64 s] w fun e w' => e = .returned (.int .i64 s) ∧ w = w' := by
  go_enter Mo.func56, Tryz.ntmps56
  go_wp2
  go_loopw [1, 5] (fun v i wr => v = .int .i64 s ∧ i = .int .i64 0 ∧ w = wr) (fun _ _ _ => 0)
  case atStart => exact ⟨rfl, rfl, rfl⟩
  case round =>
    obtain ⟨rfl, rfl, rfl⟩ := hrel
    go_wp2
    go_ret
    exact ⟨rfl, rfl⟩
theorem markNodeS_any (lo hi : Nat) (A : Option Addr) (n c : Nat) (l : List Nod) (s : Int) (w : World) (h : NodRow w lo hi (.slice A n c) l) (hn : n ≤ 1048576) (hlog : ∀ x ∈ l, x.log.length ≤ 1048576) (hs0 : 0 ≤ s) (hs1 : s ≤ 2097154) :
    Calls Mo.prog 56 #[.slice A n c, .int .i64 s] w fun e w' => e = .returned (.int .i64 (mk s l n)) ∧
      NodRow w' lo hi (.slice A n c) (mkd s l n) ∧ Kept lo hi w w' := by
  have ho : ∃ rs : List RN, w.ownsRow lo 78 3 (.slice A n c) l.length (rs.flatMap RN.enc) := by obtain ⟨rs, ho, _⟩ := h; exact ⟨rs, ho⟩
  obtain ⟨rs, ho⟩ := ho
  rcases ho.2 with ⟨hv, h0⟩ | ⟨g, cap, cur, hv, _⟩
  · injection hv with e1 e2 e3
    subst e1; subst e2; subst e3
    have hl : l = [] := List.eq_nil_of_length_eq_zero h0
    subst hl
    refine (markNodeS_nil s w).mono ?_
    rintro e w' ⟨rfl, rfl⟩
    exact ⟨rfl, h, Kept.refl _ _ _⟩
  · injection hv with e1 e2 e3
    subst e1
    exact markNodeS_row g n c lo hi l s w h hn hlog hs0 hs1
set_option maxHeartbeats 2000000 in
theorem markChain_any (lo hi : Nat) (view : Int) (A : Option Addr) (n c : Nat) (l : List Nod) (s : Int) (w : World) (h : NodRow w lo hi (.slice A n c) l) (hhi : hi ≤ w.heap.size) (hn : n ≤ 1048576) (hlog : ∀ x ∈ l, x.log.length ≤ 1048576) (hs0 : 0 ≤ s) (hs1 : s ≤ 2097154) :
    Calls Mo.prog 24 #[.agg #[.int .i64 view, .slice A n c], .int .i64 s] w fun e w' => e = .returned (.int .i64 (mk s l n)) ∧
      NodRow w' lo hi (.slice A n c) (mkd s l n) ∧ Kept lo hi w w' := by
  have H := Lib.hid (h.keep (w' := w.alloc (.cells #[.int .i64 view, .slice A n c] 25)) (fun k _ hk => Below.heap_alloc _ _ _ (by omega)))
  have HG := Lib.hid hlog
  have KB := Lib.hid (Kept.alloc (Kept.refl lo hi w) (.cells #[.int .i64 view, .slice A n c] 25))
  clear h hlog
  obtain ⟨v, hv⟩ : ∃ v, mk s l n = v := ⟨_, rfl⟩
  rw [hv]
  have HV := Lib.hid hv
  clear hv
  go_enter Mo.func24, Tryz.ntmps24
  go_wp2_with fail
  refine (markNodeS_any lo hi _ _ _ l s _ H.out hn HG.out hs0 hs1).mono ?_
  rintro e w1 ⟨rfl, hr1, hk1⟩
  rw [HV.out]
  have R1 := Lib.hid hr1
  have K1 := Lib.hid (KB.out.trans hk1)
  clear hr1 hk1
  go_wp2
  go_ret
  exact ⟨rfl, R1.out, K1.out⟩
theorem below_cell_ {w w' : World} {a : Addr} {v : Value} (hb : Below w.heap.size w w') (h : w.cell? a = some v) : w'.cell? a = some v := (hb.cell (World.block_lt_of_cell? w a h)).trans h
set_option maxHeartbeats 4000000 in
theorem heldNodeS_marks (A : Option Addr) (n c : Nat) (l : List Nod) (s : Int) (w : World) (h : Nods w 0 w.heap.size A n c (mkd s l n)) (hn : n ≤ 1048576) (hlog : ∀ x ∈ l, x.log.length ≤ 1048576) (hs0 : 0 ≤ s) (hs1 : s ≤ 2097154) :
    Calls Mo.prog 57 #[.slice A n c, .int .i64 s] w fun e w' => e = .returned (.int .i64 (mk s l n)) ∧ Below w.heap.size w w' := by
  have hln := h.len
  rw [mkd_length] at hln
  have MB := Lib.hid (fun k => mk_bd (s := s) hlog k)
  have H := Lib.hid h
  have HL := Lib.hid hln
  have HG := Lib.hid hlog
  clear h hln hlog
  go_enter Mo.func57, Tryz.ntmps57
  go_wp2
  go_loopw [1, 5] (fun v i wr => ∃ (k : Nat) (u : Int), k ≤ n ∧ v = .int .i64 u ∧ i = .int .i64 k ∧ Hid (u = mk s l k) ∧ Below w.heap.size w wr) (fun _ i _ => n - (intOf i).toNat)
  case atStart => exact ⟨0, s, Nat.zero_le _, rfl, rfl, rfl, Below.refl _ _⟩
  case round =>
    obtain ⟨k, u, hk, rfl, rfl, HU, hB⟩ := hrel
    have HW := Lib.hid (H.out.below hB (Nat.le_refl _))
    have HB := Lib.hid hB
    have hsz := hB.size
    clear hB
    have hb := MB.out k
    rw [← HU.out] at hb
    by_cases hl : k < n
    · have hx : l[k]? = some (l[k]'(by rw [HL.out]; exact hl)) := List.getElem?_eq_getElem _
      obtain ⟨x, hxe⟩ : ∃ x, x = l[k]'(by rw [HL.out]; exact hl) := ⟨_, rfl⟩
      rw [← hxe] at hx
      clear hxe
      have hm := HG.out x (List.mem_of_getElem? hx)
      obtain ⟨b, off, y, A1, m, d1, rfl, _, _, hy, c0, c1, c2, hf⟩ := HW.out.nod (k := k) hl
      have hye : y = mkNod u x.log.length := by
        have := mkd_lt (s := s) hl hx
        rw [hy] at this; injection this with this
        rw [this, HU.out]
      have hml : m = x.log.length := by have := hf.len; rw [hye] at this; rw [← this]; exact marks_length _ _
      have F := Lib.hid (show Flat Upd.enc 2 wr 0 wr.heap.size A1 m d1 (marks (u + 1) m) by
        have := hf.mono (Nat.zero_le _) hsz
        rw [hye] at this; rw [hml]; rw [hml] at this; exact this)
      have c0' : wr.cell? ⟨b, off + k * 3, none⟩ = some (.int .i64 u) := by rw [c0, hye]; rfl
      have c2' : wr.cell? ⟨b, off + k * 3 + 2, none⟩ = some (.int .i64 (u + 1 + 2 * (m : Int))) := by rw [c2, hye, hml]; rfl
      have HX := Lib.hid hx
      have HM := Lib.hid hml
      rw [← hml] at hm
      clear hx hy hye hml hf c0 c2
      have hk0 : (0 : Int) ≤ (k : Int) := by omega
      have hkn : (k : Int) < (n : Int) := by omega
      have q1 : IntKind.i64.wrap (u + 1) = u + 1 := IntWalk.i64_in _ (by omega)
      have e1 : (u != u) = false := by simp
      have e2 : (u + 1 + 2 * (m : Int) != u + 1 + 2 * (m : Int)) = false := by simp
      have e3 : ¬ (u + 1 + 2 * (m : Int) < 0) := by omega
      go_wp2_with fail
      refine (heldUpdateS_marks A1 m d1 (u + 1) wr F.out hm (by omega) (by omega)).mono ?_
      rintro e w1 ⟨rfl, hb1⟩
      have B1 := Lib.hid (HB.out.trans (hb1.mono hsz))
      have c3 := below_cell_ hb1 c2'
      have q2 : IntKind.i64.wrap (u + 1 + 2 * (m : Int) + 1) = u + 1 + 2 * (m : Int) + 1 := IntWalk.i64_in _ (by omega)
      clear hb1 c0' c1 c2'
      go_wp2
      go_roundw
      case rel =>
        refine ⟨k + 1, u + 1 + 2 * (m : Int) + 1, by omega, rfl, by go_num, ?_, B1.out⟩
        show _ = _
        rw [mk_succ HX.out, ← HU.out, ← HM.out]; omega
      case measure => simp [intOf]; omega
    · obtain rfl : k = n := by omega
      go_wp2
      go_ret
      exact ⟨ret_int HU.out, HB.out⟩
set_option maxHeartbeats 2000000 in
theorem heldChain_marks (view : Int) (A : Option Addr) (n c : Nat) (l : List Nod) (s : Int) (w : World) (h : Nods w 0 w.heap.size A n c (mkd s l n)) (hn : n ≤ 1048576) (hlog : ∀ x ∈ l, x.log.length ≤ 1048576) (hs0 : 0 ≤ s) (hs1 : s ≤ 2097154) :
    Calls Mo.prog 26 #[.agg #[.int .i64 view, .slice A n c], .int .i64 s] w fun e w' => e = .returned (.int .i64 (mk s l n)) ∧ Below w.heap.size w w' := by
  have hv0 := (mk_bd (s := s) hlog n).1
  have H := Lib.hid (h.box (.cells #[.int .i64 view, .slice A n c] 25))
  have HG := Lib.hid hlog
  clear h hlog
  obtain ⟨v, hv⟩ : ∃ v, mk s l n = v := ⟨_, rfl⟩
  rw [hv]
  rw [hv] at hv0
  have HV := Lib.hid hv
  have hv1 : ¬ v < 0 := by omega
  clear hv
  go_enter Mo.func26, Tryz.ntmps26
  go_wp2_with fail
  refine (heldNodeS_marks _ _ _ l s _ H.out hn HG.out hs0 hs1).mono ?_
  rintro e w1 ⟨rfl, hb1⟩
  rw [HV.out]
  have B1 := Lib.hid (below_box hb1)
  clear hb1
  go_wp2
  go_ret
  exact ⟨rfl, B1.out⟩
end Go.Proofs.YtemgilofjbnoaaaGreatDoor
namespace Go.Proofs.YtemgilofjbnoaaaGreatDoor
open Go.RowKit
structure CI (W : World) (t : TypeId) (lo hi box : Nat) (view : Int) (A : Option Addr) (n c : Nat) (l : List Nod) : Prop where
  blk : Blk W box #[.int .i64 view, .slice A n c] t
  nods : Nods W lo hi A n c l
  his : hi ≤ box
section
variable {W W' : World} {t : TypeId} {lo hi box : Nat} {view : Int} {A : Option Addr} {n c : Nat} {l : List Nod}
theorem CI.lt (h : CI W t lo hi box view A n c l) : box < W.heap.size := h.blk.lt
theorem CI.below (h : CI W t lo hi box view A n c l) (hb : Below W.heap.size W W') : CI W' t lo hi box view A n c l :=
  ⟨h.blk.below hb, h.nods.below hb (by have := h.his; have := h.lt; omega), h.his⟩
theorem CI.alloc (h : CI W t lo hi box view A n c l) (o : Obj) : CI (W.alloc o) t lo hi box view A n c l := h.below ((Below.refl _ _).alloc (Nat.le_refl _) _)
theorem CI.drew (h : CI W t lo hi box view A n c l) : CI W.drew t lo hi box view A n c l := h.below (Below.refl _ _).drew
theorem CI.kept {lo' hi' : Nat} (h : CI W t lo hi box view A n c l) (hk : Kept lo' hi' W W') (hd : box < lo' ∨ hi' ≤ lo ∧ hi' ≤ box) : CI W' t lo hi box view A n c l :=
  ⟨(hk.2.2.2.2 box h.lt (by omega)).trans h.blk, h.nods.keep (fun k h1 h2 => hk.2.2.2.2 k (by have := h.his; have := h.lt; omega) (by have := h.his; omega)), h.his⟩
theorem CI.wide (h : CI W t lo hi box view A n c l) : Nods W 0 W.heap.size A n c l := h.nods.wide (by have := h.his; have := h.lt; omega)
theorem CI.c0 (h : CI W t lo hi box view A n c l) : W.cell? ⟨box, 0, none⟩ = some (.int .i64 view) := h.blk.cell rfl
theorem CI.c1 (h : CI W t lo hi box view A n c l) : W.cell? ⟨box, 1, none⟩ = some (.slice A n c) := h.blk.cell rfl
structure CRx (W : World) (lo hi box : Nat) (view : Int) (A : Option Addr) (n c : Nat) (l : List Nod) : Prop where
  blk : Blk W box #[.int .i64 view, .slice A n c] 25
  row : NodRow W lo hi (.slice A n c) l
  his : hi ≤ box
theorem CRx.lt (h : CRx W lo hi box view A n c l) : box < W.heap.size := h.blk.lt
theorem CRx.below (h : CRx W lo hi box view A n c l) (hb : Below W.heap.size W W') : CRx W' lo hi box view A n c l :=
  ⟨h.blk.below hb, h.row.below hb (by have := h.his; have := h.lt; omega), h.his⟩
theorem CRx.alloc (h : CRx W lo hi box view A n c l) (o : Obj) : CRx (W.alloc o) lo hi box view A n c l := h.below ((Below.refl _ _).alloc (Nat.le_refl _) _)
theorem CRx.drew (h : CRx W lo hi box view A n c l) : CRx W.drew lo hi box view A n c l := h.below (Below.refl _ _).drew
theorem CRx.kept {lo' hi' : Nat} (h : CRx W lo hi box view A n c l) (hk : Kept lo' hi' W W') (hd : box < lo' ∨ hi' ≤ lo ∧ hi' ≤ box) : CRx W' lo hi box view A n c l :=
  ⟨(hk.2.2.2.2 box h.lt (by omega)).trans h.blk, h.row.keep (fun k h1 h2 => hk.2.2.2.2 k (by have := h.his; have := h.lt; omega) (by have := h.his; omega)), h.his⟩
theorem CRx.mark {l' : List Nod} (h : CRx W lo hi box view A n c l) (hr : NodRow W' lo hi (.slice A n c) l') (hk : Kept lo hi W W') : CRx W' lo hi box view A n c l' :=
  ⟨(hk.2.2.2.2 box h.lt (by have := h.his; omega)).trans h.blk, hr, h.his⟩
theorem CRx.ci (h : CRx W lo hi box view A n c l) : CI W 25 lo hi box view A n c l := ⟨h.blk, h.row.nods'.2, h.his⟩
theorem CRx.new {lo : Nat} (h : NodRow W lo W.heap.size (.slice A n c) l) (view : Int) : CRx (W.alloc (.cells #[.int .i64 view, .slice A n c] 25)) lo W.heap.size W.heap.size view A n c l :=
  ⟨Blk.new W _ _, h.keep (fun _ _ hk => Below.heap_alloc _ _ _ hk), Nat.le_refl _⟩
theorem CRx.his' (h : CRx W lo hi box view A n c l) : hi ≤ W.heap.size := by have := h.his; have := h.lt; omega
end
def ResAt (W : World) (v1 : Int) (l1 : List Nod) (u : Value) (e : Ending) (w' : World) : Prop :=
  ∃ A n c, e = .returned (.tuple #[.agg #[.int .i64 v1, .slice A n c], u]) ∧ l1.length = n ∧ NodRow w' W.heap.size w'.heap.size (.slice A n c) l1 ∧ Below W.heap.size W w'
theorem ChainRes.at_ {w w' : World} {o : Option (Int × List Nod)} {e : Ending} {v1 : Int} {l1 : List Nod} {t1 : Bool} (h : ChainRes w o e w') (h1 : o.getD (0, []) = (v1, l1)) (h2 : o.isSome = t1) : ResAt w v1 l1 (.bool t1) e w' := by
  obtain ⟨v, A, n, c, l, e1, rfl, hl, hrow, hb⟩ := h
  rw [h1] at e1; injection e1 with e1 e2
  subst e1; subst e2; subst h2
  exact ⟨A, n, c, rfl, hl, hrow, hb⟩
end Go.Proofs.YtemgilofjbnoaaaGreatDoor
namespace Go.Proofs.YtemgilofjbnoaaaGreatDoor
open Go.RowKit
structure CQ (W : World) (lo hi rlo rhi g : Nat) (view : Int) (A : Option Addr) (n c : Nat) (l : List Nod) : Prop where
  blk : Blk W g #[.int .i64 view, .slice A n c] 25
  row : NodRow W rlo rhi (.slice A n c) l
  out : g < rlo ∨ rhi ≤ g
  b0 : lo ≤ g ∧ g < hi
  b1 : lo ≤ rlo ∧ rhi ≤ hi
  b2 : hi ≤ W.heap.size
section
variable {W W' : World} {lo hi rlo rhi g : Nat} {view : Int} {A : Option Addr} {n c : Nat} {l : List Nod}
theorem CQ.below (h : CQ W lo hi rlo rhi g view A n c l) (hb : Below W.heap.size W W') : CQ W' lo hi rlo rhi g view A n c l :=
  ⟨h.blk.below hb, h.row.below hb (by have := h.b1; have := h.b2; omega), h.out, h.b0, h.b1, Nat.le_trans h.b2 hb.size⟩
theorem CQ.alloc (h : CQ W lo hi rlo rhi g view A n c l) (o : Obj) : CQ (W.alloc o) lo hi rlo rhi g view A n c l := h.below ((Below.refl _ _).alloc (Nat.le_refl _) _)
theorem CQ.drew (h : CQ W lo hi rlo rhi g view A n c l) : CQ W.drew lo hi rlo rhi g view A n c l := h.below (Below.refl _ _).drew
theorem CQ.kept {lo' hi' : Nat} (h : CQ W lo hi rlo rhi g view A n c l) (hk : Kept lo' hi' W W') (hd : hi ≤ lo' ∨ hi' ≤ lo) : CQ W' lo hi rlo rhi g view A n c l :=
  ⟨(hk.2.2.2.2 g (by have := h.b0; have := h.b2; omega) (by have := h.b0; omega)).trans h.blk, h.row.keep (fun k h1 h2 => hk.2.2.2.2 k (by have := h.b1; have := h.b2; omega) (by have := h.b1; omega)), h.out, h.b0, h.b1, Nat.le_trans h.b2 hk.1⟩
theorem CQ.mark {l' : List Nod} (h : CQ W lo hi rlo rhi g view A n c l) (hr : NodRow W' rlo rhi (.slice A n c) l') (hk : Kept rlo rhi W W') : CQ W' lo hi rlo rhi g view A n c l' :=
  ⟨(hk.2.2.2.2 g (by have := h.b0; have := h.b2; omega) (by have := h.out; omega)).trans h.blk, hr, h.out, h.b0, h.b1, Nat.le_trans h.b2 hk.1⟩
theorem CQ.c0 (h : CQ W lo hi rlo rhi g view A n c l) : W.cell? ⟨g, 0, none⟩ = some (.int .i64 view) := h.blk.cell rfl
theorem CQ.c1 (h : CQ W lo hi rlo rhi g view A n c l) : W.cell? ⟨g, 1, none⟩ = some (.slice A n c) := h.blk.cell rfl
theorem CQ.wide (h : CQ W lo hi rlo rhi g view A n c l) : Nods W 0 W.heap.size A n c l := h.row.nods'.2.wide (by have := h.b1; have := h.b2; omega)
theorem CQ.his (h : CQ W lo hi rlo rhi g view A n c l) : rhi ≤ W.heap.size := by have := h.b1; have := h.b2; omega
theorem CQ.lt (h : CQ W lo hi rlo rhi g view A n c l) : g < W.heap.size := h.blk.lt
theorem CQ.new {lo : Nat} (h : NodRow W lo W.heap.size (.slice A n c) l) (hlo : lo ≤ W.heap.size) (view : Int) : CQ (W.alloc (.cells #[.int .i64 view, .slice A n c] 25)) lo (W.heap.size + 1) lo W.heap.size W.heap.size view A n c l :=
  ⟨Blk.new W _ _, h.keep (fun _ _ hk => Below.heap_alloc _ _ _ hk), .inr (Nat.le_refl _), ⟨hlo, by omega⟩, ⟨Nat.le_refl _, by omega⟩, by simp⟩
theorem CQ.stored {W0 wc : World} {rl s : Nat} {x y : Value} (hb : Below W0.heap.size W0 wc) (hrow : NodRow wc rl wc.heap.size (.slice A n c) l) (hk : Blk wc s #[x, y] 25) (h1 : W0.heap.size ≤ s) (h2 : s < rl) :
    CQ ((wc.setCell ⟨s, 0, none⟩ (.int .i64 view)).setCell ⟨s, 1, none⟩ (.slice A n c)) W0.heap.size ((wc.setCell ⟨s, 0, none⟩ (.int .i64 view)).setCell ⟨s, 1, none⟩ (.slice A n c)).heap.size rl wc.heap.size s view A n c l ∧ Below W0.heap.size W0 ((wc.setCell ⟨s, 0, none⟩ (.int .i64 view)).setCell ⟨s, 1, none⟩ (.slice A n c)) := by
  have hs : ((wc.setCell ⟨s, 0, none⟩ (.int .i64 view)).setCell ⟨s, 1, none⟩ (.slice A n c)).heap.size = wc.heap.size := by simp [World.setCell]
  have hl := hk.lt
  refine ⟨⟨(hk.set 0 _).set 1 _, hrow.keep (fun k h3 _ => ?_), .inl h2, ⟨h1, by rw [hs]; exact hl⟩, ⟨by omega, by rw [hs]; exact Nat.le_refl _⟩, Nat.le_refl _⟩, (hb.setCell (p := ⟨s, 0, none⟩) h1 _).setCell (p := ⟨s, 1, none⟩) h1 _⟩
  rw [Below.heap_setCell _ _ _ _ (by show k ≠ s; omega), Below.heap_setCell _ _ _ _ (by show k ≠ s; omega)]
end
end Go.Proofs.YtemgilofjbnoaaaGreatDoor
namespace Go.Proofs.YtemgilofjbnoaaaGreatDoor
open Go.RowKit
theorem four_stores (w : World) (g : Nat) {a b c d : Value} (h0 : w.cell? ⟨g, 0, none⟩ = some a) (h1 : w.cell? ⟨g, 1, none⟩ = some b) (h2 : w.cell? ⟨g, 2, none⟩ = some c) (h3 : w.cell? ⟨g, 3, none⟩ = some d) :
    (∀ u, (w.setCell ⟨g, 0, none⟩ u).cell? ⟨g, 0, none⟩ = some u) ∧ (∀ u v, ((w.setCell ⟨g, 0, none⟩ u).setCell ⟨g, 1, none⟩ v).cell? ⟨g, 1, none⟩ = some v) ∧
    (∀ u v x, (((w.setCell ⟨g, 0, none⟩ u).setCell ⟨g, 1, none⟩ v).setCell ⟨g, 2, none⟩ x).cell? ⟨g, 2, none⟩ = some x) ∧
    (∀ u v x y, ((((w.setCell ⟨g, 0, none⟩ u).setCell ⟨g, 1, none⟩ v).setCell ⟨g, 2, none⟩ x).setCell ⟨g, 3, none⟩ y).cell? ⟨g, 3, none⟩ = some y) := by
  obtain ⟨e0, e1, e2⟩ := three_stores w g h0 h1 h2
  refine ⟨e0, e1, e2, fun u v x y => World.cell?_setCell_same' _ _ _ ?_⟩
  rw [World.cell?_setCell_other _ _ _ _ (by simp), World.cell?_setCell_other _ _ _ _ (by simp), World.cell?_setCell_other _ _ _ _ (by simp), h3]; rfl
set_option maxHeartbeats 2000000 in
theorem toCall_any (c n k v : Int) (w : World) :
    Calls Mo.prog 21 #[.agg #[.int .i64 c, .int .i64 n, .int .i64 k, .int .i64 v]] w fun e w' => e = .returned (.agg #[.int .i64 c, .int .i64 n, .int .i64 k, .int .i64 v]) ∧ Below w.heap.size w w' := by
  go_enter Mo.func21, Tryz.ntmps21
  go_wp2_with fail
  have KR := Lib.hid ((Blk.new (w.alloc (.cells #[.int .i64 c, .int .i64 n, .int .i64 k, .int .i64 v] 48)) #[.int .i64 0, .int .i64 0, .int .i64 0, .int .i64 0] 30).alloc (.cells #[.int .i64 c, .int .i64 n, .int .i64 0, .int .i64 0] 30))
  have KS := Lib.hid (Blk.new ((w.alloc (.cells #[.int .i64 c, .int .i64 n, .int .i64 k, .int .i64 v] 48)).alloc (.cells #[.int .i64 0, .int .i64 0, .int .i64 0, .int .i64 0] 30)) #[.int .i64 c, .int .i64 n, .int .i64 0, .int .i64 0] 30)
  refine (toUpdate_any _ _ _).mono ?_
  rintro e w1 ⟨rfl, hb1⟩
  have B1 := Lib.hid (below_box (below_box' (below_box' hb1)))
  have kr := KR.out.below hb1
  have ks := KS.out.below hb1
  simp only [World.size_alloc] at kr ks
  have s0 := ks.cell (i := 0) rfl
  have s1 := ks.cell (i := 1) rfl
  have s2 := ks.cell (i := 2) rfl
  have s3 := ks.cell (i := 3) rfl
  have t2 := ks.free 2
  have t3 := ks.free 3
  have z0 := kr.cell (i := 0) rfl
  have z1 := kr.cell (i := 1) rfl
  have z2 := kr.cell (i := 2) rfl
  have z3 := kr.cell (i := 3) rfl
  have y0 := kr.free 0
  have y1 := kr.free 1
  have y2 := kr.free 2
  have y3 := kr.free 3
  have r1 := kr.far (a := ⟨w.heap.size + 1 + 1, 2, none⟩) (show w.heap.size + 1 ≠ w.heap.size + 1 + 1 by omega) (.int .i64 k)
  have r2 := r1.far (a := ⟨w.heap.size + 1 + 1, 3, none⟩) (show w.heap.size + 1 ≠ w.heap.size + 1 + 1 by omega) (.int .i64 v)
  obtain ⟨e0, e1, e2, e3⟩ := four_stores _ (w.heap.size + 1) (r2.cell (i := 0) rfl) (r2.cell (i := 1) rfl) (r2.cell (i := 2) rfl) (r2.cell (i := 3) rfl)
  have E := Lib.hid (And.intro e0 (And.intro e1 (And.intro e2 e3)))
  clear hb1 kr ks r1 r2 e0 e1 e2 e3
  go_wp2
  obtain ⟨e0, e1, e2, e3⟩ := E.out
  refine bodyPost_ret (v := .agg #[.int .i64 c, .int .i64 n, .int .i64 k, .int .i64 v]) (by simp [results, Tryz.results21, go_sem, e0, e1, e2, e3]) rfl ⟨rfl, ?_⟩
  have hr : w.heap.size ≤ w.heap.size + 1 := by omega
  have hs : w.heap.size ≤ w.heap.size + 1 + 1 := by omega
  exact (((((B1.out.setCell (p := ⟨w.heap.size + 1 + 1, 2, none⟩) hs _).setCell (p := ⟨w.heap.size + 1 + 1, 3, none⟩) hs _).setCell (p := ⟨w.heap.size + 1, 0, none⟩) hr _).setCell (p := ⟨w.heap.size + 1, 1, none⟩) hr _).setCell (p := ⟨w.heap.size + 1, 2, none⟩) hr _).setCell (p := ⟨w.heap.size + 1, 3, none⟩) hr _
set_option maxHeartbeats 2000000 in
theorem eqCall_same (c n k v : Int) (w : World) :
    Calls Mo.prog 55 #[.agg #[.int .i64 c, .int .i64 n, .int .i64 k, .int .i64 v], .agg #[.int .i64 c, .int .i64 n, .int .i64 k, .int .i64 v]] w fun e w' => e = .returned (.bool true) ∧ Below w.heap.size w w' := by
  go_enter Mo.func55, Tryz.ntmps55
  go_wp2_with (go_at_call 83; refine (eqUpdate_same _ _ _).mono ?_; rintro e w1 ⟨rfl, hb1⟩; have B1 := Lib.hid (below_box (below_box' hb1)); clear hb1)
  go_ret
  exact ⟨rfl, B1.out⟩
set_option maxHeartbeats 1000000 in
theorem toCallS_any (A : Option Addr) (n c : Nat) (l : List Cll) (w : World) (h : Flat Cll.enc 4 w 0 w.heap.size A n c l) (hn : n ≤ 1048576) :
    Calls Mo.prog 20 #[.slice A n c] w fun e w' => e = .returned (.slice (some ⟨w.heap.size, 0, none⟩) n n) ∧
      w'.ownsRow w.heap.size 30 4 (.slice (some ⟨w.heap.size, 0, none⟩) n n) n (l.flatMap Cll.enc) ∧ Below w.heap.size w w' := by
  have hlen := h.len
  obtain ⟨i0, hi, hz0, hz1, hz2⟩ := info_parts infoCallM
  have hmk := fun W => make_rows (P := Mo.prog) 26 30 i0 _ Mo.underlying26 hi hz0 n (by rw [hz2]; omega) (by omega) W
  rw [hz1] at hmk
  have H := Lib.hid h
  have HL := Lib.hid hlen
  clear h hlen hi hz0 hz1 hz2
  obtain ⟨Z, hZ⟩ : ∃ Z, Z = madeCells (Value.agg #[.int .i64 0, .int .i64 0, .int .i64 0, .int .i64 0]).cells (n * 4) := ⟨_, rfl⟩
  rw [← hZ] at hmk
  have hZs : Z.size = n * 4 := by rw [hZ]; exact size_madeCells _ _
  have HZ := Lib.hid hZs
  clear hZs hZ
  go_enter Mo.func20, Tryz.ntmps20
  go_wp2
  clear hmk
  go_loopw [4] (fun i wr => ∃ k : Nat, k ≤ n ∧ i = .int .i64 k ∧ Hid (∃ cs, wr.heap[w.heap.size]? = some (.cells cs 30 (0, 0)) ∧ Filled Cll.enc 4 cs l k) ∧ Below w.heap.size w wr)
    (fun i _ => n - (intOf i).toNat)
  case atStart => exact ⟨0, Nat.zero_le _, rfl, ⟨Z, heap_alloc_new _ _, Filled.zero (by rw [HZ.out, HL.out])⟩, (Below.refl _ _).alloc (Nat.le_refl _) _⟩
  case round =>
    obtain ⟨k, hk, rfl, hfill, hB⟩ := hrel
    have HW := Lib.hid (H.out.below hB (Nat.le_refl _))
    have HB := Lib.hid hB
    have hsz := hB.size
    clear hB H
    by_cases hlt : k < n
    · obtain ⟨b, off, x, rfl, _, hbB, hx, c0, c1, c2, c3⟩ := HW.out.cll hlt
      have Hx := Lib.hid hx
      clear hx
      obtain ⟨cs, hg, hf⟩ := hfill.out
      have Hg := Lib.hid hg
      have Hf := Lib.hid hf
      have hgs := lt_of_block hg
      have hfs := hf.1
      clear hg hf hfill
      have hlen := HL.out
      have hfs' : k * 4 + 4 ≤ cs.size := by omega
      clear hlen hfs
      go_wp2_with (go_at_call 21; refine (toCall_any _ _ _ _ _).mono ?_; rintro e w1 ⟨rfl, hb1⟩; have Hb1 := Lib.hid hb1; have hg1 := (hb1.block w.heap.size hgs).trans Hg.out; have Hg1 := Lib.hid hg1; obtain ⟨v0, q0⟩ := row_cell (i := k * 4) hg1 (by omega); obtain ⟨v1, q1⟩ := row_cell (i := k * 4 + 1) hg1 (by omega); obtain ⟨v2, q2⟩ := row_cell (i := k * 4 + 2) hg1 (by omega); obtain ⟨v3, q3⟩ := row_cell (i := k * 4 + 3) hg1 (by omega); have f0 := row_free hg1 (k * 4); have f1 := row_free hg1 (k * 4 + 1); have f2 := row_free hg1 (k * 4 + 2); have f3 := row_free hg1 (k * 4 + 3); clear hb1 hg1)
      go_roundw
      case rel =>
        refine ⟨k + 1, by omega, by go_num, ⟨_, heap_setCell_at (heap_setCell_at (heap_setCell_at (heap_setCell_at Hg1.out _) _) _) _, Filled.step Cll.len Hf.out Hx.out⟩, ?_⟩
        exact (HB.out.trans (Hb1.out.mono hsz)).setCell (Nat.le_refl _) _ |>.setCell (Nat.le_refl _) _ |>.setCell (Nat.le_refl _) _ |>.setCell (Nat.le_refl _) _
      case measure => simp [intOf]; omega
    · obtain rfl : n = k := by omega
      obtain ⟨cs, hg, hf⟩ := hfill.out
      have Hg := Lib.hid hg
      have Hf := Lib.hid hf
      clear hg hf hfill
      go_wp2
      go_ret
      exact ⟨rfl, Filled.own Cll.len (by omega) Hf.out HL.out Hg.out (Nat.le_refl _) (by unfold maxLen; omega), HB.out⟩
set_option maxHeartbeats 1000000 in
theorem eqCallS_same (A B : Option Addr) (n c d : Nat) (l : List Cll) (w : World) (h : Flat Cll.enc 4 w 0 w.heap.size A n c l) (h' : Flat Cll.enc 4 w 0 w.heap.size B n d l) (hn : n ≤ 1048576) :
    Calls Mo.prog 23 #[.slice A n c, .slice B n d] w fun e w' => e = .returned (.bool true) ∧ Below w.heap.size w w' := by
  have H := Lib.hid h
  have H' := Lib.hid h'
  clear h h'
  go_enter Mo.func23, Tryz.ntmps23
  go_wp2
  go_loopw [5] (fun i wr => ∃ k : Nat, k ≤ n ∧ i = .int .i64 k ∧ Below w.heap.size w wr) (fun i _ => n - (intOf i).toNat)
  case atStart => exact ⟨0, Nat.zero_le _, rfl, Below.refl _ _⟩
  case round =>
    obtain ⟨k, hk, rfl, hB⟩ := hrel
    have HW := Lib.hid (H.out.below hB (Nat.le_refl _))
    have HW' := Lib.hid (H'.out.below hB (Nat.le_refl _))
    have HB := Lib.hid hB
    have hsz := hB.size
    clear hB H H'
    by_cases hlt : k < n
    · obtain ⟨b, off, x, rfl, _, _, hx, c0, c1, c2, c3⟩ := HW.out.cll hlt
      obtain ⟨b', off', x', rfl, _, _, hx', c0', c1', c2', c3'⟩ := HW'.out.cll hlt
      obtain rfl : x = x' := by rw [hx] at hx'; injection hx'
      clear hx hx'
      have d0 := cell_regrown c0
      have d1 := cell_regrown c1
      have d2 := cell_regrown c2
      have d3 := cell_regrown c3
      have d0' := cell_regrown c0'
      have d1' := cell_regrown c1'
      have d2' := cell_regrown c2'
      have d3' := cell_regrown c3'
      have hk0 : (0 : Int) ≤ (k : Int) := by omega
      have hkn : (k : Int) < (n : Int) := by omega
      go_wp2_with fail
      refine wp_region_quiet_below (by kernel_rfl) (by kernel_rfl) ?_
      repeat (go_big_quiet_step ((go_at_call 55; exact Calls.regrown_of (eqCall_same _ _ _ _ _))))
      refine wpQuiet_nil ?_
      intro w2 hw2
      have hb2 := Lib.hid (below_of_regrown hw2)
      clear hw2 d0 d1 d2 d3 d0' d1' d2' d3'
      go_wp2
      go_roundw
      case rel => exact ⟨k + 1, by omega, by go_num, HB.out.trans (hb2.out.mono hsz)⟩
      case measure => simp [intOf]; omega
    · go_wp2
      go_ret
      exact ⟨rfl, HB.out⟩
end Go.Proofs.YtemgilofjbnoaaaGreatDoor
namespace Go.Proofs.YtemgilofjbnoaaaGreatDoor
open Go.RowKit
def marksC (k : Int) (n : Nat) : List Cll := (List.range n).map fun (i : Nat) => ⟨k + 4 * (i : Int), k + 4 * (i : Int) + 1, ⟨k + 4 * (i : Int) + 2, k + 4 * (i : Int) + 3⟩⟩
theorem marksC_get {k : Int} {n i : Nat} {x : Cll} (h : (marksC k n)[i]? = some x) : x = ⟨k + 4 * (i : Int), k + 4 * (i : Int) + 1, ⟨k + 4 * (i : Int) + 2, k + 4 * (i : Int) + 3⟩⟩ := by
  simp only [marksC, List.getElem?_map, Option.map_eq_some_iff] at h
  obtain ⟨j, hj, rfl⟩ := h
  obtain ⟨_, hj⟩ := List.getElem?_eq_some_iff.1 hj
  simp at hj; subst hj; rfl
theorem marksC_length (k : Int) (n : Nat) : (marksC k n).length = n := by simp [marksC]
theorem marksC_at {k : Int} {n i : Nat} (h : i < n) : (marksC k n)[i]? = some ⟨k + 4 * (i : Int), k + 4 * (i : Int) + 1, ⟨k + 4 * (i : Int) + 2, k + 4 * (i : Int) + 3⟩⟩ := by
  simp [marksC, h]
theorem marksC_take (s : Int) {n c : Nat} (h : n ≤ c) : (marksC s c).take n = marksC s n := by
  unfold marksC; rw [← List.map_take, List.take_range, Nat.min_eq_left h]
set_option maxHeartbeats 2000000 in
theorem markCallS_block (g n c : Nat) (s : Int) (cs0 : Array Value) (w : World) (h : w.heap[g]? = some (.cells cs0 30 (0, 0))) (hz : cs0.size = c * 4) (hnc : n ≤ c) (hn : n ≤ 1048576) (hs0 : 0 ≤ s) (hs1 : s ≤ 17592186044416) :
    Calls Mo.prog 25 #[.slice (some ⟨g, 0, none⟩) n c, .int .i64 s] w fun e w' => e = .returned (.int .i64 (s + 4 * (n : Int))) ∧
      (∃ cs, w'.heap[g]? = some (.cells cs 30 (0, 0)) ∧ Filled Cll.enc 4 cs (marksC s c) n) ∧ w.grownBy w' (some g) := by
  have hlt := lt_of_block h
  have H := Lib.hid h
  have HZ := Lib.hid hz
  clear h hz
  go_enter Mo.func25, Tryz.ntmps25
  go_wp2
  go_loopw [1, 5] (fun v i wr => ∃ k : Nat, k ≤ n ∧ v = .int .i64 (s + 4 * (k : Int)) ∧ i = .int .i64 k ∧ Hid (∃ cs, wr.heap[g]? = some (.cells cs 30 (0, 0)) ∧ Filled Cll.enc 4 cs (marksC s c) k) ∧ w.grownBy wr (some g)) (fun _ i _ => n - (intOf i).toNat)
  case atStart => exact ⟨0, Nat.zero_le _, by simp, rfl, ⟨cs0, H.out, Filled.zero (by rw [HZ.out, marksC_length])⟩, grown_refl _ _⟩
  case round =>
    obtain ⟨k, hk, rfl, rfl, hfill, hB⟩ := hrel
    have HB := Lib.hid hB
    have q1 : IntKind.i64.wrap (s + 4 * (k : Int) + 1) = s + 4 * (k : Int) + 1 := IntWalk.i64_in _ (by omega)
    have q2 : IntKind.i64.wrap (s + 4 * (k : Int) + 1 + 1) = s + 4 * (k : Int) + 1 + 1 := IntWalk.i64_in _ (by omega)
    have q3 : IntKind.i64.wrap (s + 4 * (k : Int) + 1 + 1 + 1) = s + 4 * (k : Int) + 1 + 1 + 1 := IntWalk.i64_in _ (by omega)
    have q4 : IntKind.i64.wrap (s + 4 * (k : Int) + 1 + 1 + 1 + 1) = s + 4 * (k : Int) + 1 + 1 + 1 + 1 := IntWalk.i64_in _ (by omega)
    clear hB
    by_cases hl : k < n
    · obtain ⟨cs, hg, hf⟩ := hfill.out
      have Hg := Lib.hid hg
      have Hf := Lib.hid hf
      have hfs := hf.1
      rw [marksC_length] at hfs
      obtain ⟨v0, p0⟩ := row_cell (i := k * 4) hg (by omega)
      obtain ⟨v1, p1⟩ := row_cell (i := k * 4 + 1) hg (by omega)
      obtain ⟨v2, p2⟩ := row_cell (i := k * 4 + 2) hg (by omega)
      obtain ⟨v3, p3⟩ := row_cell (i := k * 4 + 3) hg (by omega)
      have f0 := row_free hg (k * 4)
      have f1 := row_free hg (k * 4 + 1)
      have f2 := row_free hg (k * 4 + 2)
      have f3 := row_free hg (k * 4 + 3)
      clear hg hf hfill hfs
      have hk0 : (0 : Int) ≤ (k : Int) := by omega
      have hkn : (k : Int) < (n : Int) := by omega
      go_wp2
      go_roundw
      case rel =>
        refine ⟨k + 1, by omega, by congr 1; push_cast; omega, by go_num, ⟨_, heap_setCell_at (heap_setCell_at (heap_setCell_at (heap_setCell_at Hg.out _) _) _) _, ?_⟩, ?_⟩
        · have hst := Filled.step Cll.len Hf.out (marksC_at (k := s) (show k < c by omega))
          have a2 : s + 4 * (k : Int) + 1 + 1 = s + 4 * (k : Int) + 2 := by omega
          have a3 : s + 4 * (k : Int) + 2 + 1 = s + 4 * (k : Int) + 3 := by omega
          try rw [a2]
          try rw [a3]
          exact hst
        · exact grown_set (grown_set (grown_set (grown_set HB.out _ _) _ _) _ _) _ _
      case measure => simp [intOf]; omega
    · obtain rfl : k = n := by omega
      obtain ⟨cs, hg, hf⟩ := hfill.out
      have Hg := Lib.hid hg
      have Hf := Lib.hid hf
      clear hg hf hfill
      go_wp2
      go_ret
      exact ⟨rfl, ⟨cs, Hg.out, Hf.out⟩, HB.out⟩
set_option maxHeartbeats 2000000 in
theorem markCallS_nil (s : Int) (w : World) :
    Calls Mo.prog 25 #[.slice none 0 0, .int .i64 s] w fun e w' => e = .returned (.int .i64 s) ∧ w = w' := by
  go_enter Mo.func25, Tryz.ntmps25
  go_wp2
  go_loopw [1, 5] (fun v i wr => v = .int .i64 s ∧ i = .int .i64 0 ∧ w = wr) (fun _ _ _ => 0)
  case atStart => exact ⟨rfl, rfl, rfl⟩
  case round =>
    obtain ⟨rfl, rfl, rfl⟩ := hrel
    go_wp2
    go_ret
    exact ⟨rfl, rfl⟩
theorem markCallS_own (lo : Nat) (A : Option Addr) (n c : Nat) (xs : List Value) (s : Int) (w : World) (h : w.ownsRow lo 30 4 (.slice A n c) n xs) (hn : n ≤ 1048576) (hs0 : 0 ≤ s) (hs1 : s ≤ 17592186044416) :
    Calls Mo.prog 25 #[.slice A n c, .int .i64 s] w fun e w' => e = .returned (.int .i64 (s + 4 * (n : Int))) ∧
      w'.ownsRow lo 30 4 (.slice A n c) n ((marksC s n).flatMap Cll.enc) ∧ w.grownBy w' (Value.slice A n c).ownBlock := by
  rcases h.2 with ⟨hv, h0⟩ | ⟨g, cap, cur, hv, hlo, hg, hnc, hm, hcs, _⟩
  · injection hv with e1 e2 e3
    subst e1; subst e2; subst e3
    refine (markCallS_nil s w).mono ?_
    rintro e w' ⟨rfl, rfl⟩
    exact ⟨by simp, World.ownsRow_nil _ _ _ _, grown_refl _ _⟩
  · injection hv with e1 e2 e3
    subst e1; subst e3
    refine (markCallS_block g n c s cur w hg hcs hnc hn hs0 hs1).mono ?_
    rintro e w' ⟨rfl, ⟨cs, hg', hf⟩, hgr⟩
    refine ⟨rfl, ⟨by rw [length_flatMap Cll.len, marksC_length], .inr ⟨g, c, cs, rfl, hlo, hg', hnc, hm, by have := hf.1; rwa [marksC_length] at this, ?_⟩⟩, hgr⟩
    rw [Filled.take_ Cll.len (by omega) hf (by rw [marksC_length]; exact hnc), marksC_take s hnc]
set_option maxHeartbeats 2000000 in
theorem heldCallS_marks (A : Option Addr) (n c : Nat) (s : Int) (w : World) (h : Flat Cll.enc 4 w 0 w.heap.size A n c (marksC s n)) (hn : n ≤ 1048576) (hs0 : 0 ≤ s) (hs1 : s ≤ 17592186044416) :
    Calls Mo.prog 27 #[.slice A n c, .int .i64 s] w fun e w' => e = .returned (.int .i64 (s + 4 * (n : Int))) ∧ Below w.heap.size w w' := by
  have H := Lib.hid h
  clear h
  go_enter Mo.func27, Tryz.ntmps27
  go_wp2
  go_loopw [1, 5] (fun v i wr => ∃ k : Nat, k ≤ n ∧ v = .int .i64 (s + 4 * (k : Int)) ∧ i = .int .i64 k ∧ Below w.heap.size w wr) (fun _ i _ => n - (intOf i).toNat)
  case atStart => exact ⟨0, Nat.zero_le _, by simp, rfl, Below.refl _ _⟩
  case round =>
    obtain ⟨k, hk, rfl, rfl, hB⟩ := hrel
    have HW := Lib.hid (H.out.below hB (Nat.le_refl _))
    have HB := Lib.hid hB
    clear hB H
    have q1 : IntKind.i64.wrap (s + 4 * (k : Int) + 1) = s + 4 * (k : Int) + 1 := IntWalk.i64_in _ (by omega)
    have q2 : IntKind.i64.wrap (s + 4 * (k : Int) + 1 + 1) = s + 4 * (k : Int) + 1 + 1 := IntWalk.i64_in _ (by omega)
    have q3 : IntKind.i64.wrap (s + 4 * (k : Int) + 1 + 1 + 1) = s + 4 * (k : Int) + 1 + 1 + 1 := IntWalk.i64_in _ (by omega)
    have q4 : IntKind.i64.wrap (s + 4 * (k : Int) + 1 + 1 + 1 + 1) = s + 4 * (k : Int) + 1 + 1 + 1 + 1 := IntWalk.i64_in _ (by omega)
    by_cases hlt : k < n
    · obtain ⟨b, off, x, rfl, _, _, hx, c0, c1, c2, c3⟩ := HW.out.cll hlt
      obtain rfl := marksC_get hx
      clear hx
      have b2 : s + 4 * (k : Int) + 2 = s + 4 * (k : Int) + 1 + 1 := by omega
      have b3 : s + 4 * (k : Int) + 3 = s + 4 * (k : Int) + 1 + 1 + 1 := by omega
      simp only [b2, b3] at c0 c1 c2 c3
      clear b2 b3
      have hk0 : (0 : Int) ≤ (k : Int) := by omega
      have hkn : (k : Int) < (n : Int) := by omega
      go_wp2
      go_roundw
      case rel => exact ⟨k + 1, by omega, by congr 1; push_cast; omega, by go_num, HB.out⟩
      case measure => simp [intOf]; omega
    · obtain rfl : k = n := by omega
      go_wp2
      go_ret
      exact ⟨rfl, HB.out⟩
end Go.Proofs.YtemgilofjbnoaaaGreatDoor
namespace Go.Proofs.YtemgilofjbnoaaaGreatDoor
open Go Go.RowKit Go.Sort
structure CL (W : World) (lo hi : Nat) (A : Option Addr) (n d : Nat) (l : List Cll) : Prop where
  own : W.ownsRow lo 30 4 (.slice A n d) n (l.flatMap Cll.enc)
  lt : ∀ g, (Value.slice A n d).ownBlock = some g → g < hi
  len : l.length = n
  his : hi ≤ W.heap.size
section
variable {W W' : World} {lo hi n d : Nat} {A : Option Addr} {l : List Cll}
theorem CL.below (h : CL W lo hi A n d l) (hb : Below W.heap.size W W') : CL W' lo hi A n d l := ⟨own_below h.own hb, h.lt, h.len, Nat.le_trans h.his hb.size⟩
theorem CL.alloc (h : CL W lo hi A n d l) (o : Obj) : CL (W.alloc o) lo hi A n d l := h.below ((Below.refl _ _).alloc (Nat.le_refl _) _)
theorem CL.drew (h : CL W lo hi A n d l) : CL W.drew lo hi A n d l := h.below (Below.refl _ _).drew
theorem CL.kept {lo' hi' : Nat} (h : CL W lo hi A n d l) (hk : Kept lo' hi' W W') (hd : hi ≤ lo' ∨ hi' ≤ lo) : CL W' lo hi A n d l :=
  ⟨own_keep h.own (fun g e => hk.2.2.2.2 g (h.own.lt g e).2 (by have := h.lt g e; have := (h.own.lt g e).1; omega)), h.lt, h.len, Nat.le_trans h.his hk.1⟩
theorem CL.flat (h : CL W lo hi A n d l) : Flat Cll.enc 4 W 0 W.heap.size A n d l := (own_flat' Cll.len h.own h.len).mono (Nat.zero_le _) (Nat.le_refl _)
theorem CL.mark {s : Int} (h : CL W lo hi A n d l) (ho : W'.ownsRow lo 30 4 (.slice A n d) n ((marksC s n).flatMap Cll.enc)) (hg : W.grownBy W' (Value.slice A n d).ownBlock) : CL W' lo hi A n d (marksC s n) ∧ Kept lo hi W W' :=
  ⟨⟨ho, h.lt, marksC_length _ _, Nat.le_trans h.his hg.size⟩, (Kept.refl lo hi W).grown hg (fun g e => ⟨(h.own.lt g e).1, h.lt g e⟩)⟩
theorem CL.stored {s : Nat} {ds : Array Value} {a b : Value} (h : CL W lo hi A n d l) (hk : Blk W s ds 25) : CL ((W.setCell ⟨s, 0, none⟩ a).setCell ⟨s, 1, none⟩ b) lo hi A n d l := by
  have := h.len
  subst this
  exact ⟨own_stored h.own hk, h.lt, rfl, by simpa [World.setCell] using h.his⟩
end
section
variable {W W' : World} {lo hi rlo rhi g : Nat} {view : Int} {A : Option Addr} {n c : Nat} {l : List Nod}
theorem CQ.kept2 {lo' hi' : Nat} (h : CQ W lo hi rlo rhi g view A n c l) (hk : Kept lo' hi' W W') (hg : g < lo' ∨ hi' ≤ g) (hr : rhi ≤ lo' ∨ hi' ≤ rlo) : CQ W' lo hi rlo rhi g view A n c l :=
  ⟨(hk.2.2.2.2 g (by have := h.b0; have := h.b2; omega) (by omega)).trans h.blk, h.row.keep (fun k h1 h2 => hk.2.2.2.2 k (by have := h.b1; have := h.b2; omega) (by omega)), h.out, h.b0, h.b1, Nat.le_trans h.b2 hk.1⟩
theorem blk_kept {lo' hi' b : Nat} {cs : Array Value} {t : TypeId} (h : Blk W b cs t) (hk : Kept lo' hi' W W') (hb : b < lo') : Blk W' b cs t := (hk.2.2.2.2 _ h.lt (by omega)).trans h
theorem fusedX {W0 wc : World} {rl rh clo chi : Nat} {B : Option Addr} {m d : Nat} {r : List Cll} (hb : Below W0.heap.size W0 wc) (hrow : NodRow wc rl rh (.slice A n c) l) (hc : CL wc clo chi B m d r) (h1 : W0.heap.size ≤ rl) (h2 : rh ≤ wc.heap.size) :
    CQ (wc.alloc (.cells #[.int .i64 view, .slice A n c] 25)) W0.heap.size (wc.alloc (.cells #[.int .i64 view, .slice A n c] 25)).heap.size rl rh wc.heap.size view A n c l ∧
    CL (wc.alloc (.cells #[.int .i64 view, .slice A n c] 25)) clo chi B m d r ∧ Below W0.heap.size W0 (wc.alloc (.cells #[.int .i64 view, .slice A n c] 25)) :=
  ⟨⟨Blk.new wc _ _, hrow.keep (fun _ _ hk => Below.heap_alloc _ _ _ (by omega)), .inr h2, ⟨hb.size, by simp⟩, ⟨h1, by simp; omega⟩, Nat.le_refl _⟩, hc.alloc _, hb.alloc hb.size _⟩
theorem storedX {W0 wc : World} {rl rh clo chi s : Nat} {x y : Value} {B : Option Addr} {m d : Nat} {r : List Cll} (hb : Below W0.heap.size W0 wc) (hrow : NodRow wc rl rh (.slice A n c) l) (hc : CL wc clo chi B m d r) (hk : Blk wc s #[x, y] 25) (h1 : W0.heap.size ≤ s) (h2 : s < rl) (h3 : rh ≤ wc.heap.size) :
    CQ ((wc.setCell ⟨s, 0, none⟩ (.int .i64 view)).setCell ⟨s, 1, none⟩ (.slice A n c)) W0.heap.size ((wc.setCell ⟨s, 0, none⟩ (.int .i64 view)).setCell ⟨s, 1, none⟩ (.slice A n c)).heap.size rl rh s view A n c l ∧
    CL ((wc.setCell ⟨s, 0, none⟩ (.int .i64 view)).setCell ⟨s, 1, none⟩ (.slice A n c)) clo chi B m d r ∧ Below W0.heap.size W0 ((wc.setCell ⟨s, 0, none⟩ (.int .i64 view)).setCell ⟨s, 1, none⟩ (.slice A n c)) := by
  have hs : ((wc.setCell ⟨s, 0, none⟩ (.int .i64 view)).setCell ⟨s, 1, none⟩ (.slice A n c)).heap.size = wc.heap.size := by simp [World.setCell]
  have hl := hk.lt
  refine ⟨⟨(hk.set 0 _).set 1 _, row_stored hrow hk, .inl h2, ⟨h1, by rw [hs]; exact hl⟩, ⟨by omega, by rw [hs]; exact h3⟩, Nat.le_refl _⟩, hc.stored hk, (hb.setCell (p := ⟨s, 0, none⟩) h1 _).setCell (p := ⟨s, 1, none⟩) h1 _⟩
end
def ResC (W : World) (v1 : Int) (l1 : List Nod) (r1 : List Cll) (t1 : Bool) (e : Ending) (w' : World) : Prop :=
  ∃ A n c B m d, e = .returned (.tuple #[.agg #[.int .i64 v1, .slice A n c], .slice B m d, .bool t1]) ∧ l1.length = n ∧ r1.length = m ∧ NodRow w' W.heap.size w'.heap.size (.slice A n c) l1 ∧ CL w' W.heap.size w'.heap.size B m d r1 ∧ Below W.heap.size W w'
def ResC2 (W : World) (v1 : Int) (l1 : List Nod) (r1 : List Cll) (t1 : Bool) (e : Ending) (w' : World) : Prop :=
  ∃ mid A n c B m d, e = .returned (.tuple #[.agg #[.int .i64 v1, .slice A n c], .slice B m d, .bool t1]) ∧ l1.length = n ∧ r1.length = m ∧ NodRow w' W.heap.size mid (.slice A n c) l1 ∧ CL w' mid w'.heap.size B m d r1 ∧ W.heap.size ≤ mid ∧ mid ≤ w'.heap.size ∧ Below W.heap.size W w'
theorem CallRes2.at2 {w w' : World} {o : Option ((Int × List Nod) × List Cll)} {e : Ending} {v1 : Int} {l1 : List Nod} {r1 : List Cll} {t1 : Bool} (h : CallRes2 w o e w') (h1 : o.getD ((0, []), []) = ((v1, l1), r1)) (h2 : o.isSome = t1) : ResC2 w v1 l1 r1 t1 e w' := by
  obtain ⟨mid, v, A, n, c, l, B, m, d, r, e1, rfl, hl, hm, a1, a2, hrow, hown, hb⟩ := h
  rw [h1] at e1
  injection e1 with e1 e3
  injection e1 with e1 e2
  subst e1; subst e2; subst e3; subst h2; subst hm
  exact ⟨mid, A, n, c, B, _, d, rfl, hl, rfl, hrow, ⟨hown, fun g e => (hown.lt g e).2, rfl, Nat.le_refl _⟩, a1, a2, hb⟩
theorem CallRes.at1 {w w' : World} {o : Option ((Int × List Nod) × List Cll)} {e : Ending} {v1 : Int} {l1 : List Nod} {r1 : List Cll} {t1 : Bool} (h : CallRes w o e w') (h1 : o.getD ((0, []), []) = ((v1, l1), r1)) (h2 : o.isSome = t1) : ResC w v1 l1 r1 t1 e w' := by
  obtain ⟨v, A, n, c, l, B, m, d, r, e1, rfl, hl, hm, hrow, hcr⟩ := h
  rw [h1] at e1
  injection e1 with e1 e3
  injection e1 with e1 e2
  subst e1; subst e2; subst e3; subst h2; subst hm
  exact ⟨A, n, c, B, _, d, rfl, hl, rfl, hrow, ⟨hcr.own, fun g e => (hcr.own.lt g e).2, rfl, Nat.le_refl _⟩, hcr.bel⟩
end Go.Proofs.YtemgilofjbnoaaaGreatDoor
