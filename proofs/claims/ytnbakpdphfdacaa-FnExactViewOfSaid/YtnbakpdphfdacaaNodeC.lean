/- What a node answers: the plain functions, the program's and the reference's walks. -/
import Derived.Test.YtnbakpdphfdacaaNodeB
namespace Go.Proofs.Ytnbakpdphfdacaa
open Go.RowKit

def keyIn (l : List Upd) (key : Int) : Bool := l.any fun u => decide (u.key = key)
def keyWaits (x : Nod) (key : Int) : Bool := keyIn (x.log.drop x.done.toNat) key
def valOf (l : List Upd) (key : Int) (many : Nat) : Int := (stAt l many).getD key.toNat 0
def nodeValueAt (x : Nod) (key many : Int) : Int × Bool :=
  if nodeOk x && inB key 0 4 && inB many 0 x.log.length then (if valOf x.log key many.toNat < 0 then (0, false) else (valOf x.log key many.toNat, true)) else (0, false)
def nodeRead (x : Nod) (key : Int) : Int × Int :=
  if nodeOk x && inB key 0 4 then (if keyWaits x key then (0, 1) else if valOf x.log key x.done.toNat < 0 then (0, 2) else (valOf x.log key x.done.toNat, 0)) else (0, 3)

theorem keyIn_false_succ {l : List Upd} {k : Nat} {u : Upd} {key : Int} (h : keyIn (l.take k) key = false) (hu : l[k]? = some u) (ho : u.key ≠ key) : keyIn (l.take (k + 1)) key = false := by
  have hk := (List.getElem?_eq_some_iff.1 hu).1
  have e : l[k] = u := by rw [List.getElem?_eq_getElem hk] at hu; injection hu
  unfold keyIn at *
  rw [List.take_succ_eq_append_getElem hk, List.any_append, h, e]; simp [ho]
theorem keyIn_true {l : List Upd} {k : Nat} {u : Upd} {key : Int} (hu : l[k]? = some u) (ho : u.key = key) : keyIn l key = true := by
  unfold keyIn
  rw [List.any_eq_true]
  exact ⟨u, List.mem_of_getElem? hu, by simp [ho]⟩
theorem keyIn_end {l : List Upd} {n : Nat} {key : Int} (hl : l.length = n) (h : keyIn (l.take n) key = false) : keyIn l key = false := by
  rwa [List.take_of_length_le (by omega)] at h
theorem nodeOk_done {x : Nod} (h : nodeOk x = true) : ∃ k : Nat, x.done = (k : Int) ∧ k ≤ x.log.length ∧ logOk x.log = true := by
  simp only [nodeOk, Bool.and_eq_true, inB, decide_eq_true_eq] at h
  exact ⟨x.done.toNat, by omega, by omega, h.1.2⟩

theorem Flat.drop_at {α : Type} {enc : α → List Value} {sz : Nat} {w : World} {lo hi n c b off k : Nat} {l : List α} (h : Flat enc sz w lo hi (some ⟨b, off, none⟩) n c l) (hk : k < n) : Flat enc sz w lo hi (some ⟨b, off + k * sz, none⟩) (n - k) (c - k) (l.drop k) := by
  have h' := h.drop_ (Nat.le_of_lt hk)
  have hnc := h.2.1
  rw [if_neg (by omega)] at h'
  have e : Option.map (fun x : Addr => x.add (k * sz)) (some ⟨b, off, none⟩) = some ⟨b, off + k * sz, none⟩ := by
    simp only [Option.map_some, Addr.add]
    split
    · rename_i h0; rw [h0]; rfl
    · rfl
  rw [e] at h'; exact h'

set_option maxHeartbeats 1000000 in
theorem waits_any (id : Int) (l : List Upd) (k : Nat) (key : Int) (A : Option Addr) (n c : Nat) (w : World) (h : Flat Upd.enc 2 w 0 w.heap.size A n c l) (hn : n ≤ 1048576) (hk : k ≤ n) :
    Calls Try.prog 95 #[.agg #[.int .i64 id, .slice A n c, .int .i64 k], .int .i64 key] w fun e w' => e = .returned (.bool (keyIn (l.drop k) key)) ∧ Below w.heap.size w w' := by
  have HL := Lib.hid h.len
  have H := Lib.hid h
  have hnc := h.2.1
  have hcm := h.2.2.1
  unfold maxLen at hcm
  clear h
  by_cases hkn : k < n
  case neg =>
    obtain rfl : n = k := by omega
    have e0 : keyIn (l.drop n) key = false := by rw [List.drop_eq_nil_of_le (by rw [HL.out]; exact Nat.le_refl _)]; rfl
    rw [e0]
    clear e0
    by_cases hcn : c = n
    all_goals
      go_enter Try.func95, Try.ntmps95
      go_wp2
      go_rounds 1
      go_ret
      exact ⟨rfl, (Below.refl _ _).alloc (Nat.le_refl _) _⟩
  case pos =>
  obtain ⟨b, off, u, rfl, _⟩ := H.out.at_ hkn
  have D := Lib.hid (H.out.drop_at hkn)
  have hck : ¬ c = k := by omega
  go_enter Try.func95, Try.ntmps95
  go_wp2_with fail
  obtain ⟨m, hm⟩ : ∃ m, n - k = m := ⟨_, rfl⟩
  rw [hm] at D ⊢
  have hm9 : m ≤ 1048576 := by omega
  have hmc : m ≤ c - k := by omega
  clear hm
  go_loopw [15] (fun i wr => ∃ j : Nat, j ≤ m ∧ i = .int .i64 j ∧ Hid (keyIn ((l.drop k).take j) key = false) ∧ Below w.heap.size w wr)
    (fun i _ => m - (intOf i).toNat)
  case atStart => exact ⟨0, Nat.zero_le _, rfl, rfl, (Below.refl _ _).alloc (Nat.le_refl _) _⟩
  case round =>
    obtain ⟨j, hj, rfl, hall, hB⟩ := hrel
    have HW := Lib.hid (D.out.below hB (Nat.le_refl _))
    have HB := Lib.hid hB
    have hsz := hB.size
    clear hB
    by_cases hlt : j < m
    · obtain ⟨b', off', u, e', _, hbB, hu, c0, c1⟩ := HW.out.upd hlt
      obtain ⟨rfl, rfl⟩ : b = b' ∧ off + k * 2 = off' := by injection e' with e'; injection e' with e1 e2; exact ⟨e1, e2⟩
      have Hu := Lib.hid hu
      clear hu e'
      by_cases hkey : u.key = key
      · have HK := Lib.hid hkey
        rw [hkey] at c0
        clear hkey
        go_wp2
        go_ret
        exact ⟨ret_bool (keyIn_true Hu.out HK.out).symm, HB.out.alloc hsz _⟩
      · have hne : (u.key == key) = false := by simp [hkey]
        have HK := Lib.hid hkey
        clear hkey
        go_wp2
        go_roundw
        case rel => exact ⟨j + 1, by omega, by go_num, keyIn_false_succ hall.out Hu.out HK.out, HB.out.alloc hsz _⟩
        case measure => simp [intOf]; omega
    · obtain rfl : m = j := by omega
      go_wp2
      go_ret
      exact ⟨ret_bool (keyIn_end D.out.len hall.out).symm, HB.out⟩

set_option maxHeartbeats 1000000 in
theorem l14Dirty_any (id : Int) (l : List Upd) (k : Nat) (key : Int) (A : Option Addr) (n c : Nat) (w : World) (h : Flat Upd.enc 2 w 0 w.heap.size A n c l) (hn : n ≤ 1048576) (hk : k ≤ n) :
    Calls Try.prog 93 #[.agg #[.int .i64 id, .slice A n c, .int .i64 k], .int .i64 key] w fun e w' => e = .returned (.bool (keyIn (l.drop k) key)) ∧ Below w.heap.size w w' := by
  have HL := Lib.hid h.len
  have H := Lib.hid h
  clear h
  go_enter Try.func93, Try.ntmps93
  go_wp2_with fail
  have B0 : Below w.heap.size w (w.alloc (.cells #[.int .i64 id, .slice A n c, .int .i64 k] 57)) := (Below.refl _ _).alloc (Nat.le_refl _) _
  have H0 := Lib.hid (H.out.below B0 (Nat.le_refl _))
  have HB := Lib.hid B0
  clear B0
  go_loop [5] (fun i => ∃ j : Nat, k ≤ j ∧ j ≤ n ∧ i = .int .i64 j ∧ Hid (keyIn ((l.drop k).take (j - k)) key = false))
    (fun i => n - (intOf i).toNat)
  case atStart => exact ⟨k, Nat.le_refl _, hk, rfl, by rw [Nat.sub_self]; rfl⟩
  case round =>
    obtain ⟨j, hkj, hj, rfl, hall⟩ := hrel
    by_cases hlt : j < n
    · obtain ⟨b, off, u, rfl, _, hbB, hu, c0, c1⟩ := H0.out.upd hlt
      have hu' : (l.drop k)[j - k]? = some u := by rw [List.getElem?_drop, show k + (j - k) = j from by omega]; exact hu
      have Hu := Lib.hid hu'
      clear hu hu'
      have hne' : b ≠ w.heap.size := by omega
      by_cases hkey : u.key = key
      · have HK := Lib.hid hkey
        rw [hkey] at c0
        clear hkey
        go_wp2
        go_ret
        exact ⟨ret_bool (keyIn_true Hu.out HK.out).symm, HB.out⟩
      · have hne : (u.key == key) = false := by simp [hkey]
        have HK := Lib.hid hkey
        clear hkey
        go_wp2
        go_round
        case rel => exact ⟨j + 1, by omega, by omega, by go_num, by rw [show j + 1 - k = j - k + 1 from by omega]; exact keyIn_false_succ hall.out Hu.out HK.out⟩
        case measure => simp [intOf]; omega
    · obtain rfl : n = j := by omega
      go_wp2
      go_ret
      exact ⟨ret_bool (keyIn_end (by rw [List.length_drop, HL.out]) hall.out).symm, HB.out⟩
end Go.Proofs.Ytnbakpdphfdacaa
