/- What a node answers: the plain functions, the program's and the reference's walks. -/
import Derived.Test.YtagejkfeceeifaaNodeB
namespace Go.Proofs.Ytagejkfeceeifaa
open Go.RowKit

def keyIn (l : List Upd) (key : Int) : Bool := l.any fun u => decide (u.key = key)
def keyWaits (x : Nod) (key : Int) : Bool := keyIn (x.log.drop x.done.toNat) key
def valOf (l : List Upd) (key : Int) (many : Nat) : Int := (stAt l many).getD key.toNat 0
def nodeValueAt (x : Nod) (key many : Int) : Int × Bool :=
  if nodeOk x && inB key 0 4 && inB many 0 x.log.length then (if valOf x.log key many.toNat < 0 then (0, false) else (valOf x.log key many.toNat, true)) else (0, false)
def nodeRead (x : Nod) (key : Int) : Int × Int :=
  if nodeOk x && inB key 0 4 then (if keyWaits x key then (0, 1) else if valOf x.log key x.done.toNat < 0 then (0, 2) else (valOf x.log key x.done.toNat, 0)) else (0, 3)

theorem keyIn_false_succ {l : List Upd} {k : Nat} {u : Upd} {key : Int} (h : keyIn (l.take k) key = false) (hu : l[k]? = some u) (ho : u.key ≠ key) : keyIn (l.take (k + 1)) key = false := by
  have hk := (List.getElem?_eq_some_iff.1 hu).1
  have e : l[k] = u := by rw [List.getElem?_eq_getElem hk] at hu; injection hu
  unfold keyIn at *
  rw [List.take_succ_eq_append_getElem hk, List.any_append, h, e]; simp [ho]
theorem keyIn_true {l : List Upd} {k : Nat} {u : Upd} {key : Int} (hu : l[k]? = some u) (ho : u.key = key) : keyIn l key = true := by
  unfold keyIn
  rw [List.any_eq_true]
  exact ⟨u, List.mem_of_getElem? hu, by simp [ho]⟩
theorem keyIn_end {l : List Upd} {n : Nat} {key : Int} (hl : l.length = n) (h : keyIn (l.take n) key = false) : keyIn l key = false := by
  rwa [List.take_of_length_le (by omega)] at h
theorem nodeOk_done {x : Nod} (h : nodeOk x = true) : ∃ k : Nat, x.done = (k : Int) ∧ k ≤ x.log.length ∧ logOk x.log = true := by
  simp only [nodeOk, Bool.and_eq_true, inB, decide_eq_true_eq] at h
  exact ⟨x.done.toNat, by omega, by omega, h.1.2⟩

theorem Flat.drop_at {α : Type} {enc : α → List Value} {sz : Nat} {w : World} {lo hi n c b off k : Nat} {l : List α} (h : Flat enc sz w lo hi (some ⟨b, off, none⟩) n c l) (hk : k < n) : Flat enc sz w lo hi (some ⟨b, off + k * sz, none⟩) (n - k) (c - k) (l.drop k) := by
  have h' := h.drop_ (Nat.le_of_lt hk)
  have hnc := h.2.1
  rw [if_neg (by omega)] at h'
  have e : Option.map (fun x : Addr => x.add (k * sz)) (some ⟨b, off, none⟩) = some ⟨b, off + k * sz, none⟩ := by
    simp only [Option.map_some, Addr.add]
    split
    · rename_i h0; rw [h0]; rfl
    · rfl
  rw [e] at h'; exact h'


end Go.Proofs.Ytagejkfeceeifaa
