/- The plain laws of what a node answers; no walk. -/
import Derived.Test.YtnbakpdphfdacaaNodeF
namespace Go.Proofs.Ytnbakpdphfdacaa
open Go.RowKit

theorem nodeRead_ok {x : Nod} {key : Int} (h : (nodeRead x key).2 ≠ 3) : nodeOk x = true ∧ inB key 0 4 = true := by
  cases hb : (nodeOk x && inB key 0 4)
  · exact absurd (by rw [nodeRead_bad hb]) h
  · simpa using hb
theorem nodeRead_waits {x : Nod} {key : Int} (h : (nodeRead x key).2 ≠ 3) : ((nodeRead x key).2 == 1) = keyWaits x key := by
  obtain ⟨h1, h2⟩ := nodeRead_ok h
  have hb : (nodeOk x && inB key 0 4) = true := by rw [h1, h2]; rfl
  cases hw : keyWaits x key
  · by_cases hv : valOf x.log key x.done.toNat < 0
    · rw [nodeRead_none hb hw hv]; rfl
    · rw [nodeRead_clean hb hw hv]; rfl
  · rw [nodeRead_ask hb hw]; rfl
theorem nodeRead_is0 {x : Nod} {key : Int} (h : (nodeRead x key).2 = 0) : keyWaits x key = false ∧ (nodeRead x key).1 = valOf x.log key x.done.toNat ∧ ¬ valOf x.log key x.done.toNat < 0 := by
  have h3 : (nodeRead x key).2 ≠ 3 := by rw [h]; decide
  obtain ⟨h1, h2⟩ := nodeRead_ok h3
  have hb : (nodeOk x && inB key 0 4) = true := by rw [h1, h2]; rfl
  cases hw : keyWaits x key
  · by_cases hv : valOf x.log key x.done.toNat < 0
    · rw [nodeRead_none hb hw hv] at h; exact absurd h (by decide)
    · exact ⟨rfl, by rw [nodeRead_clean hb hw hv], hv⟩
  · rw [nodeRead_ask hb hw] at h; exact absurd h (by decide)
theorem nodeRead_is2 {x : Nod} {key : Int} (h : (nodeRead x key).2 = 2) : keyWaits x key = false ∧ (nodeRead x key).1 = 0 ∧ valOf x.log key x.done.toNat < 0 := by
  have h3 : (nodeRead x key).2 ≠ 3 := by rw [h]; decide
  obtain ⟨h1, h2⟩ := nodeRead_ok h3
  have hb : (nodeOk x && inB key 0 4) = true := by rw [h1, h2]; rfl
  cases hw : keyWaits x key
  · by_cases hv : valOf x.log key x.done.toNat < 0
    · exact ⟨rfl, by rw [nodeRead_none hb hw hv], hv⟩
    · rw [nodeRead_clean hb hw hv] at h; exact absurd (show (0 : Int) = 2 from h) (by decide)
  · rw [nodeRead_ask hb hw] at h; exact absurd h (by decide)

theorem valOf_succ {l : List Upd} {k kk : Nat} {u : Upd} (hok : logOk l = true) (hk : kk < 5) (hu : l[k]? = some u) : valOf l kk (k + 1) = if u.key = (kk : Int) then u.value else valOf l kk k := by
  obtain ⟨ku, hku, hku5⟩ := logOk_key hok hu
  have h1 := stAt_at (l := l) (k := k + 1) hk
  have h2 := stAt_at (l := l) (k := k) hk
  rw [stAt_succ hu hku] at h1
  by_cases e : ku = kk
  · subst e
    rw [List.getElem?_set_self (by rw [stAt_len]; exact hk)] at h1
    injection h1 with h1
    rw [if_pos hku, ← h1]
  · rw [List.getElem?_set_ne e, h2] at h1
    injection h1 with h1
    rw [if_neg (by omega), ← h1]
theorem valOf_zero (l : List Upd) {kk : Nat} (hk : kk < 5) : valOf l kk 0 = -1 := by
  have h1 := stAt_at (l := l) (k := 0) hk
  have e : stAt l 0 = st0 := rfl
  rw [e] at h1
  match kk, hk with
  | 0, _ => injection h1 with h1; try exact h1.symm
  | 1, _ => injection h1 with h1; try exact h1.symm
  | 2, _ => injection h1 with h1; try exact h1.symm
  | 3, _ => injection h1 with h1; try exact h1.symm
  | 4, _ => injection h1 with h1; try exact h1.symm
theorem valOf_some {l : List Upd} {kk : Nat} (hok : logOk l = true) (hk5 : kk < 5) : ∀ k, k ≤ l.length → (valOf l kk k < 0 ↔ keyIn (l.take k) kk = false) := by
  intro k
  induction k with
  | zero => intro _; rw [valOf_zero l hk5]; simp [keyIn]
  | succ k ih =>
    intro hk
    have hu := List.getElem?_eq_getElem (l := l) (i := k) (by omega)
    have hi := ih (by omega)
    rw [valOf_succ hok hk5 hu]
    have hv : 0 ≤ l[k].value := by
      have := logOk_at hok hu
      simp only [updOk, Bool.and_eq_true, inB, decide_eq_true_eq] at this
      omega
    by_cases e : l[k].key = (kk : Int)
    · rw [if_pos e]
      have : keyIn (l.take (k + 1)) kk = true := keyIn_true (k := k) (u := l[k]) (by rw [List.getElem?_take, if_pos (by omega)]; exact hu) e
      rw [this]
      constructor
      · intro h; omega
      · intro h; cases h
    · rw [if_neg e, hi]
      have : keyIn (l.take (k + 1)) kk = keyIn (l.take k) kk := by
        unfold keyIn
        rw [List.take_succ_eq_append_getElem (by omega), List.any_append]
        simp [e]
      rw [this]
theorem valOf_keep {l : List Upd} {kk k : Nat} (hok : logOk l = true) (hk5 : kk < 5) (hn : keyIn (l.drop k) kk = false) : ∀ j, k + j ≤ l.length → valOf l kk (k + j) = valOf l kk k := by
  intro j
  induction j with
  | zero => intro _; rfl
  | succ j ih =>
    intro hj
    have hu := List.getElem?_eq_getElem (l := l) (i := k + j) (by omega)
    rw [show k + (j + 1) = k + j + 1 from by omega, valOf_succ hok hk5 hu]
    have : l[k + j].key ≠ (kk : Int) := by
      intro e
      have : keyIn (l.drop k) kk = true := keyIn_true (k := j) (u := l[k + j]) (by rw [List.getElem?_drop]; exact hu) e
      rw [hn] at this; cases this
    rw [if_neg this]
    exact ih (by omega)
theorem valOf_end {l : List Upd} {kk k : Nat} (hok : logOk l = true) (hk5 : kk < 5) (hk : k ≤ l.length) (hn : keyIn (l.drop k) kk = false) : valOf l kk l.length = valOf l kk k := by
  have := valOf_keep hok hk5 hn (l.length - k) (by omega)
  rwa [show k + (l.length - k) = l.length from by omega] at this
theorem keyIn_split {l : List Upd} {k : Nat} {key : Int} (h1 : keyIn (l.take k) key = false) (h2 : keyIn (l.drop k) key = false) : keyIn l key = false := by
  have : keyIn (l.take k ++ l.drop k) key = false := by
    unfold keyIn at *; rw [List.any_append, h1, h2]; rfl
  rwa [List.take_append_drop] at this
theorem pending_ok {x : Nod} {k : Nat} (h : nodeOk x = true) (hd : x.done = (k : Int)) : pending x = x.log.drop k := by simp [pending, h, hd]
theorem waits_pending {x : Nod} {key : Int} (h : nodeOk x = true) : keyWaits x key = keyIn (pending x) key := by simp [keyWaits, pending, h]
/-- a node that has been told all -/
theorem nodeRead_told {x : Nod} {key : Int} {n : Nat} (hl : x.log.length = n) (h1 : nodeOk x = true) (h2 : inB key 0 4 = true) : (nodeRead ⟨x.id, x.log, n⟩ key).2 ≠ 1 ∧ (nodeRead ⟨x.id, x.log, n⟩ key).2 ≠ 3 := by
  have ho : nodeOk ⟨x.id, x.log, n⟩ = true := by
    simp only [nodeOk, Bool.and_eq_true] at h1 ⊢
    refine ⟨h1.1, ?_⟩
    simp [inB, hl]
  have hb : (nodeOk ⟨x.id, x.log, n⟩ && inB key 0 4) = true := by rw [ho, h2]; rfl
  have hw : keyWaits ⟨x.id, x.log, n⟩ key = false := by
    simp [keyWaits, List.drop_eq_nil_of_le (show x.log.length ≤ n by omega), keyIn]
  by_cases hv : valOf x.log key n < 0
  · rw [nodeRead_none hb hw (by simpa using hv)]; exact ⟨by decide, by decide⟩
  · rw [nodeRead_clean hb hw (by simpa using hv)]; exact ⟨(show (0 : Int) ≠ 1 by decide), (show (0 : Int) ≠ 3 by decide)⟩
end Go.Proofs.Ytnbakpdphfdacaa
