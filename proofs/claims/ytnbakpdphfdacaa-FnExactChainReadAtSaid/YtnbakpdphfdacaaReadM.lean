/- What a chain tells of a key: the model, in plain Lean. -/
import Derived.Test.YtnbakpdphfdacaaGood
import Derived.Test.YtnbakpdphfdacaaNodeG
namespace Go.Proofs.Ytnbakpdphfdacaa
open Go.RowKit

/-- what the tail tells of a key, and whether it has a value -/
def tailVal (l : List Nod) (key : Int) : Int := match l[l.length - 1]? with | some t => valOf t.log key t.log.length | none => -1
def told (x : Int) : Int × Bool := if x < 0 then (0, false) else (x, true)
def chainRead (v : Int) (l : List Nod) (key : Int) : Int × Bool := if chainOk v l && inB key 0 4 then told (tailVal l key) else (0, false)
def chainReadAt (v : Int) (l : List Nod) (id key : Int) : Int × Int :=
  if chainOk v l && inB key 0 4 then (match placeOf l id with
    | none => (0, 3)
    | some k => match l[k]? with
      | none => (0, 3)
      | some x => if (nodeRead x key).2 = 1 then (if (chainRead v l key).2 then ((chainRead v l key).1, 1) else (0, 2)) else nodeRead x key)
  else (0, 3)
theorem told_neg {x : Int} (h : x < 0) : told x = (0, false) := if_pos h
theorem told_pos {x : Int} (h : ¬ x < 0) : told x = (x, true) := if_neg h
theorem chainRead_bad {v : Int} {l : List Nod} {key : Int} (h : (chainOk v l && inB key 0 4) = false) : chainRead v l key = (0, false) := by unfold chainRead; rw [h]; rfl
theorem chainRead_ok {v : Int} {l : List Nod} {key : Int} (h : (chainOk v l && inB key 0 4) = true) : chainRead v l key = told (tailVal l key) := by unfold chainRead; rw [h]; rfl
theorem tailVal_at {l : List Nod} {key : Int} {t : Nod} {n : Nat} (hn : l.length = n) (h : l[n - 1]? = some t) : tailVal l key = valOf t.log key t.log.length := by subst hn; unfold tailVal; rw [h]
theorem readAt_bad {v : Int} {l : List Nod} {id key : Int} (h : (chainOk v l && inB key 0 4) = false) : chainReadAt v l id key = (0, 3) := by unfold chainReadAt; rw [h]; rfl
theorem readAt_none {v : Int} {l : List Nod} {id key : Int} (h : placeOf l id = none) : chainReadAt v l id key = (0, 3) := by unfold chainReadAt; rw [h]; split <;> rfl
theorem readAt_node {v : Int} {l : List Nod} {id key : Int} {k : Nat} {x : Nod} (h : (chainOk v l && inB key 0 4) = true) (hk : placeOf l id = some k) (hx : l[k]? = some x) :
    chainReadAt v l id key = if (nodeRead x key).2 = 1 then (if (chainRead v l key).2 then ((chainRead v l key).1, 1) else (0, 2)) else nodeRead x key := by
  unfold chainReadAt; rw [h, hk]; simp only [hx]; rfl
theorem valOf_prefix {a b : List Upd} {key : Int} {k : Nat} (h : a <+: b) (hk : k ≤ a.length) : valOf b key k = valOf a key k := by
  unfold valOf stAt; rw [take_prefix h hk]
theorem inB_nat {key : Int} (h : inB key 0 4 = true) : ∃ kk : Nat, key = (kk : Int) ∧ kk < 5 := by
  simp [inB] at h; exact ⟨key.toNat, by omega, by omega⟩
theorem nodeRead_cases {x : Nod} {key : Int} (h : (nodeOk x && inB key 0 4) = true) :
    (keyWaits x key = true ∧ nodeRead x key = (0, 1)) ∨ (keyWaits x key = false ∧ nodeRead x key = (if valOf x.log key x.done.toNat < 0 then (0, 2) else (valOf x.log key x.done.toNat, 0))) := by
  unfold nodeRead; rw [h]
  cases hw : keyWaits x key
  · exact .inr ⟨rfl, rfl⟩
  · exact .inl ⟨rfl, rfl⟩
/-- a node that has nothing of the key pending tells what the tail tells -/
theorem clean_tail {v : Int} {l : List Nod} {key : Int} {x : Nod} (h : Good v l) (hk : inB key 0 4 = true) (hx : x ∈ l) (hw : keyWaits x key = false) : valOf x.log key x.done.toNat = tailVal l key := by
  obtain ⟨a, t, rfl, htd, hall⟩ := good_tail h
  obtain ⟨kk, rfl, hkk⟩ := inB_nat hk
  rw [tailVal_at rfl (show (a ++ [t])[(a ++ [t]).length - 1]? = some t by simp)]
  have hxt := hall x hx
  have hok := nodeOk_iff.1 (h.2.2.2.2.1 x hx)
  have hlen := hxt.1.length_le
  rw [← valOf_prefix (key := (kk : Int)) hxt.1 (Nat.le_refl _)]
  unfold keyWaits at hw
  obtain ⟨j, hj⟩ : ∃ j, x.done.toNat + j = t.log.length := ⟨t.log.length - x.done.toNat, by omega⟩
  rw [← hj]
  exact (valOf_keep hok.2.2.1 hkk hw j (by omega)).symm
/-- who asks is told what the tail has -/
theorem readAt_asked {v : Int} {l : List Nod} {id key : Int} (h : (chainReadAt v l id key).2 = 1) : chainRead v l key = ((chainReadAt v l id key).1, true) := by
  cases hb : (chainOk v l && inB key 0 4)
  · rw [readAt_bad hb] at h; cases h
  · cases hp : placeOf l id with
    | none => rw [readAt_none hp] at h; cases h
    | some k =>
      obtain ⟨x, hx, _⟩ := place_get hp
      rw [readAt_node hb hp hx] at h ⊢
      have hbb := hb
      simp only [Bool.and_eq_true] at hbb
      have hgx := (good_iff.1 hbb.1).2.2.2.2.1 x (List.mem_of_getElem? hx)
      by_cases h1 : (nodeRead x key).2 = 1
      · rw [if_pos h1] at h ⊢
        cases hr : (chainRead v l key).2
        · rw [hr] at h; simp at h
        · simp only [if_true]; rw [← hr]
      · rw [if_neg h1] at h; exact absurd h h1
/-- each node answers as the tail does -/
theorem readAt_any {v : Int} {l : List Nod} {id key : Int} (h : (chainReadAt v l id key).2 ≠ 3) : chainRead v l key = ((chainReadAt v l id key).1, !((chainReadAt v l id key).2 == 2)) := by
  cases hb : (chainOk v l && inB key 0 4)
  · rw [readAt_bad hb] at h; exact absurd rfl h
  · cases hp : placeOf l id with
    | none => rw [readAt_none hp] at h; exact absurd rfl h
    | some k =>
      obtain ⟨x, hx, _⟩ := place_get hp
      rw [readAt_node hb hp hx]
      have hbb := hb
      simp only [Bool.and_eq_true] at hbb
      have g := good_iff.1 hbb.1
      have hxm := List.mem_of_getElem? hx
      have hgx := g.2.2.2.2.1 x hxm
      rcases nodeRead_cases (x := x) (key := key) (by rw [hgx, hbb.2]; rfl) with ⟨_, e⟩ | ⟨hw, e⟩
      · rw [e]; simp only [if_true]
        cases hr : (chainRead v l key).2
        · have hcr := chainRead_ok hb
          by_cases hn : tailVal l key < 0
          · rw [hcr, told_neg hn]; rfl
          · rw [hcr, told_pos hn] at hr; cases hr
        · simp only [if_true]; show _ = ((chainRead v l key).1, true); rw [← hr]
      · have hct := clean_tail g hbb.2 hxm hw
        rw [chainRead_ok hb, ← hct, e]
        by_cases hn : valOf x.log key x.done.toNat < 0
        · rw [if_pos hn, told_neg hn]; rfl
        · rw [if_neg hn, told_pos hn]; rfl
/-- the tail never asks -/
theorem readAt_tail {v : Int} {l : List Nod} {key : Int} {t : Nod} {n : Nat} (h : (chainOk v l && inB key 0 4) = true) (hn : l.length = n) (ht : l[n - 1]? = some t) :
    chainReadAt v l t.id key = ((chainRead v l key).1, if (chainRead v l key).2 then 0 else 2) := by
  have hbb := h
  simp only [Bool.and_eq_true] at hbb
  have g := good_iff.1 hbb.1
  have hp := good_place g ht
  have htm := List.mem_of_getElem? ht
  have hgx := g.2.2.2.2.1 t htm
  have hd : t.done = t.log.length := by have := g.2.2.2.2.2.2; rw [tailOk_at hn ht, decide_eq_true_eq] at this; exact this
  have hw : keyWaits t key = false := by unfold keyWaits; rw [hd]; simp [keyIn]
  rw [readAt_node h hp ht]
  rcases nodeRead_cases (x := t) (key := key) (by rw [hgx, hbb.2]; rfl) with ⟨hw', _⟩ | ⟨_, e⟩
  · rw [hw] at hw'; cases hw'
  · have hct := clean_tail g hbb.2 htm hw
    rw [chainRead_ok h, ← hct, e]
    by_cases hneg : valOf t.log key t.done.toNat < 0
    · rw [if_pos hneg, told_neg hneg]; rfl
    · rw [if_neg hneg, told_pos hneg]; rfl
/-- chains whose tails have the same log tell the same -/
theorem chainRead_same {v u : Int} {l r : List Nod} {key : Int} {t t' : Nod} (h : Good v l) (h' : Good u r) (ht : l[l.length - 1]? = some t) (ht' : r[r.length - 1]? = some t') (e : t'.log = t.log) : chainRead u r key = chainRead v l key := by
  unfold chainRead
  rw [good_iff.2 h, good_iff.2 h', tailVal_at rfl ht, tailVal_at rfl ht', e]
end Go.Proofs.Ytnbakpdphfdacaa
