/- Texts of this claim, joined: Settle SettleP Queue LinkAt CopyCh Tell L4Take PassM Pass Do. -/
import Derived.Lib.QuietBelow
import Derived.Test.YtemgilofjbnoaaaGreatDoorWB2
import Derived.Test.YtemgilofjbnoaaaGreatDoorWB1
import Derived.Test.YtemgilofjbnoaaaGreatDoorWA4
import Derived.Test.YtemgilofjbnoaaaGreatDoorWA3
set_option linter.unusedSimpArgs false
set_option linter.unusedVariables false
namespace Go.Proofs.YtemgilofjbnoaaaGreatDoor
open Go.RowKit
def passed (l : List Nod) (x y : Nod) (i : Nat) : Nod := ⟨y.id, x.log.take (y.log.length + 1), if i + 2 = l.length then ((y.log.length + 1 : Nat) : Int) else y.done⟩
def passAt (l : List Nod) (i : Nat) : Option (List Nod) :=
  match l[i]?, l[i + 1]? with
  | some x, some y => if y.log.length = x.log.length then none else some (l.set (i + 1) (passed l x y i))
  | _, _ => none
def tellAt (l : List Nod) (i : Nat) : Option (List Nod) :=
  match l[i]?, l[i + 1]? with
  | some x, some y => if x.done = y.done then none else some (l.set i ⟨x.id, x.log, y.done⟩)
  | _, _ => none
def firstPass (l : List Nod) : Option (List Nod) := (List.range (l.length - 1)).findSome? (passAt l)
def lastTell (l : List Nod) : Option (List Nod) := (List.range (l.length - 1)).reverse.findSome? (tellAt l)
def stepL (l : List Nod) : Option (List Nod) := match firstPass l with | some r => some r | none => lastTell l
theorem passAt_some {l r : List Nod} {i : Nat} (h : passAt l i = some r) : ∃ x y, l[i]? = some x ∧ l[i + 1]? = some y ∧ y.log.length ≠ x.log.length ∧ r = l.set (i + 1) (passed l x y i) := by
  unfold passAt at h
  split at h
  · rename_i x y hx hy
    split at h
    · cases h
    · rename_i hne
      injection h with h
      exact ⟨x, y, hx, hy, hne, h.symm⟩
  · cases h
theorem tellAt_some {l r : List Nod} {i : Nat} (h : tellAt l i = some r) : ∃ x y, l[i]? = some x ∧ l[i + 1]? = some y ∧ x.done ≠ y.done ∧ r = l.set i ⟨x.id, x.log, y.done⟩ := by
  unfold tellAt at h
  split at h
  · rename_i x y hx hy
    split at h
    · cases h
    · rename_i hne
      injection h with h
      exact ⟨x, y, hx, hy, hne, h.symm⟩
  · cases h
theorem good_at {v : Int} {l : List Nod} (h : Good v l) {i j : Nat} {x y : Nod} (hx : l[i]? = some x) (hy : l[j]? = some y) (hij : i < j) : Ahead x y := by
  obtain ⟨hi, rfl⟩ := List.getElem?_eq_some_iff.1 hx
  obtain ⟨hj, rfl⟩ := List.getElem?_eq_some_iff.1 hy
  exact (List.pairwise_iff_getElem.1 h.2.2.2.2.2.1) i j hi hj hij
theorem goodl_ok {v : Int} {l : List Nod} (h : Good v l) {i : Nat} {x : Nod} (hx : l[i]? = some x) : nodeOk x = true := h.2.2.2.2.1 x (List.mem_of_getElem? hx)
theorem good_set {v : Int} {l : List Nod} (h : Good v l) {k : Nat} {y : Nod} (hk : k < l.length) (hok : nodeOk y = true) (hb : ∀ (j : Nat) (x : Nod), j < k → l[j]? = some x → Ahead x y) (ha : ∀ (j : Nat) (x : Nod), k < j → l[j]? = some x → Ahead y x) (ht : k + 1 = l.length → y.done = y.log.length) : Good v (l.set k y) := by
  obtain ⟨h1, h2, h3, h4, h5, h6, h7⟩ := id h
  refine ⟨h1, h2, by simpa using h3, by simpa using h4, fun x hx => ?_, ?_, ?_⟩
  · rcases List.mem_or_eq_of_mem_set hx with hx | rfl
    · exact h5 x hx
    · exact hok
  · rw [List.pairwise_iff_getElem]
    intro i j hi hj hij
    simp only [List.length_set] at hi hj
    simp only [List.getElem_set]
    have gi := List.getElem?_eq_getElem hi
    have gj := List.getElem?_eq_getElem hj
    by_cases ei : k = i
    · subst ei
      have : ¬ k = j := by omega
      simp only [if_true, this, if_false]
      exact ha j _ hij gj
    · by_cases ej : k = j
      · subst ej
        simp only [ei, if_false, if_true]
        exact hb i _ hij gi
      · simp only [ei, ej, if_false]
        exact (List.pairwise_iff_getElem.1 h6) i j hi hj hij
  · unfold tailOk
    simp only [List.length_set]
    by_cases e : k + 1 = l.length
    · have e' : l.length - 1 = k := by omega
      rw [e', List.getElem?_set_self hk]
      simpa using ht e
    · rw [List.getElem?_set_ne (by omega)]
      unfold tailOk at h7
      exact h7
theorem take_le_prefix {α : Type} {l : List α} {m n : Nat} (h : m ≤ n) : l.take m <+: l.take n := by
  have : l.take m = (l.take n).take m := by rw [List.take_take, Nat.min_eq_left h]
  rw [this]
  exact List.take_prefix _ _
theorem prefix_take {α : Type} {a b : List α} (h : a <+: b) : a = b.take a.length := (List.prefix_iff_eq_take.1 h)
theorem logOk_take {l : List Upd} (h : logOk l = true) (n : Nat) : logOk (l.take n) = true := by
  unfold logOk at h ⊢
  simp only [Bool.and_eq_true, decide_eq_true_eq, List.all_eq_true] at h ⊢
  exact ⟨by rw [List.length_take]; omega, fun u hu => h.2 u (List.mem_of_mem_take hu)⟩
theorem good_pass {v : Int} {l r : List Nod} {i : Nat} (h : Good v l) (hp : passAt l i = some r) : Good v r := by
  obtain ⟨x, y, hx, hy, hne, rfl⟩ := passAt_some hp
  have hxy := good_at h hx hy (by omega)
  have hl := hxy.2.1.length_le
  have hyk := nodeOk_iff.1 (goodl_ok h hy)
  have hxk := nodeOk_iff.1 (goodl_ok h hx)
  have hi : i + 1 < l.length := (List.getElem?_eq_some_iff.1 hy).1
  have htl : (x.log.take (y.log.length + 1)).length = y.log.length + 1 := by rw [List.length_take]; omega
  have hd : y.done ≤ (passed l x y i).done := by
    show y.done ≤ if i + 2 = l.length then ((y.log.length + 1 : Nat) : Int) else y.done
    split <;> omega
  have hpre : y.log <+: x.log.take (y.log.length + 1) := by
    conv => lhs; rw [prefix_take hxy.2.1]
    exact take_le_prefix (by omega)
  refine good_set h hi (nodeOk_iff.2 ⟨hyk.1, hyk.2.1, logOk_take hxk.2.2.1 _, ?_, ?_⟩) (fun j z hj hz => ?_) (fun j z hj hz => ?_) (fun e => ?_)
  · have := hyk.2.2.2.1; omega
  · show (if i + 2 = l.length then ((y.log.length + 1 : Nat) : Int) else y.done) ≤ ((x.log.take (y.log.length + 1)).length : Int)
    rw [htl]
    split <;> omega
  · have hzy := good_at h hz hy hj
    refine ⟨hzy.1, ?_, Int.le_trans hzy.2.2 hd⟩
    show x.log.take (y.log.length + 1) <+: z.log
    refine (List.take_prefix _ _).trans ?_
    by_cases e : j = i
    · subst e; rw [hx] at hz; injection hz with hz; subst hz; exact List.prefix_rfl
    · exact (good_at h hz hx (by omega)).2.1
  · have hyz := good_at h hy hz (by omega)
    have hjl : j < l.length := (List.getElem?_eq_some_iff.1 hz).1
    refine ⟨hyz.1, hyz.2.1.trans hpre, ?_⟩
    show (if i + 2 = l.length then ((y.log.length + 1 : Nat) : Int) else y.done) ≤ z.done
    rw [if_neg (by omega)]
    exact hyz.2.2
  · show (if i + 2 = l.length then ((y.log.length + 1 : Nat) : Int) else y.done) = ((x.log.take (y.log.length + 1)).length : Int)
    rw [if_pos (by omega), htl]
theorem good_tell {v : Int} {l r : List Nod} {i : Nat} (h : Good v l) (hp : tellAt l i = some r) : Good v r := by
  obtain ⟨x, y, hx, hy, hne, rfl⟩ := tellAt_some hp
  have hxy := good_at h hx hy (by omega)
  have hl := hxy.2.1.length_le
  have hyk := nodeOk_iff.1 (goodl_ok h hy)
  have hxk := nodeOk_iff.1 (goodl_ok h hx)
  have hi : i + 1 < l.length := (List.getElem?_eq_some_iff.1 hy).1
  refine good_set h (by omega) (nodeOk_iff.2 ⟨hxk.1, hxk.2.1, hxk.2.2.1, hyk.2.2.2.1, by show y.done ≤ (x.log.length : Int); omega⟩) (fun j z hj hz => ?_) (fun j z hj hz => ?_) (fun e => by omega)
  · have hzx := good_at h hz hx hj
    exact ⟨hzx.1, hzx.2.1, Int.le_trans hzx.2.2 hxy.2.2⟩
  · have hxz := good_at h hx hz (by omega)
    refine ⟨hxz.1, hxz.2.1, ?_⟩
    show y.done ≤ z.done
    by_cases e : j = i + 1
    · subst e; rw [hy] at hz; injection hz with hz; subst hz; exact Int.le_refl _
    · exact (good_at h hy hz (by omega)).2.2
end Go.Proofs.YtemgilofjbnoaaaGreatDoor
namespace Go.Proofs.YtemgilofjbnoaaaGreatDoor
open Go.RowKit
def sumR (f : Nat → Nat) : Nat → Nat
  | 0 => 0
  | n + 1 => sumR f n + f n
theorem sumR_congr {f g : Nat → Nat} : ∀ {n : Nat}, (∀ i, i < n → f i = g i) → sumR f n = sumR g n
  | 0, _ => rfl
  | n + 1, h => by
    show sumR f n + f n = sumR g n + g n
    rw [sumR_congr (fun i hi => h i (by omega)), h n (by omega)]
theorem sumR_one {f g : Nat → Nat} {k : Nat} : ∀ {n : Nat}, k < n → f k = g k + 1 → (∀ i, i < n → i ≠ k → f i = g i) → sumR f n = sumR g n + 1
  | 0, h, _, _ => by omega
  | n + 1, h, hk, ho => by
    show sumR f n + f n = sumR g n + g n + 1
    by_cases e : k = n
    · subst e
      rw [sumR_congr (fun i hi => ho i (by omega) (by omega)), hk]; omega
    · rw [sumR_one (by omega) hk (fun i hi => ho i (by omega)), ho n (by omega) (fun h => e h.symm)]; omega
theorem sumR_zero {f : Nat → Nat} : ∀ {n : Nat}, (∀ i, i < n → f i = 0) → sumR f n = 0
  | 0, _ => rfl
  | n + 1, h => by
    show sumR f n + f n = 0
    rw [sumR_zero (fun i hi => h i (by omega)), h n (by omega)]
theorem sumR_le {f : Nat → Nat} {b : Nat} : ∀ {n : Nat}, (∀ i, i < n → f i ≤ b) → sumR f n ≤ n * b
  | 0, _ => by simp [sumR]
  | n + 1, h => by
    show sumR f n + f n ≤ (n + 1) * b
    have h1 := sumR_le (fun i hi => h i (Nat.lt_succ_of_lt hi))
    have h2 := h n (by omega)
    rw [Nat.succ_mul]; omega
def hd (l : List Nod) : List Upd := match l with | x :: _ => x.log | [] => []
def lagA (l : List Nod) (i : Nat) : Nat := match l[i]? with | some x => (hd l).length - x.log.length | none => 0
def dueA (l : List Nod) (i : Nat) : Nat := match l[i]? with | some x => if x.done = ((hd l).length : Int) then 0 else 1 | none => 0
def pot (l : List Nod) : Nat := sumR (lagA l) l.length + sumR (dueA l) (l.length - 1)
def settledM (l : List Nod) : List Nod := l.map fun x => ⟨x.id, hd l, ((hd l).length : Nat)⟩
theorem hd_at {l : List Nod} {x : Nod} (h : l[0]? = some x) : hd l = x.log := by
  cases l with
  | nil => cases h
  | cons a t => simp at h; subst h; rfl
theorem hd_pos {v : Int} {l : List Nod} (h : Good v l) : ∃ x, l[0]? = some x ∧ hd l = x.log := by
  have := h.2.2.1
  have e : l[0]? = some l[0] := List.getElem?_eq_getElem (by omega)
  exact ⟨_, e, hd_at e⟩
theorem log_hd {v : Int} {l : List Nod} (h : Good v l) {i : Nat} {x : Nod} (hx : l[i]? = some x) : x.log <+: hd l := by
  obtain ⟨y, hy, e⟩ := hd_pos h
  rw [e]
  cases i with
  | zero => rw [hx] at hy; injection hy with hy; subst hy; exact List.prefix_rfl
  | succ i => exact (good_at h hy hx (by omega)).2.1
theorem log_full {v : Int} {l : List Nod} (h : Good v l) {i : Nat} {x : Nod} (hx : l[i]? = some x) (e : x.log.length = (hd l).length) : x.log = hd l := (log_hd h hx).eq_of_length e
theorem hd_len {v : Int} {l : List Nod} (h : Good v l) : (hd l).length ≤ 12 := by
  obtain ⟨y, hy, e⟩ := hd_pos h
  rw [e]
  have := (nodeOk_iff.1 (goodl_ok h hy)).2.2.1
  unfold logOk at this
  simp only [Bool.and_eq_true, decide_eq_true_eq] at this
  exact this.1
theorem lagA_at {l : List Nod} {i : Nat} {x : Nod} (hx : l[i]? = some x) : lagA l i = (hd l).length - x.log.length := by unfold lagA; rw [hx]
theorem dueA_at {l : List Nod} {i : Nat} {x : Nod} (hx : l[i]? = some x) : dueA l i = if x.done = ((hd l).length : Int) then 0 else 1 := by unfold dueA; rw [hx]
theorem pot_le {v : Int} {l : List Nod} (h : Good v l) : pot l ≤ 65 := by
  have h1 : sumR (lagA l) l.length ≤ l.length * 12 := sumR_le fun i hi => by
    rw [lagA_at (List.getElem?_eq_getElem hi)]; have := hd_len h; omega
  have h2 : sumR (dueA l) (l.length - 1) ≤ (l.length - 1) * 1 := sumR_le fun i hi => by
    rw [dueA_at (List.getElem?_eq_getElem (by omega))]; split <;> omega
  have := h.2.2.2.1
  unfold pot
  omega
theorem tail_done {v : Int} {l : List Nod} (h : Good v l) {i : Nat} {x : Nod} (hx : l[i]? = some x) (hi : i + 1 = l.length) : x.done = x.log.length := by
  have ht := h.2.2.2.2.2.2
  have e : l.length - 1 = i := by omega
  unfold tailOk at ht
  rw [e, hx] at ht
  simpa using ht
section
variable {v : Int} {l r : List Nod} {i : Nat}
theorem hd_set {k : Nat} {y : Nod} (hy : ∀ x, l[k]? = some x → k = 0 → y.log = x.log) : hd (l.set k y) = hd l := by
  cases l with
  | nil => rfl
  | cons a t =>
    cases k with
    | zero => exact hy a rfl rfl
    | succ k => rfl
theorem map_set_same {α β : Type} {f : α → β} {l : List α} {k : Nat} {x y : α} (hx : l[k]? = some x) (e : f y = f x) : (l.set k y).map f = l.map f := by
  obtain ⟨hk, rfl⟩ := List.getElem?_eq_some_iff.1 hx
  rw [List.map_set, e]
  apply List.ext_getElem (by simp)
  intro j h1 h2
  simp only [List.getElem_set, List.getElem_map]
  split
  · rename_i e; subst e; rfl
  · rfl
theorem pass_hd (hp : passAt l i = some r) : hd r = hd l := by
  obtain ⟨x, y, hx, hy, hne, rfl⟩ := passAt_some hp
  exact hd_set (fun _ _ h => by omega)
theorem tell_hd (hp : tellAt l i = some r) : hd r = hd l := by
  obtain ⟨x, y, hx, hy, hne, rfl⟩ := tellAt_some hp
  exact hd_set (fun z hz _ => by rw [hx] at hz; injection hz with hz; subst hz; rfl)
theorem pass_settled (hp : passAt l i = some r) : settledM r = settledM l := by
  unfold settledM
  rw [pass_hd hp]
  obtain ⟨x, y, hx, hy, hne, rfl⟩ := passAt_some hp
  exact map_set_same hy rfl
theorem tell_settled (hp : tellAt l i = some r) : settledM r = settledM l := by
  unfold settledM
  rw [tell_hd hp]
  obtain ⟨x, y, hx, hy, hne, rfl⟩ := tellAt_some hp
  exact map_set_same hx rfl
theorem pass_len (hp : passAt l i = some r) : r.length = l.length := by
  obtain ⟨x, y, hx, hy, hne, rfl⟩ := passAt_some hp; simp
theorem tell_len (hp : tellAt l i = some r) : r.length = l.length := by
  obtain ⟨x, y, hx, hy, hne, rfl⟩ := tellAt_some hp; simp
theorem pass_lag (h : Good v l) (hp : passAt l i = some r) : lagA l (i + 1) = lagA r (i + 1) + 1 ∧ ∀ j : Nat, j ≠ i + 1 → r[j]? = l[j]? := by
  have hh := pass_hd hp
  obtain ⟨x, y, hx, hy, hne, rfl⟩ := passAt_some hp
  have hlt := (List.getElem?_eq_some_iff.1 hy).1
  have l1 := (good_at h hx hy (by omega)).2.1.length_le
  have l2 := (log_hd h hx).length_le
  refine ⟨?_, fun j hj => List.getElem?_set_ne (fun e => hj e.symm)⟩
  rw [lagA_at hy, lagA_at (List.getElem?_set_self hlt), hh]
  show (hd l).length - y.log.length = (hd l).length - (x.log.take (y.log.length + 1)).length + 1
  rw [List.length_take]; omega
theorem lagA_congr {k : Nat} (hh : hd r = hd l) (e : r[k]? = l[k]?) : lagA r k = lagA l k := by unfold lagA; rw [hh, e]
theorem dueA_congr {k : Nat} (hh : hd r = hd l) (e : r[k]? = l[k]?) : dueA r k = dueA l k := by unfold dueA; rw [hh, e]
theorem pass_pot (h : Good v l) (hp : passAt l i = some r) : pot l = pot r + 1 := by
  have hh := pass_hd hp
  have hl := pass_len hp
  obtain ⟨h1, h2⟩ := pass_lag h hp
  have hi : i + 1 < l.length := by
    obtain ⟨x, y, hx, hy, _⟩ := passAt_some hp
    exact (List.getElem?_eq_some_iff.1 hy).1
  unfold pot
  rw [hl, sumR_one hi h1 (fun j _ hj => (lagA_congr hh (h2 j hj)).symm)]
  have hd' : sumR (dueA l) (l.length - 1) = sumR (dueA r) (l.length - 1) := sumR_congr fun j hj => by
    by_cases e : j = i + 1
    · subst e
      obtain ⟨x, y, hx, hy, hne, rfl⟩ := passAt_some hp
      rw [dueA_at hy, dueA_at (List.getElem?_set_self hi), hh]
      show (if y.done = _ then 0 else 1) = if (if i + 2 = l.length then ((y.log.length + 1 : Nat) : Int) else y.done) = _ then 0 else 1
      rw [if_neg (show ¬ i + 2 = l.length by omega)]
    · exact (dueA_congr hh (h2 j e)).symm
  omega
theorem tell_pot (hp : tellAt l i = some r) (hf : ∀ y, l[i + 1]? = some y → y.done = ((hd l).length : Int)) : pot l = pot r + 1 ∧ (∀ j : Nat, Option.map (fun z : Nod => z.log.length) r[j]? = Option.map (fun z : Nod => z.log.length) l[j]?) ∧ (∀ j : Nat, j ≠ i → r[j]? = l[j]?) ∧ ∀ x : Nod, r[i]? = some x → x.done = ((hd l).length : Int) := by
  have hh := tell_hd hp
  have hl := tell_len hp
  obtain ⟨x, y, hx, hy, hne, rfl⟩ := tellAt_some hp
  have hy' := hf y hy
  have hi := (List.getElem?_eq_some_iff.1 hy).1
  have ho : ∀ j, j ≠ i → (l.set i ⟨x.id, x.log, y.done⟩)[j]? = l[j]? := fun j hj => List.getElem?_set_ne (fun e => hj e.symm)
  have hs : (l.set i ⟨x.id, x.log, y.done⟩)[i]? = some ⟨x.id, x.log, y.done⟩ := List.getElem?_set_self (by omega)
  refine ⟨?_, fun j => ?_, ho, fun z hz => by rw [hs] at hz; injection hz with hz; subst hz; exact hy'⟩
  · unfold pot
    rw [hl]
    have e1 : sumR (lagA l) l.length = sumR (lagA (l.set i ⟨x.id, x.log, y.done⟩)) l.length := sumR_congr fun j _ => by
      by_cases e : j = i
      · subst e; rw [lagA_at hx, lagA_at hs, hh]
      · exact (lagA_congr hh (ho j e)).symm
    have e2 : dueA l i = dueA (l.set i ⟨x.id, x.log, y.done⟩) i + 1 := by
      rw [dueA_at hx, dueA_at hs, hh, if_neg (by rw [← hy']; exact hne)]
      show 1 = (if y.done = _ then 0 else 1) + 1
      rw [if_pos hy']
    rw [sumR_one (f := dueA l) (show i < l.length - 1 by omega) e2 (fun j _ hj => (dueA_congr hh (ho j hj)).symm)]
    omega
  · by_cases e : j = i
    · subst e; rw [hs, hx]; rfl
    · rw [ho j e]
def AllFull (l : List Nod) : Prop := ∀ (j : Nat) (x : Nod), l[j]? = some x → x.log.length = (hd l).length
def KnowFrom (l : List Nod) (i : Nat) : Prop := ∀ (j : Nat) (x : Nod), i ≤ j → l[j]? = some x → x.done = ((hd l).length : Int)
theorem settled_of (h : Good v l) (hf : AllFull l) (hk : KnowFrom l 0) : settledM l = l ∧ pot l = 0 := by
  constructor
  · unfold settledM
    apply List.ext_getElem? fun j => ?_
    rw [List.getElem?_map]
    cases hx : l[j]? with
    | none => rfl
    | some x =>
      have e1 := log_full h hx (hf j x hx)
      have e2 := hk j x (Nat.zero_le _) hx
      show some (⟨x.id, hd l, _⟩ : Nod) = some x
      rw [← e2, ← e1]
  · unfold pot
    have e1 : sumR (lagA l) l.length = 0 := sumR_zero fun j hj => by
      rw [lagA_at (List.getElem?_eq_getElem hj), hf j _ (List.getElem?_eq_getElem hj)]; omega
    have e2 : sumR (dueA l) (l.length - 1) = 0 := sumR_zero fun j hj => by
      have hj' : j < l.length := by omega
      rw [dueA_at (List.getElem?_eq_getElem hj'), if_pos (hk j _ (Nat.zero_le _) (List.getElem?_eq_getElem hj'))]
    rw [e1, e2]
theorem know_tail (h : Good v l) (hf : AllFull l) : KnowFrom l (l.length - 1) := fun j x hj hx => by
  have := (List.getElem?_eq_some_iff.1 hx).1
  rw [tail_done h hx (by omega), hf j x hx]
theorem tell_full (hp : tellAt l i = some r) (hf : AllFull l) : AllFull r := fun j x hx => by
  rw [tell_hd hp]
  obtain ⟨a, y, ha, hy, hne, rfl⟩ := tellAt_some hp
  by_cases e : j = i
  · subst e
    rw [List.getElem?_set_self (List.getElem?_eq_some_iff.1 ha).1] at hx
    injection hx with hx; subst hx
    exact hf j a ha
  · rw [List.getElem?_set_ne (fun e' => e e'.symm)] at hx
    exact hf j x hx
theorem tell_know (hp : tellAt l i = some r) (hk : KnowFrom l (i + 1)) : KnowFrom r i := fun j x hj hx => by
  obtain ⟨_, _, ho, hs⟩ := tell_pot hp (fun y hy => hk _ _ (Nat.le_refl _) hy)
  rw [tell_hd hp]
  by_cases e : j = i
  · subst e; exact hs x hx
  · rw [ho j e] at hx
    exact hk j x (by omega) hx
theorem know_step (hp : tellAt l i = none) (hi : i + 1 < l.length) (hk : KnowFrom l (i + 1)) : KnowFrom l i := fun j x hj hx => by
  by_cases e : j = i
  · subst e
    have hy : l[j + 1]? = some l[j + 1] := List.getElem?_eq_getElem hi
    unfold tellAt at hp
    rw [hx, hy] at hp
    simp only [ite_eq_left_iff, reduceCtorEq, imp_false, Decidable.not_not] at hp
    rw [hp]; exact hk _ _ (by omega) hy
  · exact hk j x (by omega) hx
theorem full_of_none (hp : ∀ i, i + 1 < l.length → passAt l i = none) : AllFull l := fun j => by
  induction j with
  | zero => intro x hx; rw [hd_at hx]
  | succ j ih =>
    intro y hy
    have hj := (List.getElem?_eq_some_iff.1 hy).1
    have hx : l[j]? = some l[j] := List.getElem?_eq_getElem (by omega)
    have h := hp j hj
    unfold passAt at h
    rw [hx, hy] at h
    simp only [ite_eq_left_iff, reduceCtorEq, imp_false, Decidable.not_not] at h
    rw [h]; exact ih _ hx
theorem findSome_some {α : Type} {f : Nat → Option α} {n : Nat} {r : α} (h : (List.range n).findSome? f = some r) : ∃ k, k < n ∧ f k = some r ∧ ∀ j, j < k → f j = none := by
  induction n with
  | zero => simp at h
  | succ n ih =>
    rw [List.range_succ, List.findSome?_append] at h
    cases h1 : (List.range n).findSome? f with
    | some a =>
      rw [h1] at h
      simp at h
      subst h
      obtain ⟨k, a, b, c⟩ := ih h1
      exact ⟨k, by omega, b, c⟩
    | none =>
      rw [h1] at h
      have h2 : f n = some r := by
        cases hn : f n with
        | none => simp [hn] at h
        | some a => simpa [hn] using h
      exact ⟨n, by omega, h2, fun j hj => List.findSome?_eq_none_iff.1 h1 j (List.mem_range.2 hj)⟩
theorem findSome_at {α : Type} {f : Nat → Option α} {n k : Nat} {r : α} (hk : k < n) (h : f k = some r) (hn : ∀ j, j < k → f j = none) : (List.range n).findSome? f = some r := by
  induction n with
  | zero => omega
  | succ n ih =>
    rw [List.range_succ, List.findSome?_append]
    by_cases e : k = n
    · subst e
      rw [List.findSome?_eq_none_iff.2 (fun j hj => hn j (List.mem_range.1 hj))]
      simp [h]
    · rw [ih (by omega)]; rfl
theorem findRev_some {α : Type} {f : Nat → Option α} {n : Nat} {r : α} (h : (List.range n).reverse.findSome? f = some r) : ∃ k, k < n ∧ f k = some r ∧ ∀ j, k < j → j < n → f j = none := by
  induction n with
  | zero => simp at h
  | succ n ih =>
    rw [List.range_succ, List.reverse_append] at h
    simp only [List.reverse_cons, List.reverse_nil, List.nil_append, List.singleton_append, List.findSome?_cons] at h
    cases hn : f n with
    | some a =>
      rw [hn] at h
      simp at h
      subst h
      exact ⟨n, by omega, hn, fun j h1 h2 => by omega⟩
    | none =>
      rw [hn] at h
      obtain ⟨k, a, b, c⟩ := ih h
      refine ⟨k, by omega, b, fun j h1 h2 => ?_⟩
      by_cases e : j = n
      · subst e; exact hn
      · exact c j h1 (by omega)
theorem findRev_at {α : Type} {f : Nat → Option α} {n k : Nat} {r : α} (hk : k < n) (h : f k = some r) (hn : ∀ j, k < j → j < n → f j = none) : (List.range n).reverse.findSome? f = some r := by
  induction n with
  | zero => omega
  | succ n ih =>
    rw [List.range_succ, List.reverse_append]
    simp only [List.reverse_cons, List.reverse_nil, List.nil_append, List.singleton_append, List.findSome?_cons]
    by_cases e : k = n
    · subst e; rw [h]
    · rw [hn n (by omega) (by omega)]
      exact ih (by omega) (fun j h1 h2 => hn j h1 (by omega))
theorem stepL_pass {k : Nat} (hk : k + 1 < l.length) (h : passAt l k = some r) (hn : ∀ j, j < k → passAt l j = none) : stepL l = some r := by
  unfold stepL firstPass
  rw [findSome_at (by omega) h hn]
theorem firstPass_none (hn : ∀ j, j + 1 < l.length → passAt l j = none) : firstPass l = none := List.findSome?_eq_none_iff.2 fun j hj => hn j (by have := List.mem_range.1 hj; omega)
theorem stepL_tell {k : Nat} (hp : ∀ j, j + 1 < l.length → passAt l j = none) (hk : k + 1 < l.length) (h : tellAt l k = some r) (hn : ∀ j, k < j → j + 1 < l.length → tellAt l j = none) : stepL l = some r := by
  unfold stepL
  rw [firstPass_none hp]
  exact findRev_at (by omega) h (fun j h1 h2 => hn j h1 (by omega))
theorem stepL_none (hp : ∀ j, j + 1 < l.length → passAt l j = none) (ht : ∀ j, j + 1 < l.length → tellAt l j = none) : stepL l = none := by
  unfold stepL
  rw [firstPass_none hp]
  exact List.findSome?_eq_none_iff.2 fun j hj => ht j (by have := List.mem_range.1 (List.mem_reverse.1 hj); omega)
theorem know_down {k : Nat} (h : Good v l) (hf : AllFull l) (hk : k + 1 ≤ l.length) (hn : ∀ j, k ≤ j → j + 1 < l.length → tellAt l j = none) : KnowFrom l k := by
  obtain ⟨d, hd⟩ : ∃ d, k + d + 1 = l.length := ⟨l.length - 1 - k, by omega⟩
  induction d generalizing k with
  | zero => have := know_tail h hf; rwa [show l.length - 1 = k by omega] at this
  | succ d ih => exact know_step (hn k (Nat.le_refl _) (by omega)) (by omega) (ih (by omega) (fun j h1 h2 => hn j (by omega) h2) (by omega))
theorem stepL_some (h : Good v l) (hs : stepL l = some r) : Good v r ∧ pot l = pot r + 1 ∧ settledM r = settledM l ∧ r.length = l.length ∧ hd r = hd l := by
  unfold stepL at hs
  cases hp : firstPass l with
  | some r' =>
    rw [hp] at hs
    injection hs with hs; subst hs
    obtain ⟨k, _, hk, _⟩ := findSome_some hp
    exact ⟨good_pass h hk, pass_pot h hk, pass_settled hk, pass_len hk, pass_hd hk⟩
  | none =>
    rw [hp] at hs
    have hn : ∀ j, j + 1 < l.length → passAt l j = none := fun j hj => List.findSome?_eq_none_iff.1 hp j (List.mem_range.2 (by omega))
    have hf := full_of_none hn
    obtain ⟨k, h1, h2, h3⟩ := findRev_some hs
    have hk := know_down h hf (k := k + 1) (by omega) (fun j a b => h3 j (by omega) (by omega))
    exact ⟨good_tell h h2, (tell_pot h2 (fun y hy => hk _ _ (Nat.le_refl _) hy)).1, tell_settled h2, tell_len h2, tell_hd h2⟩
theorem stepL_end (h : Good v l) (hs : stepL l = none) : settledM l = l ∧ pot l = 0 := by
  unfold stepL at hs
  cases hp : firstPass l with
  | some r' => rw [hp] at hs; cases hs
  | none =>
    rw [hp] at hs
    have hn : ∀ j, j + 1 < l.length → passAt l j = none := fun j hj => List.findSome?_eq_none_iff.1 hp j (List.mem_range.2 (by omega))
    have hf := full_of_none hn
    have ht : ∀ j, j + 1 < l.length → tellAt l j = none := fun j hj => List.findSome?_eq_none_iff.1 hs j (List.mem_reverse.2 (List.mem_range.2 (by omega)))
    exact settled_of h hf (know_down h hf (by have := h.2.2.1; omega) (fun j _ hj => ht j hj))
end
end Go.Proofs.YtemgilofjbnoaaaGreatDoor
namespace Go.Proofs.YtemgilofjbnoaaaGreatDoor
open Go.RowKit
def linkOk (v : Int) (l : List Nod) (at_ : Int) : Bool := chainOk v l && decide (0 ≤ at_) && decide (at_ < (l.length : Int) - 1)
def tellM (v : Int) (l : List Nod) (i : Int) : Option (Int × List Nod) := if linkOk v l i then (tellAt l i.toNat).map fun r => (v, r) else none
def passM (v : Int) (l : List Nod) (i : Int) : Option (Int × List Nod) := if linkOk v l i then (passAt l i.toNat).map fun r => (v, r) else none
structure SS where
  tells : Bool
  at_ : Int
def SS.enc (s : SS) : List Value := [.bool s.tells, .int .i64 s.at_]
theorem SS.len (s : SS) : s.enc.length = 2 := rfl
def doM (v : Int) (l : List Nod) (s : SS) : Option (Int × List Nod) := if s.tells then tellM v l s.at_ else passM v l s.at_
def stepQ (v : Int) (p : List Nod × Nat) (s : SS) : List Nod × Nat := match doM v p.1 s with | some r => (r.2, p.2 + 1) | none => p
def passQ (l : List Nod) (i : Nat) : List SS := (List.range i).flatMap fun j : Nat => List.replicate (lagA l j) ⟨false, (j : Int) - 1⟩
def tellQ (i : Nat) : List SS := (List.range i).reverse.map fun j : Nat => ⟨true, (j : Int)⟩
def queueM (l : List Nod) : List SS := passQ l l.length ++ tellQ (l.length - 1)
theorem linkOk_good {v : Int} {l : List Nod} {i : Nat} (h : Good v l) (hi : i + 1 < l.length) : linkOk v l i = true := by
  unfold linkOk
  rw [good_iff.2 h]
  simp; omega
theorem passM_good {v : Int} {l r : List Nod} {i : Nat} (h : Good v l) (hp : passAt l i = some r) : passM v l i = some (v, r) := by
  obtain ⟨x, y, hx, hy, _⟩ := passAt_some hp
  unfold passM
  rw [linkOk_good h (List.getElem?_eq_some_iff.1 hy).1, if_pos rfl]
  simp [hp]
theorem tellM_good {v : Int} {l r : List Nod} {i : Nat} (h : Good v l) (hp : tellAt l i = some r) : tellM v l i = some (v, r) := by
  obtain ⟨x, y, hx, hy, _⟩ := tellAt_some hp
  unfold tellM
  rw [linkOk_good h (List.getElem?_eq_some_iff.1 hy).1, if_pos rfl]
  simp [hp]
theorem tellM_none {v : Int} {l : List Nod} {i : Nat} (hp : tellAt l i = none) : tellM v l i = none := by
  unfold tellM; split <;> simp [hp]
theorem passM_view {v : Int} {l : List Nod} {i : Int} {r : Int × List Nod} (h : passM v l i = some r) : chainOk v l = true ∧ r.1 = v ∧ passAt l i.toNat = some r.2 := by
  unfold passM at h
  split at h
  · rename_i hl
    unfold linkOk at hl
    simp only [Bool.and_eq_true] at hl
    obtain ⟨a, ha, rfl⟩ := Option.map_eq_some_iff.1 h
    exact ⟨hl.1.1, rfl, ha⟩
  · cases h
theorem tellM_view {v : Int} {l : List Nod} {i : Int} {r : Int × List Nod} (h : tellM v l i = some r) : chainOk v l = true ∧ r.1 = v ∧ tellAt l i.toNat = some r.2 := by
  unfold tellM at h
  split at h
  · rename_i hl
    unfold linkOk at hl
    simp only [Bool.and_eq_true] at hl
    obtain ⟨a, ha, rfl⟩ := Option.map_eq_some_iff.1 h
    exact ⟨hl.1.1, rfl, ha⟩
  · cases h
theorem doM_good {v : Int} {l : List Nod} {s : SS} {r : Int × List Nod} (h : doM v l s = some r) : r.1 = v ∧ Good v r.2 ∧ hd r.2 = hd l ∧ r.2.length = l.length := by
  unfold doM at h
  split at h
  · obtain ⟨a, b, c⟩ := tellM_view h
    exact ⟨b, good_tell (good_iff.1 a) c, tell_hd c, tell_len c⟩
  · obtain ⟨a, b, c⟩ := passM_view h
    exact ⟨b, good_pass (good_iff.1 a) c, pass_hd c, pass_len c⟩
section
variable {v : Int} {l : List Nod}
def Way (v : Int) (l c : List Nod) (k : Nat) : Prop := Good v c ∧ hd c = hd l ∧ c.length = l.length ∧ settledM c = settledM l ∧ k + pot c = pot l
theorem way_pass {c r : List Nod} {k i : Nat} (h : Way v l c k) (hp : passAt c i = some r) : stepQ v (c, k) ⟨false, (i : Int)⟩ = (r, k + 1) ∧ Way v l r (k + 1) := by
  obtain ⟨h1, h2, h3, h4, h5⟩ := h
  have := pass_pot h1 hp
  refine ⟨?_, good_pass h1 hp, (pass_hd hp).trans h2, (pass_len hp).trans h3, (pass_settled hp).trans h4, by omega⟩
  simp [stepQ, doM, passM_good h1 hp]
theorem lag_le {c : List Nod} {i : Nat} {x : Nod} (h : Good v c) (hx : c[i]? = some x) (h0 : lagA c i = 0) : x.log.length = (hd c).length := by
  rw [lagA_at hx] at h0
  have := (log_hd h hx).length_le
  omega
theorem block (i m : Nat) : ∀ (c : List Nod) (k : Nat), Way v l c k → (∀ j, j ≤ i → lagA c j = 0) → lagA c (i + 1) = m →
    ∃ c' k', (List.replicate m (⟨false, (i : Int)⟩ : SS)).foldl (stepQ v) (c, k) = (c', k') ∧ Way v l c' k' ∧ (∀ j, j ≤ i + 1 → lagA c' j = 0) ∧ ∀ j, i + 1 < j → lagA c' j = lagA c j := by
  induction m with
  | zero =>
    intro c k hw h0 h1
    refine ⟨c, k, rfl, hw, fun j hj => ?_, fun j _ => rfl⟩
    by_cases e : j = i + 1
    · subst e; exact h1
    · exact h0 j (by omega)
  | succ m ih =>
    intro c k hw h0 h1
    obtain ⟨y, hy⟩ : ∃ y, c[i + 1]? = some y := by
      cases e : c[i + 1]? with
      | some y => exact ⟨y, rfl⟩
      | none => simp [lagA, e] at h1
    have hlt := (List.getElem?_eq_some_iff.1 hy).1
    have hx : c[i]? = some c[i] := List.getElem?_eq_getElem (by omega)
    have hne : y.log.length ≠ c[i].log.length := by
      rw [lag_le hw.1 hx (h0 i (Nat.le_refl _))]
      rw [lagA_at hy] at h1
      omega
    have hp : passAt c i = some (c.set (i + 1) (passed c c[i] y i)) := by
      unfold passAt; rw [hx, hy]; exact if_neg hne
    obtain ⟨e1, e2⟩ := way_pass hw hp
    obtain ⟨g1, g2⟩ := pass_lag hw.1 hp
    have hh := pass_hd hp
    obtain ⟨c', k', a, b, d, e⟩ := ih _ _ e2 (fun j hj => by rw [lagA_congr hh (g2 j (by omega))]; exact h0 j hj) (by omega)
    refine ⟨c', k', ?_, b, d, fun j hj => ?_⟩
    · rw [List.replicate_succ, List.foldl_cons, e1]; exact a
    · rw [e j hj, lagA_congr hh (g2 j (by omega))]
theorem passes (h : Good v l) (i : Nat) (hi : i ≤ l.length) : ∃ c k, (passQ l i).foldl (stepQ v) (l, 0) = (c, k) ∧ Way v l c k ∧ (∀ j, j < i → lagA c j = 0) ∧ ∀ j, i ≤ j → lagA c j = lagA l j := by
  induction i with
  | zero => exact ⟨l, 0, rfl, ⟨h, rfl, rfl, rfl, by omega⟩, fun j hj => by omega, fun j _ => rfl⟩
  | succ i ih =>
    obtain ⟨c, k, e, hw, h0, h1⟩ := ih (by omega)
    have hq : passQ l (i + 1) = passQ l i ++ List.replicate (lagA l i) ⟨false, (i : Int) - 1⟩ := by
      unfold passQ
      rw [List.range_succ, List.flatMap_append]
      simp
    rw [hq, List.foldl_append, e]
    cases i with
    | zero =>
      have hz : lagA l 0 = 0 := by
        obtain ⟨x, hx, e⟩ := hd_pos h
        rw [lagA_at hx, e]; omega
      rw [hz]
      refine ⟨c, k, rfl, hw, fun j hj => ?_, fun j hj => h1 j (by omega)⟩
      obtain rfl : j = 0 := by omega
      rw [h1 0 (Nat.le_refl _), hz]
    | succ i =>
      have hc : ((i + 1 : Nat) : Int) - 1 = (i : Int) := by omega
      rw [hc]
      obtain ⟨c', k', a, b, d, f⟩ := block i (lagA l (i + 1)) c k hw (fun j hj => h0 j (by omega)) (h1 _ (Nat.le_refl _))
      exact ⟨c', k', a, b, fun j hj => d j (by omega), fun j hj => (f j (by omega)).trans (h1 j (by omega))⟩
theorem tells_ (m : Nat) : ∀ (c : List Nod) (k : Nat), Way v l c k → AllFull c → KnowFrom c m → m + 1 ≤ l.length → ∃ c' k', (tellQ m).foldl (stepQ v) (c, k) = (c', k') ∧ Way v l c' k' ∧ AllFull c' ∧ KnowFrom c' 0 := by
  induction m with
  | zero => intro c k hw hf hk _; exact ⟨c, k, rfl, hw, hf, hk⟩
  | succ m ih =>
    intro c k hw hf hk hm
    have hq : tellQ (m + 1) = ⟨true, (m : Int)⟩ :: tellQ m := by
      unfold tellQ
      rw [List.range_succ, List.reverse_append]
      rfl
    rw [hq, List.foldl_cons]
    have hlen : m + 1 < c.length := by have := hw.2.2.1; omega
    cases ht : tellAt c m with
    | none =>
      have e : stepQ v (c, k) ⟨true, (m : Int)⟩ = (c, k) := by simp [stepQ, doM, tellM_none ht]
      rw [e]
      exact ih c k hw hf (know_step ht hlen hk) (by omega)
    | some r =>
      have e : stepQ v (c, k) ⟨true, (m : Int)⟩ = (r, k + 1) := by simp [stepQ, doM, tellM_good hw.1 ht]
      rw [e]
      have hp := (tell_pot ht (fun y hy => hk _ _ (Nat.le_refl _) hy)).1
      obtain ⟨h1, h2, h3, h4, h5⟩ := hw
      exact ih r (k + 1) ⟨good_tell h1 ht, (tell_hd ht).trans h2, (tell_len ht).trans h3, (tell_settled ht).trans h4, by omega⟩ (tell_full ht hf) (tell_know ht hk) (by omega)
theorem queue_fold (h : Good v l) : (queueM l).foldl (stepQ v) (l, 0) = (settledM l, pot l) := by
  obtain ⟨c, k, e, hw, h0, _⟩ := passes h l.length (Nat.le_refl _)
  have hf : AllFull c := fun j x hx => lag_le hw.1 hx (h0 j (by have := (List.getElem?_eq_some_iff.1 hx).1; have := hw.2.2.1; omega))
  have hk := know_tail hw.1 hf
  rw [hw.2.2.1] at hk
  obtain ⟨c', k', e', hw', hf', hk'⟩ := tells_ (l.length - 1) c k hw hf hk (by have := h.2.2.1; omega)
  obtain ⟨s1, s2⟩ := settled_of hw'.1 hf' hk'
  unfold queueM
  rw [List.foldl_append, e, e']
  obtain ⟨_, _, _, g4, g5⟩ := hw'
  rw [← g4, s1, ← g5, s2]
  rfl
theorem good_settled (h : Good v l) : Good v (settledM l) ∧ hd (settledM l) = hd l ∧ (settledM l).length = l.length := by
  have hw : Way v l (settledM l) (pot l) := by
    obtain ⟨c, k, e, hw, h0, _⟩ := passes h l.length (Nat.le_refl _)
    have hf : AllFull c := fun j x hx => lag_le hw.1 hx (h0 j (by have := (List.getElem?_eq_some_iff.1 hx).1; have := hw.2.2.1; omega))
    have hk := know_tail hw.1 hf
    rw [hw.2.2.1] at hk
    obtain ⟨c', k', e', hw', hf', hk'⟩ := tells_ (l.length - 1) c k hw hf hk (by have := h.2.2.1; omega)
    have hq := queue_fold h
    unfold queueM at hq
    rw [List.foldl_append, e, e'] at hq
    injection hq with q1 q2
    rw [← q1, ← q2]
    exact hw'
  exact ⟨hw.1, hw.2.1, hw.2.2.1⟩
end
end Go.Proofs.YtemgilofjbnoaaaGreatDoor
namespace Go.Proofs.YtemgilofjbnoaaaGreatDoor
open Go.RowKit
set_option maxHeartbeats 1000000 in
theorem linkAt_any (view : Int) (A : Option Addr) (n c : Nat) (l : List Nod) (i : Int) (w : World) (h : Nods w 0 w.heap.size A n c l) (hn : n ≤ 1048576) (hlog : ∀ x ∈ l, x.log.length ≤ 1048576) :
    Calls Mo.prog 119 #[.agg #[.int .i64 view, .slice A n c], .int .i64 i] w fun e w' => e = .returned (.bool (linkOk view l i)) ∧ Below w.heap.size w w' := by
  have HL := Lib.hid h.len
  have HG := Lib.hid hlog
  have H := Lib.hid h
  have H0 := Lib.hid (h.box (.cells #[.int .i64 view, .slice A n c] 25))
  clear h hlog
  cases hok : chainOk view l
  · have e0 : linkOk view l i = false := by simp [linkOk, hok]
    rw [e0]
    have HO := Lib.hid hok
    clear hok e0
    go_enter Mo.func119, Tryz.ntmps119
    go_wp2_with fail
    refine (chainValid_any _ _ _ _ l _ H0.out hn HG.out).mono ?_
    rintro e w1 ⟨rfl, hb1⟩
    rw [HO.out]
    have B1 := Lib.hid (below_box hb1)
    have k0 := (Blk.new w #[.int .i64 view, .slice A n c] 25).below hb1
    have q1 := k0.cell (i := 1) (v := .slice A n c) rfl
    clear hb1 k0
    go_wp2
    go_ret
    exact ⟨rfl, B1.out⟩
  · have HO := Lib.hid hok
    have e1 : linkOk view l i = (decide (0 ≤ i) && decide (i < (n : Int) - 1)) := by simp [linkOk, hok, HL.out]
    rw [e1]
    clear hok e1
    go_enter Mo.func119, Tryz.ntmps119
    go_wp2_with fail
    refine (chainValid_any _ _ _ _ l _ H0.out hn HG.out).mono ?_
    rintro e w1 ⟨rfl, hb1⟩
    rw [HO.out]
    have B1 := Lib.hid (below_box hb1)
    have k0 := (Blk.new w #[.int .i64 view, .slice A n c] 25).below hb1
    have q1 := k0.cell (i := 1) (v := .slice A n c) rfl
    clear hb1 k0
    by_cases h0 : 0 ≤ i
    · go_wp2
      go_ret
      exact ⟨ret_bool (by simp [h0]), B1.out⟩
    · go_wp2
      go_ret
      exact ⟨ret_bool (by simp; intro h; omega), B1.out⟩
end Go.Proofs.YtemgilofjbnoaaaGreatDoor
namespace Go.Proofs.YtemgilofjbnoaaaGreatDoor
open Go.RowKit
theorem two_new (W : World) (Z cs : Array Value) (t u : TypeId) (N : Nat) (hN : N = W.heap.size) : Blk ((W.alloc (.cells Z t)).alloc (.cells cs u)).drew (N + 1) cs u ∧ ((W.alloc (.cells Z t)).alloc (.cells cs u)).drew.heap[N]? = some (.cells Z t (0, 0)) := by
  subst hN
  have h1 := (Blk.new (W.alloc (.cells Z t)) cs u).drew
  rw [World.size_alloc] at h1
  exact ⟨h1, ((Blk.new W Z t).alloc (.cells cs u)).drew⟩
theorem two_new' (W : World) (Z cs : Array Value) (t u : TypeId) (N : Nat) (hN : N = W.heap.size) : Blk ((W.alloc (.cells cs u)).alloc (.cells Z t)).drew N cs u ∧ ((W.alloc (.cells cs u)).alloc (.cells Z t)).drew.heap[N + 1]? = some (.cells Z t (0, 0)) := by
  have h := two_new W cs Z u t N hN
  exact ⟨h.2, h.1⟩
set_option maxRecDepth 100000 in
set_option maxHeartbeats 2000000 in
theorem copyChain_any (view : Int) (A : Option Addr) (n c : Nat) (l : List Nod) (w : World) (h : Nods w 0 w.heap.size A n c l) (hn : n ≤ 1048576) (hlog : ∀ x ∈ l, x.log.length ≤ 1048576) :
    Calls Mo.prog 37 #[.agg #[.int .i64 view, .slice A n c]] w (ChainLeft w view l) := by
  have hlen := h.len
  obtain ⟨i0, hi, hz0, hz1, hz2⟩ := info_parts infoNode
  have hmk := fun W => make_rows (P := Mo.prog) 23 78 i0 _ Mo.underlying23 hi hz0 n (by rw [hz2]; omega) (by omega) W
  rw [hz1] at hmk
  have H := Lib.hid h
  have HL := Lib.hid hlen
  have HG := Lib.hid hlog
  clear h hlen hlog hi hz0 hz1 hz2
  obtain ⟨Z, hZ⟩ : ∃ Z, Z = madeCells (Value.agg #[.int .i64 0, .slice none 0 0, .int .i64 0]).cells (n * 3) := ⟨_, rfl⟩
  rw [← hZ] at hmk
  have hZs : Z.size = n * 3 := by rw [hZ]; exact size_madeCells _ _
  have HZ := Lib.hid hZs
  clear hZs hZ
  go_enter Mo.func37, Tryz.ntmps37
  have K0 := Lib.hid ((Blk.new w #[.int .i64 view, .slice A n c] 25).alloc (.cells #[.int .i64 0, .slice none 0 0] 25))
  have K1 := Lib.hid (Blk.new (w.alloc (.cells #[.int .i64 view, .slice A n c] 25)) #[.int .i64 0, .slice none 0 0] 25)
  have B0 := Lib.hid (show Below w.heap.size w ((w.alloc (.cells #[.int .i64 view, .slice A n c] 25)).alloc (.cells #[.int .i64 0, .slice none 0 0] 25)) from ((Below.refl _ _).alloc (Nat.le_refl _) _).alloc (by simp) _)
  have K1 := Lib.hid (show Blk ((w.alloc (.cells #[.int .i64 view, .slice A n c] 25)).alloc (.cells #[.int .i64 0, .slice none 0 0] 25)) (w.heap.size + 1) #[.int .i64 0, .slice none 0 0] 25 by have := K1.out; simpa only [World.size_alloc] using this)
  have SA := Lib.hid (two_new ((w.alloc (.cells #[.int .i64 view, .slice A n c] 25)).alloc (.cells #[.int .i64 0, .slice none 0 0] 25)) Z #[.int .i64 view, .slice (some ⟨w.heap.size + 1 + 1, 0, none⟩) n n] 78 25 (w.heap.size + 1 + 1) (by simp))
  have SB := Lib.hid (two_new' ((w.alloc (.cells #[.int .i64 view, .slice A n c] 25)).alloc (.cells #[.int .i64 0, .slice none 0 0] 25)) Z #[.int .i64 view, .slice (some ⟨w.heap.size + 1 + 1 + 1, 0, none⟩) n n] 78 25 (w.heap.size + 1 + 1) (by simp))
  go_upto_region 1 with fail
  go_cut [3] from 6 to 12 (fun s3 wx => ∃ (s g : Nat), s3 = .pointer (some ⟨s, 0, none⟩) ∧ Blk wx w.heap.size #[.int .i64 view, .slice A n c] 25 ∧ Blk wx (w.heap.size + 1) #[.int .i64 0, .slice none 0 0] 25 ∧ Blk wx s #[.int .i64 view, .slice (some ⟨g, 0, none⟩) n n] 25 ∧
    wx.heap[g]? = some (.cells Z 78 (0, 0)) ∧ w.heap.size + 1 < s ∧ w.heap.size + 1 < g ∧ Below w.heap.size w wx)
  case first =>
    go_region_law (fail)
    all_goals
      go_wp2_with fail
      go_meet
      case rel =>
        first
          | exact ⟨w.heap.size + 1 + 1 + 1, w.heap.size + 1 + 1, rfl, ((K0.out.alloc _).alloc _).drew, ((K1.out.alloc _).alloc _).drew, SA.out.1, SA.out.2, by omega, by omega, ((B0.out.alloc (by simp; omega) _).alloc (by simp; omega) _).drew⟩
          | exact ⟨w.heap.size + 1 + 1, w.heap.size + 1 + 1 + 1, rfl, ((K0.out.alloc _).alloc _).drew, ((K1.out.alloc _).alloc _).drew, SB.out.1, SB.out.2, by omega, by omega, ((B0.out.alloc (by simp; omega) _).alloc (by simp; omega) _).drew⟩
  case rest =>
    obtain ⟨s, g, rfl, k0, k1, ks, hg, hs1, hg1, hb⟩ := hcut
    obtain ⟨w5, rfl⟩ : ∃ w5 : World, w5 = wc := ⟨_, rfl⟩
    have q0 := k0.cell (i := 1) (v := .slice A n c) rfl
    have G0 := Lib.hid hg
    have KS := Lib.hid ks
    have K1' := Lib.hid k1
    have HB := Lib.hid hb
    clear hg ks k1 hb k0 SA SB hmk
    go_wp2_with fail
    clear q0
    go_loopw [16] (fun i wr => ∃ k : Nat, k ≤ n ∧ i = .int .i64 k ∧ RowTo wr w.heap.size g n l k ∧ Blk wr s #[.int .i64 view, .slice (some ⟨g, 0, none⟩) n n] 25 ∧ Blk wr (w.heap.size + 1) #[.int .i64 0, .slice none 0 0] 25 ∧ Below w.heap.size w wr)
      (fun i _ => n - (intOf i).toNat)
    case atStart => exact ⟨0, Nat.zero_le _, rfl, RowTo.zero G0.out HZ.out (by omega), KS.out, K1'.out, HB.out⟩
    case round =>
      obtain ⟨k, hk, rfl, hrow, ks, k1, hB⟩ := hrel
      have HW := Lib.hid (H.out.below hB (Nat.le_refl _))
      have HBr := Lib.hid hB
      have HR := Lib.hid hrow
      have KSr := Lib.hid ks
      have K1r := Lib.hid k1
      have hsz := hB.size
      clear hB hrow ks k1
      by_cases hlt : k < n
      · obtain ⟨b, off, x, A', m, d, rfl, _, hbB, hx, c0, c1, c2, hf⟩ := HW.out.nod hlt
        have hm : m ≤ 1048576 := by have := hf.len; have := HG.out x (List.mem_of_getElem? hx); omega
        have HM := Lib.hid hf.len
        have Hx := Lib.hid hx
        have HF := Lib.hid (hf.mono (Nat.zero_le _) hsz)
        obtain ⟨cs, hg, hcs⟩ := HR.out.block
        have hgs := lt_of_block hg
        have Hg := Lib.hid hg
        have hfs' : k * 3 + 3 ≤ cs.size := by rw [hcs]; omega
        have hss := KSr.out.lt
        have hsg : s ≠ g := by rintro rfl; exact absurd (blk_type KSr.out Hg.out) (by decide)
        have hsg2 : g ≠ s := Ne.symm hsg
        have hgw : wr.heap.size ≠ g := by omega
        have hgw2 : g ≠ wr.heap.size := by omega
        have BA := Lib.hid (show Below w.heap.size w (wr.alloc (.cells #[.int .i64 x.id, .slice A' m d, .int .i64 x.done] 78)).drew from (HBr.out.alloc hsz _).drew)
        have BR := Lib.hid (show Below wr.heap.size wr (wr.alloc (.cells #[.int .i64 x.id, .slice A' m d, .int .i64 x.done] 78)).drew from ((Below.refl _ _).alloc (Nat.le_refl _) _).drew)
        have FE := Lib.hid ((HF.out.box (.cells #[.int .i64 x.id, .slice A' m d, .int .i64 x.done] 78)).below (Below.refl _ _).drew (Nat.le_refl _))
        have XB := Lib.hid (Blk.new wr #[.int .i64 x.id, .slice A' m d, .int .i64 x.done] 78)
        have x0 := XB.out.cell (i := 0) (v := .int .i64 x.id) rfl
        have x1 := XB.out.cell (i := 1) (v := .slice A' m d) rfl
        have x2 := XB.out.cell (i := 2) (v := .int .i64 x.done) rfl
        have s1 := (KSr.out.alloc (.cells #[.int .i64 x.id, .slice A' m d, .int .i64 x.done] 78)).cell (i := 1) (v := .slice (some ⟨g, 0, none⟩) n n) rfl
        clear hx hf hg hcs
        go_wp2_with fail
        go_region_held3 (fun V => V.cell? ⟨s, 1, none⟩ = some (.slice (some ⟨g, 0, none⟩) n n) ∧ V.cell? ⟨wr.heap.size, 0, none⟩ = some (.int .i64 x.id) ∧ V.cell? ⟨wr.heap.size, 1, none⟩ = some (.slice A' m d) ∧ V.cell? ⟨wr.heap.size, 2, none⟩ = some (.int .i64 x.done)) (go_keep)
          ((go_at_call 66; (with_reducible refine (copyNode_any x A' m d _ FE.out hm).mono ?_); rintro e w6 ⟨g6, rfl, hown6, hb6⟩; have HB6 := Lib.hid (BR.out.trans (hb6.mono (by simp))); have O6 := Lib.hid hown6; have hg6 := (HB6.out.block g hgs).trans Hg.out; obtain ⟨v0, q0⟩ := row_cell (i := k * 3) hg6 (by omega); obtain ⟨v1, q1⟩ := row_cell (i := k * 3 + 1) hg6 (by omega); obtain ⟨v2, q2⟩ := row_cell (i := k * 3 + 2) hg6 (by omega); have f0 := row_free hg6 (k * 3); have f1 := row_free hg6 (k * 3 + 1); have f2 := row_free hg6 (k * 3 + 2); have s6 := (KSr.out.below HB6.out).cell (i := 1) (v := .slice (some ⟨g, 0, none⟩) n n) rfl; have XX := XB.out.drew.below hb6; have y0 := XX.cell (i := 0) (v := .int .i64 x.id) rfl; have y1 := XX.cell (i := 1) (v := .slice A' m d) rfl; have y2 := XX.cell (i := 2) (v := .int .i64 x.done) rfl; clear hb6 hg6 hown6 XX))
        all_goals
          go_wp2_with fail
          go_roundw
          case rel =>
            have h1g : w.heap.size + 1 ≠ g := by omega
            refine ⟨k + 1, by omega, by go_num, HR.out.step (r := ⟨x.id, some ⟨g6, 0, none⟩, m, m, x.done⟩) HB6.out Hx.out ⟨rfl, rfl, HM.out⟩ hlt (O6.out.mono (by simp)), ?_, ?_, ?_⟩
            · exact (((KSr.out.below HB6.out).far (a := ⟨g, k * 3, none⟩) hsg _).far (a := ⟨g, k * 3 + 1, none⟩) hsg _).far (a := ⟨g, k * 3 + 2, none⟩) hsg _
            · exact (((K1r.out.below HB6.out).far (a := ⟨g, k * 3, none⟩) h1g _).far (a := ⟨g, k * 3 + 1, none⟩) h1g _).far (a := ⟨g, k * 3 + 2, none⟩) h1g _
            · have hlg : w.heap.size ≤ g := by omega
              exact (HBr.out.trans (HB6.out.mono hsz)).setCell (p := ⟨g, k * 3, none⟩) hlg _ |>.setCell (p := ⟨g, k * 3 + 1, none⟩) hlg _ |>.setCell (p := ⟨g, k * 3 + 2, none⟩) hlg _
          case measure => simp [intOf]; omega
      · obtain rfl : n = k := by omega
        have s0 := KSr.out.cell (i := 0) (v := .int .i64 view) rfl
        have s1 := KSr.out.cell (i := 1) (v := .slice (some ⟨g, 0, none⟩) n n) rfl
        have r0 := K1r.out.cell (i := 0) (v := .int .i64 0) rfl
        have r1 := K1r.out.cell (i := 1) (v := .slice none 0 0) rfl
        have y0 := K1r.out.free 0
        have y1 := K1r.out.free 1
        obtain ⟨e0, e1⟩ := two_stores _ (w.heap.size + 1) r0 r1
        have E := Lib.hid (And.intro e0 e1)
        have O := Lib.hid (HR.out.done HL.out (by unfold maxLen; omega))
        clear e0 e1
        go_wp2
        obtain ⟨e0, e1⟩ := E.out
        have off : ∀ q, q ≠ w.heap.size + 1 → ((wr.setCell ⟨w.heap.size + 1, 0, none⟩ (.int .i64 view)).setCell ⟨w.heap.size + 1, 1, none⟩ (.slice (some ⟨g, 0, none⟩) n n)).heap[q]? = wr.heap[q]? := fun q hq => by rw [Below.heap_setCell _ _ _ _ hq, Below.heap_setCell _ _ _ _ hq]
        refine bodyPost_ret (v := .agg #[.int .i64 view, .slice (some ⟨g, 0, none⟩) n n]) (by simp [results, Tryz.results37, go_sem, e0, e1]) rfl ⟨_, _, _, rfl, HL.out, ?_, (HBr.out.setCell (p := ⟨w.heap.size + 1, 0, none⟩) (by show w.heap.size ≤ w.heap.size + 1; omega) _).setCell (p := ⟨w.heap.size + 1, 1, none⟩) (by show w.heap.size ≤ w.heap.size + 1; omega) _⟩
        refine (O.out.keepT (fun q ds t hq ht => off q (by
          rintro rfl
          have := blk_type hq K1r.out
          rcases ht with rfl | rfl <;> exact absurd this (by decide)))).mono (by simp [World.setCell])
end Go.Proofs.YtemgilofjbnoaaaGreatDoor
namespace Go.Proofs.YtemgilofjbnoaaaGreatDoor
open Go.RowKit Go.Sort
theorem ChainRes.has {w w' : World} {view : Int} {A : Option Addr} {n c : Nat} {l : List Nod} (hl : l.length = n) (hrow : NodRow w' w.heap.size w'.heap.size (.slice A n c) l) (hb : Below w.heap.size w w') :
    ChainRes w (some (view, l)) (.returned (.tuple #[.agg #[.int .i64 view, .slice A n c], .bool true])) w' := ⟨view, A, n, c, l, rfl, rfl, hl, hrow, hb⟩
theorem ChainRes.drew {w w' : World} {o : Option (Int × List Nod)} {e : Ending} (h : ChainRes w o e w') : ChainRes w o e w'.drew := by
  obtain ⟨view, A, n, c, l, a, b, d, hr, hb⟩ := h
  exact ⟨view, A, n, c, l, a, b, d, hr.keep (fun _ _ _ => rfl), hb.drew⟩
theorem box_res {w w1 : World} {cs ds : Array Value} {t u : TypeId} (hb : Below ((w.alloc (.cells cs t)).alloc (.cells ds u)).heap.size ((w.alloc (.cells cs t)).alloc (.cells ds u)) w1) :
    Blk w1 w.heap.size cs t ∧ Blk w1 (w.heap.size + 1) ds u ∧ Below w.heap.size w w1 := by
  refine ⟨((Blk.new w cs t).alloc (.cells ds u)).below hb, ?_, below_box (below_box' hb)⟩
  have := (Blk.new (w.alloc (.cells cs t)) ds u).below hb
  simpa only [World.size_alloc] using this
theorem res_two {w w1 : World} {s : Nat} {u v a b : Value} (hk : Blk w1 s #[u, v] 25) (hs : w.heap.size ≤ s) (hb : Below w.heap.size w w1) :
    (w1.cell? ⟨s, 0, none⟩ = some u ∧ w1.cell? ⟨s, 1, none⟩ = some v ∧ w1.frozen? ⟨s, 0, none⟩ = false ∧ w1.frozen? ⟨s, 1, none⟩ = false) ∧
    (((w1.setCell ⟨s, 0, none⟩ a).setCell ⟨s, 1, none⟩ b).cell? ⟨s, 0, none⟩ = some a ∧ ((w1.setCell ⟨s, 0, none⟩ a).setCell ⟨s, 1, none⟩ b).cell? ⟨s, 1, none⟩ = some b) ∧
    Below w.heap.size w ((w1.setCell ⟨s, 0, none⟩ a).setCell ⟨s, 1, none⟩ b) :=
  have h2 := (hk.set 0 a).set 1 b
  ⟨⟨hk.cell (i := 0) rfl, hk.cell (i := 1) rfl, hk.free 0, hk.free 1⟩, ⟨h2.cell (i := 0) rfl, h2.cell (i := 1) rfl⟩, (hb.setCell (p := ⟨s, 0, none⟩) hs _).setCell (p := ⟨s, 1, none⟩) hs _⟩
theorem linkOk_at {v : Int} {l : List Nod} {i : Int} (h : linkOk v l i = true) : ∃ k : Nat, i = (k : Int) ∧ k + 1 < l.length ∧ chainOk v l = true := by
  unfold linkOk at h
  simp only [Bool.and_eq_true, decide_eq_true_eq] at h
  exact ⟨i.toNat, by omega, by omega, h.1.1⟩
theorem len5 {v : Int} {l : List Nod} (h : chainOk v l = true) : l.length ≤ 5 := (good_iff.1 h).2.2.2.1
set_option maxRecDepth 100000 in
set_option maxHeartbeats 4000000 in
theorem chainTell_any (view : Int) (A : Option Addr) (n c : Nat) (l : List Nod) (i : Int) (w : World) (h : Nods w 0 w.heap.size A n c l) (hn : n ≤ 1048576) (hlog : ∀ x ∈ l, x.log.length ≤ 1048576) :
    Calls Mo.prog 109 #[.agg #[.int .i64 view, .slice A n c], .int .i64 i] w (ChainRes w (tellM view l i)) := by
  have HL := Lib.hid h.len
  have HG := Lib.hid hlog
  have H := Lib.hid h
  clear h hlog
  have X0 := Lib.hid ((Blk.new w #[.int .i64 view, .slice A n c] 25).alloc (.cells #[.int .i64 0, .slice none 0 0] 25))
  have F0 := Lib.hid ((H.out.box (.cells #[.int .i64 view, .slice A n c] 25)).box (.cells #[.int .i64 0, .slice none 0 0] 25))
  have T := Lib.hid (fun d os => linkAt_any view A n c l i (Sort.grow (redrawn ((w.alloc (.cells #[.int .i64 view, .slice A n c] 25)).alloc (.cells #[.int .i64 0, .slice none 0 0] 25)) d) os) (F0.out.on (below_regrown _ _ _)) hn HG.out)
  have d0 := cell_regrown (X0.out.cell (i := 0) (v := .int .i64 view) rfl)
  have d1 := cell_regrown (X0.out.cell (i := 1) (v := .slice A n c) rfl)
  cases hok : linkOk view l i
  · have e0 : tellM view l i = none := by simp [tellM, hok]
    rw [e0]
    rw [hok] at T
    clear hok e0
    go_enter Mo.func109, Tryz.ntmps109
    go_wp2_with fail
    refine wp_region_quiet_below (by kernel_rfl) (by kernel_rfl) ?_
    repeat (go_big_quiet_step ((go_at_call 119; with_reducible exact Calls.regrown_of (T.out _ _))))
    refine wpQuiet_nil ?_
    intro w2 hw2
    obtain ⟨_, k1, b1⟩ := box_res (below_of_regrown hw2)
    have FF := Lib.hid (res_two (a := .int .i64 0) (b := .slice none 0 0) k1 (by omega) b1)
    obtain ⟨z0, z1, y0, y1⟩ := FF.out.1
    clear hw2 d0 d1 k1 b1
    go_wp2
    exact bodyPost_ret (v := .tuple #[.agg #[.int .i64 0, .slice none 0 0], .bool false]) (by simp [results, Tryz.results109, go_sem, FF.out.2.1.1, FF.out.2.1.2]) rfl (ChainRes.none_ FF.out.2.2)
  · obtain ⟨k, rfl, hk, hco⟩ := linkOk_at hok
    have hn5 : n ≤ 5 := by have := len5 hco; have := HL.out; omega
    rw [HL.out] at hk
    obtain ⟨b, off, x, A1, m1, q1, rfl, _, hb, hx, c0, c1, c2, hf1⟩ := H.out.nod (k := k) (by omega)
    obtain ⟨b', off', y, A2, m2, q2, e, _, _, hy, c0', c1', c2', hf2⟩ := H.out.nod (k := k + 1) hk
    injection e with e; injection e with e1 e2
    subst e1; subst e2
    have HO := Lib.hid hok
    rw [hok] at T
    have hcell : ∀ {o : Nat} {v : Value}, w.cell? ⟨b, o, none⟩ = some v → ((w.alloc (.cells #[.int .i64 view, .slice (some ⟨b, off, none⟩) n c] 25)).alloc (.cells #[.int .i64 0, .slice none 0 0] 25)).cell? ⟨b, o, none⟩ = some v := fun hc =>
      ((((Below.refl w.heap.size w).alloc (Nat.le_refl _) _).alloc (by simp) _).cell (p := ⟨b, _, none⟩) hb).trans hc
    have d2 := cell_regrown (hcell c2)
    have d3 := cell_regrown (hcell c2')
    have Hx := Lib.hid hx
    have Hy := Lib.hid hy
    have i0 : (0 : Int) ≤ (k : Int) := by omega
    have i1 : (k : Int) < (n : Int) := by omega
    have i2 : (0 : Int) ≤ ((k + 1 : Nat) : Int) := by omega
    have i3 : ((k + 1 : Nat) : Int) < (n : Int) := by omega
    have hw1 : IntKind.i64.wrap ((k : Int) + 1) = ((k + 1 : Nat) : Int) := IntWalk.i64_in _ (by omega)
    clear hok hx hy hf1 hf2 c0 c1 c2 c0' c1' c2' hcell hco
    by_cases he : x.done = y.done
    · have hq : (x.done == y.done) = true := by simp [he]
      have e0 : tellM view l k = none := by simp [tellM, tellAt, Hx.out, Hy.out, he]
      rw [e0]
      clear he e0
      go_enter Mo.func109, Tryz.ntmps109
      go_wp2_with fail
      refine wp_region_quiet_below (by kernel_rfl) (by kernel_rfl) ?_
      repeat (go_big_quiet_step ((go_at_call 119; with_reducible exact Calls.regrown_of (T.out _ _))))
      refine wpQuiet_nil ?_
      intro w2 hw2
      obtain ⟨_, k1, b1⟩ := box_res (below_of_regrown hw2)
      have FF := Lib.hid (res_two (a := .int .i64 0) (b := .slice none 0 0) k1 (by omega) b1)
      obtain ⟨z0, z1, y0, y1⟩ := FF.out.1
      clear hw2 d0 d1 d2 d3 k1 b1
      go_wp2
      exact bodyPost_ret (v := .tuple #[.agg #[.int .i64 0, .slice none 0 0], .bool false]) (by simp [results, Tryz.results109, go_sem, FF.out.2.1.1, FF.out.2.1.2]) rfl (ChainRes.none_ FF.out.2.2)
    · have hq : (x.done == y.done) = false := by simp [he]
      have e0 : tellM view l k = some (view, l.set k ⟨x.id, x.log, y.done⟩) := by simp [tellM, tellAt, Hx.out, Hy.out, he, HO.out]
      rw [e0]
      clear he e0
      go_enter Mo.func109, Tryz.ntmps109
      go_wp2_with fail
      refine wp_region_quiet_below (by kernel_rfl) (by kernel_rfl) ?_
      repeat (go_big_quiet_step ((go_at_call 119; with_reducible exact Calls.regrown_of (T.out _ _))))
      refine wpQuiet_nil ?_
      intro w2 hw2
      obtain ⟨k0, k1, b1⟩ := box_res (below_of_regrown hw2)
      have K1 := Lib.hid k1
      have B1 := Lib.hid b1
      have F1 := Lib.hid (H.out.on b1)
      have q0 := k0.cell (i := 0) (v := .int .i64 view) rfl
      have q1 := k0.cell (i := 1) (v := .slice (some ⟨b, off, none⟩) n c) rfl
      have s2 := b1.size
      clear hw2 d0 d1 d2 d3 k0 k1 b1
      go_wp2_with fail
      refine (copyChain_any view _ n c l _ F1.out hn HG.out).mono ?_
      rintro e w3 ⟨A3, n3, c3, rfl, hl3, hrow3, hb3⟩
      have hn3 : n3 = n := by rw [← hl3]; exact HL.out
      subst hn3
      have hB3 := B1.out.trans (hb3.mono B1.out.size)
      obtain ⟨g, c4, e4, hg1, hg2, _⟩ := hrow3.form (by omega)
      injection e4 with e4 e6 e5
      subst e4; subst e5; clear e6
      have i4 : (0 : Int) ≤ (k : Int) + 1 := by omega
      have i5 : (k : Int) + 1 < (n3 : Int) := by omega
      have cb := CB.made (view := view) hB3 (hrow3.lower B1.out.size) (Oth.cons (Oth.nil _ _) (K1.out.below hb3) (by have := K1.out.lt; have := hb3.size; omega) (by decide))
      obtain ⟨w4, hw4⟩ : ∃ w4 : World, w3.alloc (.cells #[.int .i64 view, .slice (some ⟨g, 0, none⟩) n3 c3] 25) = w4 := ⟨_, rfl⟩
      rw [hw4] at cb
      obtain ⟨x', A5, m5, d5, hx', _, _, _, _, _, fr5⟩ := cb.row.at_ (k := k) (by omega)
      obtain ⟨y', A6, m6, d6, hy', _, _, y2, _, _, _⟩ := cb.row.at_ (k := k + 1) (by omega)
      obtain rfl : x = x' := by rw [Hx.out] at hx'; injection hx'
      obtain rfl : y = y' := by rw [Hy.out] at hy'; injection hy'
      have s1 := cb.chn.cell (i := 1) (v := .slice (some ⟨g, 0, none⟩) n3 c3) rfl
      have D5 := Lib.hid (cb.setDone Hx.out y.done)
      have t1 : (w4.setCell ⟨g, k * 3 + 2, none⟩ (.int .i64 y.done)).cell? ⟨g, (k + 1) * 3 + 2, none⟩ = some (.int .i64 y.done) := (World.cell?_setCell_other _ _ _ _ (by simp)).trans y2
      have fr := fr5 (k * 3 + 2)
      have r0 := D5.out.chn.cell (i := 0) (v := .int .i64 view) rfl
      have r1 := D5.out.chn.cell (i := 1) (v := .slice (some ⟨g, 0, none⟩) n3 c3) rfl
      have FF := Lib.hid (res_two (a := .int .i64 view) (b := .slice (some ⟨g, 0, none⟩) n3 c3) (D5.out.blk (List.mem_singleton.2 rfl)) (show w.heap.size ≤ w.heap.size + 1 by omega) D5.out.bel)
      have NN := Lib.hid (D5.out.out (u := .int .i64 view) (v := .slice (some ⟨g, 0, none⟩) n3 c3) (D5.out.blk (List.mem_singleton.2 rfl)) (show w.heap.size ≤ w.heap.size + 1 by omega))
      obtain ⟨z0, z1, y0, y1⟩ := FF.out.1
      clear hrow3 hb3 hB3 cb fr5 hx' hy' q0 q1
      go_wp2_with fail
      clear hw4
      go_region_held3 (fun V => V.cell? ⟨w3.heap.size, 1, none⟩ = some (.slice (some ⟨g, 0, none⟩) n3 c3) ∧ V.cell? ⟨g, (k + 1) * 3 + 2, none⟩ = some (.int .i64 y.done)) (go_keep) (fail)
      all_goals
        go_wp2
        exact bodyPost_ret (v := .tuple #[.agg #[.int .i64 view, .slice (some ⟨g, 0, none⟩) n3 c3], .bool true]) (by simp [results, Tryz.results109, go_sem, FF.out.2.1.1, FF.out.2.1.2]) rfl (ChainRes.drew (ChainRes.has (by rw [List.length_set]; exact hl3) NN.out.1 NN.out.2))
end Go.Proofs.YtemgilofjbnoaaaGreatDoor
namespace Go.Proofs.YtemgilofjbnoaaaGreatDoor
open Go.RowKit Go.Sort
theorem NodRow.setLogG {w : World} {lo lo0 hi g n c i : Nat} {l : List Nod} {x : Nod} {A : Option Addr} {m d : Nat} {lg : List Upd} (h : NodRow w lo hi (.slice (some ⟨g, 0, none⟩) n c) l) (hx : l[i]? = some x)
    (hlog : w.ownsRow lo0 28 2 (.slice A m d) m (lg.flatMap Upd.enc)) (hm : lg.length = m) (hdis : ∀ q, (Value.slice A m d).ownBlock = some q → q < lo ∨ hi ≤ q) (hlo : lo0 ≤ lo) (hhi : hi ≤ w.heap.size) :
    NodRow (w.setCell ⟨g, i * 3 + 1, none⟩ (.slice A m d)) lo0 w.heap.size (.slice (some ⟨g, 0, none⟩) n c) (l.set i { x with log := lg }) := by
  obtain rfl : n = l.length := h.nods'.1
  obtain ⟨rs, ho, hv, hl, hr, hd⟩ := h
  have hi' := (List.getElem?_eq_some_iff.1 hx).1
  have hri : rs[i]? = some (rs[i]'(by omega)) := List.getElem?_eq_getElem _
  obtain ⟨a1, a2, a3, a4, a5⟩ := hr i _ x hri hx
  have hst := ((ho.mono hlo).stored (i * 3 + 1) (.slice A m d)).1
  rw [flatMap_set RN.len (x' := ⟨(rs[i]'(by omega)).id, A, m, d, (rs[i]'(by omega)).done⟩) rfl (by omega) rs i hri] at hst
  have offg : ∀ {A : Option Addr} {m c' : Nat} {xs : List Value} {lo' : Nat}, w.ownsRow lo' 28 2 (.slice A m c') m xs → ∀ q, (Value.slice A m c').ownBlock = some q → q ≠ g := fun hh q hq e => by
    subst e
    exact own_part hh ho (by decide) hq rfl
  refine ⟨rs.set i ⟨(rs[i]'(by omega)).id, A, m, d, (rs[i]'(by omega)).done⟩, by rw [List.length_set]; exact hst, fun q hq => Nat.lt_of_lt_of_le (hv q hq) hhi, by simp [hl], fun k r y h1 h2 => ?_, fun p q r s b h1 h2 hpq o1 o2 => ?_⟩
  · by_cases hk : i = k
    · subst hk
      rw [List.getElem?_set_self (by omega)] at h1
      rw [List.getElem?_set_self (by omega)] at h2
      injection h1 with h1; injection h2 with h2
      subst h1; subst h2
      exact ⟨a1, a2, hm, own_keep hlog (fun q hq => Below.heap_setCell _ _ _ _ (offg hlog q hq)), fun q hq => (hlog.lt q hq).2⟩
    · rw [List.getElem?_set_ne hk] at h1 h2
      obtain ⟨b1, b2, b3, b4, b5⟩ := hr k r y h1 h2
      exact ⟨b1, b2, b3, own_keep (b4.mono hlo) (fun q hq => Below.heap_setCell _ _ _ _ (offg b4 q hq)), fun q hq => Nat.lt_of_lt_of_le (b5 q hq) hhi⟩
  · have old : ∀ (k : Nat) (t : RN), i ≠ k → (rs.set i ⟨(rs[i]'(by omega)).id, A, m, d, (rs[i]'(by omega)).done⟩)[k]? = some t → rs[k]? = some t ∧ ∀ b, (Value.slice t.A t.n t.c).ownBlock = some b → lo ≤ b ∧ b < hi := fun k t hk ht => by
      rw [List.getElem?_set_ne hk] at ht
      have hkl : k < l.length := by have := (List.getElem?_eq_some_iff.1 ht).1; omega
      obtain ⟨_, _, _, b4, b5⟩ := hr k t _ ht (List.getElem?_eq_getElem hkl)
      exact ⟨ht, fun b hb => ⟨(b4.lt b hb).1, b5 b hb⟩⟩
    have new : ∀ (t : RN), (rs.set i ⟨(rs[i]'(by omega)).id, A, m, d, (rs[i]'(by omega)).done⟩)[i]? = some t → ∀ b, (Value.slice t.A t.n t.c).ownBlock = some b → b < lo ∨ hi ≤ b := fun t ht b hb => by
      rw [List.getElem?_set_self (by omega)] at ht
      injection ht with ht; subst ht
      exact hdis b hb
    by_cases hp : i = p
    · subst hp
      have := new r h1 b o1
      have := (old q s (by omega) h2).2 b o2
      omega
    · by_cases hq : i = q
      · subst hq
        have := new s h2 b o2
        have := (old p r hp h1).2 b o1
        omega
      · exact hd p q r s b (old p r hp h1).1 (old q s hq h2).1 hpq o1 o2
theorem NodRow.setNod {w : World} {lo lo0 hi g n c i : Nat} {l : List Nod} {x z : Nod} {A : Option Addr} {m d : Nat} (h : NodRow w lo hi (.slice (some ⟨g, 0, none⟩) n c) l) (hx : l[i]? = some x)
    (hlog : w.ownsRow lo0 28 2 (.slice A m d) m (z.log.flatMap Upd.enc)) (hm : z.log.length = m) (hdis : ∀ q, (Value.slice A m d).ownBlock = some q → q < lo ∨ hi ≤ q) (hlo : lo0 ≤ lo) (hhi : hi ≤ w.heap.size) :
    NodRow (((w.setCell ⟨g, i * 3, none⟩ (.int .i64 z.id)).setCell ⟨g, i * 3 + 1, none⟩ (.slice A m d)).setCell ⟨g, i * 3 + 2, none⟩ (.int .i64 z.done)) lo0 w.heap.size (.slice (some ⟨g, 0, none⟩) n c) (l.set i z) := by
  obtain ⟨rs, ho, _⟩ := id h
  have hi' := (List.getElem?_eq_some_iff.1 hx).1
  have offg : ∀ q, (Value.slice A m d).ownBlock = some q → q ≠ g := fun q hq e => by
    subst e
    exact own_part hlog ho (by decide) hq rfl
  have h1 := h.setId hx z.id
  simp only [Nat.add_zero] at h1
  have hlog1 : (w.setCell ⟨g, i * 3, none⟩ (.int .i64 z.id)).ownsRow lo0 28 2 (.slice A m d) m (z.log.flatMap Upd.enc) := own_keep hlog (fun q hq => Below.heap_setCell _ _ _ _ (offg q hq))
  have h2 := h1.setLogG (x := { x with id := z.id }) (List.getElem?_set_self hi') hlog1 hm hdis hlo (by simpa [World.setCell] using hhi)
  have h3 := h2.setDone (x := { { x with id := z.id } with log := z.log }) (List.getElem?_set_self (by simpa using hi')) z.done
  rw [List.set_set, List.set_set] at h3
  simpa [World.setCell] using h3
theorem CB.setNod {w0 w : World} {s : Nat} {view : Int} {l l' : List Nod} {hi : Nat} {L : List (Nat × Array Value × TypeId)} {g n cc i : Nat} {a b d : Value} (h : CB w0 w s view (.slice (some ⟨g, 0, none⟩) n cc) l hi L)
    (hrow : NodRow (((w.setCell ⟨g, i * 3, none⟩ a).setCell ⟨g, i * 3 + 1, none⟩ b).setCell ⟨g, i * 3 + 2, none⟩ d) w0.heap.size w.heap.size (.slice (some ⟨g, 0, none⟩) n cc) l') :
    CB w0 (((w.setCell ⟨g, i * 3, none⟩ a).setCell ⟨g, i * 3 + 1, none⟩ b).setCell ⟨g, i * 3 + 2, none⟩ d) s view (.slice (some ⟨g, 0, none⟩) n cc) l' w.heap.size L := by
  obtain ⟨rs, ho, _⟩ := h.row
  obtain ⟨cs, hg⟩ := own_blk ho rfl
  have hlo := (ho.lt g rfl).1
  have off : s ≠ g := fun e => by subst e; exact absurd (blk_type h.chn hg) (by decide)
  have hg1 := heap_setCell_at (i := i * 3) hg a
  have hg2 := heap_setCell_at (i := i * 3 + 1) hg1 b
  exact ⟨((h.bel.setCell (p := ⟨g, i * 3, none⟩) hlo _).setCell (p := ⟨g, i * 3 + 1, none⟩) hlo _).setCell (p := ⟨g, i * 3 + 2, none⟩) hlo _, ((h.chn.far (a := ⟨g, i * 3, none⟩) off _).far (a := ⟨g, i * 3 + 1, none⟩) off _).far (a := ⟨g, i * 3 + 2, none⟩) off _, h.s0, h.size, by simp [World.setCell], hrow,
    ((h.oth.set hg (.inr (.inl rfl))).set hg1 (.inr (.inl rfl))).set hg2 (.inr (.inl rfl))⟩
def takeAtM (v : Int) (l : List Nod) (k : Nat) (y : Nod) (u : Upd) : Option (Int × List Nod) := (takeM y u).map fun z => (v, l.set k (if k + 1 = l.length then ⟨z.id, z.log, (z.log.length : Nat)⟩ else z))
set_option maxRecDepth 100000 in
set_option maxHeartbeats 8000000 in
theorem l4Take_any (view : Int) (A : Option Addr) (n c k : Nat) (l : List Nod) (y : Nod) (u : Upd) (w : World) (h : Nods w 0 w.heap.size A n c l) (hn : n ≤ 1048576) (hlog : ∀ x ∈ l, x.log.length ≤ 1048576) (hy : l[k]? = some y) :
    Calls Mo.prog 97 #[.agg #[.int .i64 view, .slice A n c], .int .i64 (k : Int), .agg #[.int .i64 u.key, .int .i64 u.value]] w (ChainRes w (takeAtM view l k y u)) := by
  have HL := Lib.hid h.len
  have HG := Lib.hid hlog
  have H := Lib.hid h
  have hk : k < n := by have := (List.getElem?_eq_some_iff.1 hy).1; have := h.len; omega
  obtain ⟨b, off, y', A2, m2, q2, rfl, _, hb, hy', c0, c1, c2, hf2⟩ := h.nod hk
  obtain rfl : y = y' := by rw [hy] at hy'; injection hy'
  have hm2 : m2 ≤ 1048576 := by have := hlog y (List.mem_of_getElem? hy); rw [hf2.len] at this; exact this
  have HY := Lib.hid hy
  have W0B := Lib.hid ((((Below.refl w.heap.size w).alloc (Nat.le_refl _) (.cells #[.int .i64 view, .slice (some ⟨b, off, none⟩) n c] 25)).alloc (by simp) (.cells #[.int .i64 u.key, .int .i64 u.value] 28)).alloc (by simp; omega) (.cells #[.int .i64 0, .slice none 0 0] 25))
  obtain ⟨w0, hw0⟩ : ∃ w0 : World, ((w.alloc (.cells #[.int .i64 view, .slice (some ⟨b, off, none⟩) n c] 25)).alloc (.cells #[.int .i64 u.key, .int .i64 u.value] 28)).alloc (.cells #[.int .i64 0, .slice none 0 0] 25) = w0 := ⟨_, rfl⟩
  have k0 := ((Blk.new w #[.int .i64 view, .slice (some ⟨b, off, none⟩) n c] 25).alloc (.cells #[.int .i64 u.key, .int .i64 u.value] 28)).alloc (.cells #[.int .i64 0, .slice none 0 0] 25)
  have k1 := (Blk.new (w.alloc (.cells #[.int .i64 view, .slice (some ⟨b, off, none⟩) n c] 25)) #[.int .i64 u.key, .int .i64 u.value] 28).alloc (.cells #[.int .i64 0, .slice none 0 0] 25)
  have k2 := Blk.new ((w.alloc (.cells #[.int .i64 view, .slice (some ⟨b, off, none⟩) n c] 25)).alloc (.cells #[.int .i64 u.key, .int .i64 u.value] 28)) #[.int .i64 0, .slice none 0 0] 25
  have hs0 : w0.heap.size = w.heap.size + 1 + 1 + 1 := by rw [← hw0]; simp
  rw [hw0] at k0 k1 k2 W0B
  simp only [World.size_alloc] at k1 k2
  have K0 := Lib.hid k0
  have K1 := Lib.hid k1
  have K2 := Lib.hid k2
  have d1 := k0.cell (i := 1) (v := .slice (some ⟨b, off, none⟩) n c) rfl
  have u0 := k1.cell (i := 0) (v := .int .i64 u.key) rfl
  have u1 := k1.cell (i := 1) (v := .int .i64 u.value) rfl
  have v0 := (W0B.out.cell (p := ⟨b, _, none⟩) hb).trans c0
  have v1 := (W0B.out.cell (p := ⟨b, _, none⟩) hb).trans c1
  have v2 := (W0B.out.cell (p := ⟨b, _, none⟩) hb).trans c2
  have F0 := Lib.hid (hf2.on W0B.out)
  have i0 : (0 : Int) ≤ (k : Int) := by omega
  have i1 : (k : Int) < (n : Int) := by omega
  have hn5 : n ≤ 1048576 := hn
  have hw1 : IntKind.i64.wrap ((k : Int) + 1) = ((k + 1 : Nat) : Int) := IntWalk.i64_in _ (by omega)
  obtain ⟨o, ho⟩ : ∃ o, takeM y u = o := ⟨_, rfl⟩
  have HO := Lib.hid ho
  have hs0a : w.heap.size + 1 + 1 < w0.heap.size := by omega
  clear h hlog hy hy' c0 c1 c2 hf2 k0 k1 k2 ho hs0
  go_enter Mo.func97, Tryz.ntmps97
  go_upto_region 1 with fail
  go_cut [8, 9] from 11 to 21 (fun s8 s9 wx => ∃ (gn : Nat) (z : Nod) (Az : Option Addr) (mz cz : Nat), s8 = .pointer (some ⟨gn, 0, none⟩) ∧ s9 = .bool o.isSome ∧ Hid (z = o.getD ⟨0, [], 0⟩) ∧ Blk wx gn #[.int .i64 z.id, .slice Az mz cz, .int .i64 z.done] 78 ∧ w0.heap.size ≤ gn ∧ z.log.length = mz ∧
    wx.ownsRow w.heap.size 28 2 (.slice Az mz cz) mz (z.log.flatMap Upd.enc) ∧ Below w0.heap.size w0 wx)
  case first =>
    have FD := Lib.hid (show Flat Upd.enc 2 w0.drew 0 w0.drew.heap.size A2 m2 q2 y.log from F0.out.below (Below.refl w0.heap.size w0).drew (Nat.le_refl _))
    have FE := Lib.hid ((F0.out.box (.cells #[.int .i64 0, .slice none 0 0, .int .i64 0] 78)).below (Below.refl _ _).drew (Nat.le_refl _))
    have DD := Lib.hid (show Calls Mo.prog 114 #[.agg #[.int .i64 y.id, .slice A2 m2 q2, .int .i64 y.done], .agg #[.int .i64 u.key, .int .i64 u.value]] w0.drew (NodeRes w0.drew o) by rw [← HO.out]; exact specNodeTake_any y u A2 m2 q2 _ FD.out hm2)
    have DE := Lib.hid (show Calls Mo.prog 114 #[.agg #[.int .i64 y.id, .slice A2 m2 q2, .int .i64 y.done], .agg #[.int .i64 u.key, .int .i64 u.value]] (w0.alloc (.cells #[.int .i64 0, .slice none 0 0, .int .i64 0] 78)).drew (NodeRes (w0.alloc (.cells #[.int .i64 0, .slice none 0 0, .int .i64 0] 78)).drew o) by rw [← HO.out]; exact specNodeTake_any y u A2 m2 q2 _ FE.out hm2)
    have NB := Lib.hid (Blk.new w0 #[.int .i64 0, .slice none 0 0, .int .i64 0] 78).drew
    have BA := Lib.hid (show Below w0.heap.size w0 (w0.alloc (.cells #[.int .i64 0, .slice none 0 0, .int .i64 0] 78)).drew from ((Below.refl _ _).alloc (Nat.le_refl _) _).drew)
    have BD := Lib.hid (show Below w0.heap.size w0 w0.drew from (Below.refl _ _).drew)
    have hbw0 : b < w0.heap.size := by omega
    have l0 : w.heap.size < w0.heap.size := by omega
    have l1 : w.heap.size + 1 < w0.heap.size := by omega
    have e1 : b ≠ w0.heap.size := by omega
    have e2 : w.heap.size ≠ w0.heap.size := by omega
    have e3 : w.heap.size + 1 ≠ w0.heap.size := by omega
    have e4 : w0.heap.size ≠ b := by omega
    have e5 : w0.heap.size ≠ w.heap.size := by omega
    have e6 : w0.heap.size ≠ w.heap.size + 1 := by omega
    go_region_held3 (fun V => V.cell? ⟨w.heap.size, 1, none⟩ = some (.slice (some ⟨b, off, none⟩) n c) ∧ V.cell? ⟨b, off + k * 3, none⟩ = some (.int .i64 y.id) ∧ V.cell? ⟨b, off + k * 3 + 1, none⟩ = some (.slice A2 m2 q2) ∧ V.cell? ⟨b, off + k * 3 + 2, none⟩ = some (.int .i64 y.done) ∧ V.cell? ⟨w.heap.size + 1, 0, none⟩ = some (.int .i64 u.key) ∧ V.cell? ⟨w.heap.size + 1, 1, none⟩ = some (.int .i64 u.value)) (go_keep) ((first
      | (go_at_call 114; (with_reducible refine DE.out.mono ?_); rintro e w4 ⟨z, Az, mz, cz, hz, rfl, hzl, hown4, hb4⟩; have O4 := Lib.hid hown4; have HZ := Lib.hid hz; have HZL := Lib.hid hzl; have HB4 := Lib.hid (BA.out.trans (hb4.mono (by simp))); have a1 := (HB4.out.cell (p := ⟨w.heap.size, 1, none⟩) l0).trans d1; have a2 := (HB4.out.cell (p := ⟨b, off + k * 3, none⟩) hbw0).trans v0; have a3 := (HB4.out.cell (p := ⟨b, off + k * 3 + 1, none⟩) hbw0).trans v1; have a4 := (HB4.out.cell (p := ⟨b, off + k * 3 + 2, none⟩) hbw0).trans v2; have a5 := (HB4.out.cell (p := ⟨w.heap.size + 1, 0, none⟩) l1).trans u0; have a6 := (HB4.out.cell (p := ⟨w.heap.size + 1, 1, none⟩) l1).trans u1; have kk := NB.out.below hb4; have n0 := kk.cell (i := 0) (v := .int .i64 0) rfl; have n1 := kk.cell (i := 1) (v := .slice none 0 0) rfl; have n2 := kk.cell (i := 2) (v := .int .i64 0) rfl; have fz0 := kk.free 0; have fz1 := kk.free 1; have fz2 := kk.free 2; have KK := Lib.hid kk; have tag := FE; clear hown4 hb4 kk hz hzl)
      | (go_at_call 114; (with_reducible refine DD.out.mono ?_); rintro e w4 ⟨z, Az, mz, cz, hz, rfl, hzl, hown4, hb4⟩; have O4 := Lib.hid hown4; have HZ := Lib.hid hz; have HZL := Lib.hid hzl; have HB4 := Lib.hid (BD.out.trans (hb4.mono (by simp))); have a1 := (HB4.out.cell (p := ⟨w.heap.size, 1, none⟩) l0).trans d1; have a2 := (HB4.out.cell (p := ⟨b, off + k * 3, none⟩) hbw0).trans v0; have a3 := (HB4.out.cell (p := ⟨b, off + k * 3 + 1, none⟩) hbw0).trans v1; have a4 := (HB4.out.cell (p := ⟨b, off + k * 3 + 2, none⟩) hbw0).trans v2; have a5 := (HB4.out.cell (p := ⟨w.heap.size + 1, 0, none⟩) l1).trans u0; have a6 := (HB4.out.cell (p := ⟨w.heap.size + 1, 1, none⟩) l1).trans u1; have s4 := HB4.out.size; have g1 : b < w4.heap.size := (by omega); have g2 : w.heap.size < w4.heap.size := (by omega); have g3 : w.heap.size + 1 < w4.heap.size := (by omega); clear hown4 hb4 hz hzl)))
    all_goals
      go_wp2_with fail
      go_meet
      case rel =>
        have ho4 := O4.out
        simp only [World.size_drew, World.size_alloc] at ho4
        first
          | exact ⟨w4.heap.size, z, Az, mz, cz, rfl, rfl, HZ.out, Blk.new w4 _ _, HB4.out.size, HZL.out, own_keep (ho4.mono (by omega)) (fun q hq => Below.heap_alloc _ _ _ (ho4.lt q hq).2), HB4.out.alloc HB4.out.size _⟩
          | exact ⟨w0.heap.size, z, Az, mz, cz, rfl, rfl, HZ.out, ((KK.out.set 0 _).set 1 _).set 2 _, Nat.le_refl _, HZL.out, own_keep (ho4.mono (by omega)) (fun q hq => by
              have hne : q ≠ w0.heap.size := by have := (ho4.lt q hq).1; omega
              rw [Below.heap_setCell _ _ _ _ hne, Below.heap_setCell _ _ _ _ hne, Below.heap_setCell _ _ _ _ hne]),
              ((HB4.out.setCell (p := ⟨w0.heap.size, 0, none⟩) (Nat.le_refl _) _).setCell (p := ⟨w0.heap.size, 1, none⟩) (Nat.le_refl _) _).setCell (p := ⟨w0.heap.size, 2, none⟩) (Nat.le_refl _) _⟩
  case rest =>
    obtain ⟨gn, z, Az, mz, cz, rfl, rfl, HZ, hnb, hgn, hzl, hown, hbel⟩ := hcut
    obtain ⟨w5, rfl⟩ : ∃ w5 : World, w5 = wc := ⟨_, rfl⟩
    have B5 := Lib.hid (W0B.out.trans (hbel.mono W0B.out.size))
    clear d1 u0 u1 v0 v1 v2
    cases o with
    | none =>
      have HT := Lib.hid (show takeAtM view l k y u = none by unfold takeAtM; rw [HO.out]; rfl)
      have FF := Lib.hid (res_two (a := .int .i64 0) (b := .slice none 0 0) (K2.out.below hbel) (show w.heap.size ≤ w.heap.size + 1 + 1 by omega) B5.out)
      obtain ⟨z0, z1, y0, y1⟩ := FF.out.1
      clear hnb hown hbel
      go_wp2
      exact bodyPost_ret (v := .tuple #[.agg #[.int .i64 0, .slice none 0 0], .bool false]) (by simp [results, Tryz.results97, go_sem, FF.out.2.1.1, FF.out.2.1.2]) rfl (by rw [HT.out]; exact ChainRes.none_ FF.out.2.2)
    | some zz =>
      obtain rfl : z = zz := HZ.out
      have HT := Lib.hid (show takeAtM view l k y u = some (view, l.set k (if k + 1 = n then ⟨z.id, z.log, (z.log.length : Nat)⟩ else z)) by unfold takeAtM; rw [HO.out, HL.out]; rfl)
      have e1 := (K0.out.below hbel).cell (i := 1) (v := .slice (some ⟨b, off, none⟩) n c) rfl
      have n1 := hnb.cell (i := 1) (v := .slice Az mz cz) rfl
      have n2 := hnb.cell (i := 2) (v := .int .i64 z.done) rfl
      have f2 := hnb.free 2
      have NB := Lib.hid hnb
      have OW := Lib.hid hown
      have BL := Lib.hid hbel
      have HZL := Lib.hid hzl
      clear hnb hown hbel hzl
      go_upto_if 29 with fail
      go_cut [8] from 30 to 34 (fun s8 wx => s8 = .pointer (some ⟨gn, 0, none⟩) ∧ Blk wx gn #[.int .i64 z.id, .slice Az mz cz, .int .i64 (if k + 1 = n then (mz : Int) else z.done)] 78 ∧
        Hid (wx.ownsRow w.heap.size 28 2 (.slice Az mz cz) mz (z.log.flatMap Upd.enc)) ∧ Below w0.heap.size w0 wx)
      case first =>
        by_cases ht : k + 1 = n
        · have hq : ((k : Int) + 1 == (n : Int)) = true := by simp; omega
          go_wp2_with fail
          go_meet
          case rel =>
            rw [if_pos ht]
            exact ⟨rfl, NB.out.set 2 _, own_keep OW.out (fun q hq => Below.heap_setCell _ _ _ _ (by
              rintro rfl
              obtain ⟨ds, hd⟩ := own_blk OW.out hq
              exact absurd (blk_type hd NB.out) (by decide))), BL.out.setCell (p := ⟨gn, 2, none⟩) hgn _⟩
        · have hq : ((k : Int) + 1 == (n : Int)) = false := by simp; omega
          go_wp2_with fail
          go_meet
          case rel =>
            rw [if_neg ht]
            exact ⟨rfl, NB.out, OW.out, BL.out⟩
      case rest =>
        obtain ⟨rfl, hnb6, hown6, hb6⟩ := hcut
        obtain ⟨w6, rfl⟩ : ∃ w6 : World, w6 = wc := ⟨_, rfl⟩
        obtain ⟨dn, hdn⟩ : ∃ dn : Int, (if k + 1 = n then (mz : Int) else z.done) = dn := ⟨_, rfl⟩
        rw [hdn] at hnb6
        have HZ' := Lib.hid (show takeAtM view l k y u = some (view, l.set k ⟨z.id, z.log, dn⟩) by
          rw [HT.out, ← hdn]
          split
          · rw [HZL.out]
          · rfl)
        have B6 := Lib.hid (W0B.out.trans (hb6.mono W0B.out.size))
        have F6 := Lib.hid (H.out.on B6.out)
        have KK0 := K0.out.below hb6
        have KK2 := Lib.hid (K2.out.below hb6)
        have e0 := KK0.cell (i := 0) (v := .int .i64 view) rfl
        have e1' := KK0.cell (i := 1) (v := .slice (some ⟨b, off, none⟩) n c) rfl
        have NB6 := Lib.hid hnb6
        have s6 := B6.out.size
        have hgn6 : gn < w6.heap.size := hnb6.lt
        clear hnb6 hb6 KK0 e1 n1 n2 f2 hdn
        go_wp2_with fail
        refine (l4Copy_any view _ n c l _ F6.out hn HG.out).mono ?_
        rintro e w7 ⟨A7, n7, c7, rfl, hl7, hrow7, hb7⟩
        obtain rfl : n7 = n := by rw [← hl7]; exact HL.out
        obtain ⟨g, c4, e4, hg1, hg2, _⟩ := hrow7.form (by omega)
        injection e4 with e4 e6 e5
        subst e4; subst e5; clear e6
        have hKK2 := KK2.out.lt
        have cb := CB.made (view := view) (B6.out.trans (hb7.mono s6)) (hrow7.lower s6) (Oth.cons (Oth.nil _ _) (KK2.out.below hb7) (by have := hb7.size; omega) (by decide))
        have NB8 := (NB6.out.below hb7).alloc (.cells #[.int .i64 view, .slice (some ⟨g, 0, none⟩) n7 c7] 25)
        have R8 := (hrow7.keep (w' := w7.alloc (.cells #[.int .i64 view, .slice (some ⟨g, 0, none⟩) n7 c7] 25)) (fun _ _ h => Below.heap_alloc _ _ _ h)).mono (show w7.heap.size ≤ (w7.alloc (.cells #[.int .i64 view, .slice (some ⟨g, 0, none⟩) n7 c7] 25)).heap.size by simp)
        have O8 : (w7.alloc (.cells #[.int .i64 view, .slice (some ⟨g, 0, none⟩) n7 c7] 25)).ownsRow w.heap.size 28 2 (.slice Az mz cz) mz (z.log.flatMap Upd.enc) :=
          (own_keep hown6 (fun q hq => hb7.block q (hown6.lt q hq).2)).alloc _
        obtain ⟨w8, hw8⟩ : ∃ w8 : World, w7.alloc (.cells #[.int .i64 view, .slice (some ⟨g, 0, none⟩) n7 c7] 25) = w8 := ⟨_, rfl⟩
        rw [hw8] at cb NB8 R8 O8
        have R9 := R8.setNod (z := ⟨z.id, z.log, dn⟩) HY.out O8 HZL.out (fun q hq => .inl (hown6.lt q hq).2) s6 (Nat.le_refl _)
        have cb9 := cb.raise.setNod R9
        obtain ⟨_, _, _, _, _, _, _, _, _, _, fr8⟩ := R8.at_ (k := k) (by have := HL.out; omega)
        have x0 := fr8 (k * 3)
        have x1 := fr8 (k * 3 + 1)
        have x2 := fr8 (k * 3 + 2)
        obtain ⟨ds8, hds8⟩ : ∃ cs, w8.heap[g]? = some (.cells cs 78 (0, 0)) := by obtain ⟨rs, ho, _⟩ := R8; exact own_blk ho rfl
        obtain ⟨p0, p1, p2⟩ : (∃ v, w8.cell? ⟨g, k * 3, none⟩ = some v) ∧ (∃ v, w8.cell? ⟨g, k * 3 + 1, none⟩ = some v) ∧ (∃ v, w8.cell? ⟨g, k * 3 + 2, none⟩ = some v) := by
          obtain ⟨_, _, _, _, _, a, b, c, _⟩ := R8.at_ (k := k) (by have := HL.out; omega)
          exact ⟨⟨_, a⟩, ⟨_, b⟩, ⟨_, c⟩⟩
        obtain ⟨pv0, p0⟩ := p0
        obtain ⟨pv1, p1⟩ := p1
        obtain ⟨pv2, p2⟩ := p2
        have t1 := cb.chn.cell (i := 1) (v := .slice (some ⟨g, 0, none⟩) n7 c7) rfl
        have m0 := NB8.cell (i := 0) (v := .int .i64 z.id) rfl
        have m1 := NB8.cell (i := 1) (v := .slice Az mz cz) rfl
        have m2' := NB8.cell (i := 2) (v := .int .i64 dn) rfl
        obtain ⟨w9, hw9⟩ : ∃ w9 : World, ((w8.setCell ⟨g, k * 3, none⟩ (.int .i64 z.id)).setCell ⟨g, k * 3 + 1, none⟩ (.slice Az mz cz)).setCell ⟨g, k * 3 + 2, none⟩ (.int .i64 dn) = w9 := ⟨_, rfl⟩
        rw [show ((w8.setCell ⟨g, k * 3, none⟩ (.int .i64 (⟨z.id, z.log, dn⟩ : Nod).id)).setCell ⟨g, k * 3 + 1, none⟩ (.slice Az mz cz)).setCell ⟨g, k * 3 + 2, none⟩ (.int .i64 (⟨z.id, z.log, dn⟩ : Nod).done) = w9 from hw9] at cb9
        have r0 := cb9.chn.cell (i := 0) (v := .int .i64 view) rfl
        have r1 := cb9.chn.cell (i := 1) (v := .slice (some ⟨g, 0, none⟩) n7 c7) rfl
        have FF := Lib.hid (res_two (a := .int .i64 view) (b := .slice (some ⟨g, 0, none⟩) n7 c7) (cb9.blk (List.mem_singleton.2 rfl)) (show w.heap.size ≤ w.heap.size + 1 + 1 by omega) cb9.bel)
        have NN := Lib.hid (cb9.out (u := .int .i64 view) (v := .slice (some ⟨g, 0, none⟩) n7 c7) (cb9.blk (List.mem_singleton.2 rfl)) (show w.heap.size ≤ w.heap.size + 1 + 1 by omega))
        obtain ⟨z0, z1, y0, y1⟩ := FF.out.1
        clear cb NB8 R8 O8 R9 cb9 fr8 hds8 hrow7 hb7 e0 e1' hown6
        go_wp2
        exact bodyPost_ret (v := .tuple #[.agg #[.int .i64 view, .slice (some ⟨g, 0, none⟩) n7 c7], .bool true]) (by simp [results, Tryz.results97, go_sem, FF.out.2.1.1, FF.out.2.1.2]) rfl (by rw [HZ'.out]; exact ChainRes.has (by rw [List.length_set]; exact hl7) NN.out.1 NN.out.2)
end Go.Proofs.YtemgilofjbnoaaaGreatDoor
namespace Go.Proofs.YtemgilofjbnoaaaGreatDoor
open Go.RowKit
theorem src_one (w : World) (cs : Array Value) (t : TypeId) (sz N : Nat) (hN : N = w.heap.size) (hs : cs.size = sz) : Src (w.alloc (.cells cs t)) sz (some ⟨N, 0, none⟩) 1 cs.toList := by
  subst hN
  refine ⟨by rw [Array.length_toList, hs]; omega, (fun e => by cases e), fun ad e j u hu => ?_⟩
  injection e with e; subst e
  exact new_cells w cs t _ rfl j u hu
set_option maxRecDepth 100000 in
set_option maxHeartbeats 2000000 in
theorem passNext_any (x y : Nod) (u : Upd) (A A' : Option Addr) (n c m d : Nat) (w : World) (h : Flat Upd.enc 2 w 0 w.heap.size A n c x.log) (h' : Flat Upd.enc 2 w 0 w.heap.size A' m d y.log) (hu : x.log[m]? = some u) (hm : m ≤ 1048576) :
    Calls Mo.prog 120 #[.agg #[.int .i64 x.id, .slice A n c, .int .i64 x.done], .agg #[.int .i64 y.id, .slice A' m d, .int .i64 y.done]] w fun e w' => ∃ B k, e = .returned (.slice B (m + 1) k) ∧ w'.ownsRow w.heap.size 28 2 (.slice B (m + 1) k) (m + 1) ((y.log ++ [u]).flatMap Upd.enc) ∧ Below w.heap.size w w' := by
  refine calls_of_wp Mo.func120 rfl ?_
  simp only [passFn, Tryz.ntmps120, List.size_toArray, List.length_cons, List.length_nil, Nat.reduceAdd, Nat.reduceSub, Array.replicate_succ, Array.replicate_zero, List.push_toArray, List.append_toArray, List.nil_append, List.cons_append]
  simp only [passBody, M1, M2, M3, M4, M5, M6, o0, R0, opBox, opLen, opOf, Tryz.f120, opsOf, Option.map_some, Option.getD_some, List.cons_append, List.nil_append, List.getElem?_cons_succ, List.getElem?_cons_zero, Array.getD_eq_getD_getElem?, List.getElem?_toArray]
  have hmc : ∀ W : World, (Instr.makeChan 171 (.int .i64 0)).run Mo.prog W = .ok (.chan (some W.heap.size)) (W.alloc (.chan 0 #[] false 0 0 false)) := fun W => run_mc' W
  have H := Lib.hid h
  have H' := Lib.hid h'
  clear h h'
  obtain ⟨i0, hi, hz0, hz1, hz2⟩ := info_parts infoUpd
  have F0 := Lib.hid ((((H'.out.box (.cells #[.int .i64 x.id, .slice A n c, .int .i64 x.done] 78)).box (.cells #[.int .i64 y.id, .slice A' m d, .int .i64 y.done] 78)).box (.chan 0 #[] false 0 0 false)).box (.cells #[] 171))
  go_wp2_with fail
  refine (copyLog_any A' m d _ _ F0.out hm).mono ?_
  rintro e w1 ⟨rfl, hown, hb1⟩
  have s1 := hb1.size
  simp only [World.size_alloc] at s1
  have hb2 : Below w.heap.size w w1 := below_box (below_box (below_box (below_box hb1)))
  have hown' : w1.ownsRow w.heap.size 28 2 (.slice (some ⟨w.heap.size + 1 + 1 + 1 + 1, 0, none⟩) m m) m (y.log.flatMap Upd.enc) := by
    simp only [World.size_alloc] at hown
    exact hown.mono (by omega)
  have O1 := Lib.hid hown'
  clear hown'
  have k0 : Blk w1 w.heap.size #[.int .i64 x.id, .slice A n c, .int .i64 x.done] 78 := ((((Blk.new w _ _).alloc _).alloc _).alloc _).below hb1
  have k1 : Blk w1 (w.heap.size + 1) #[.int .i64 y.id, .slice A' m d, .int .i64 y.done] 78 := by
    have := (((Blk.new (w.alloc (.cells #[.int .i64 x.id, .slice A n c, .int .i64 x.done] 78)) #[.int .i64 y.id, .slice A' m d, .int .i64 y.done] 78).alloc (.chan 0 #[] false 0 0 false)).alloc (.cells #[] 171)).below hb1
    simpa only [World.size_alloc] using this
  have q0 := k0.cell (i := 1) (v := .slice A n c) rfl
  have q1 := k1.cell (i := 1) (v := .slice A' m d) rfl
  have hmn : m < n := by have := H.out.len; have := (List.getElem?_eq_some_iff.1 hu).1; omega
  have HL := Lib.hid H'.out.len
  obtain ⟨b, off, u', rfl, _, hbw, hu', c0, c1⟩ := (H.out.below hb2 (Nat.le_refl _)).upd hmn
  have e0 : u' = u := by rw [hu] at hu'; injection hu' with e; exact e.symm
  subst e0
  have i1 : (m : Int) < (n : Int) := by omega
  have i2 : (0 : Int) ≤ (m : Int) := by omega
  have l0 : w.heap.size < w1.heap.size := by omega
  have l1 : w.heap.size + 1 < w1.heap.size := by omega
  have lb : b < w1.heap.size := by omega
  have O7 := Lib.hid (((((O1.out.alloc (.cells #[] 76)).alloc (.cells #[] 28)).alloc (.cells #[] 179)).alloc (.cells #[.int .i64 u'.key, .int .i64 u'.value] 28)).alloc (.cells #[.int .i64 u'.key, .int .i64 u'.value] 28))
  have B7 := Lib.hid (((((hb2.alloc hb2.size (.cells #[] 76)).alloc (by simp; omega) (.cells #[] 28)).alloc (by simp; omega) (.cells #[] 179)).alloc (by simp; omega) (.cells #[.int .i64 u'.key, .int .i64 u'.value] 28)).alloc (by simp; omega) (.cells #[.int .i64 u'.key, .int .i64 u'.value] 28))
  clear hu' hb1 hown hu
  go_wp2_with (at_builtin; go_loud (refine wpList_append_src _ rfl (.tmp 12) (.tmp 22) 76 rfl w.heap.size 28 i0 _ 2 16 Mo.underlying76 hi hz0 hz1 hz2 rfl (by omega) (.slice (some ⟨w.heap.size + 1 + 1 + 1 + 1, 0, none⟩) m m) m (y.log.flatMap Upd.enc) rfl O7.out (some ⟨w1.heap.size + 1 + 1 + 1 + 1, 0, none⟩) 1 1 u'.enc rfl (src_one _ #[.int .i64 u'.key, .int .i64 u'.value] 28 2 _ (by simp) rfl) (Upd.one u') (by unfold maxLen; omega) (by omega) (by simp; omega) ?_; intro v6 w6 hown6 hg6))
  have e6 : y.log.flatMap Upd.enc ++ u'.enc = (y.log ++ [u']).flatMap Upd.enc := by simp
  rw [e6] at hown6
  obtain ⟨A3, c3, rfl, _⟩ := own_flat Upd.len hown6 (by simp; exact HL.out)
  go_ret
  refine ⟨A3, c3, rfl, hown6, B7.out.grown hg6 (by simp; omega) (fun k e => ?_)⟩
  simp [Value.ownBlock] at e
  omega
end Go.Proofs.YtemgilofjbnoaaaGreatDoor
namespace Go.Proofs.YtemgilofjbnoaaaGreatDoor
open Go.RowKit Go.Sort
theorem NodRow.setLog {w : World} {lo hi g n c i : Nat} {l : List Nod} {x : Nod} {A : Option Addr} {m d : Nat} {lg : List Upd} (h : NodRow w lo hi (.slice (some ⟨g, 0, none⟩) n c) l) (hx : l[i]? = some x)
    (hlog : w.ownsRow hi 28 2 (.slice A m d) m (lg.flatMap Upd.enc)) (hm : lg.length = m) (hhi : hi ≤ w.heap.size) :
    NodRow (w.setCell ⟨g, i * 3 + 1, none⟩ (.slice A m d)) lo w.heap.size (.slice (some ⟨g, 0, none⟩) n c) (l.set i { x with log := lg }) := by
  obtain rfl : n = l.length := h.nods'.1
  obtain ⟨rs, ho, hv, hl, hr, hd⟩ := h
  have hi' := (List.getElem?_eq_some_iff.1 hx).1
  have hri : rs[i]? = some (rs[i]'(by omega)) := List.getElem?_eq_getElem _
  obtain ⟨a1, a2, a3, a4, a5⟩ := hr i _ x hri hx
  have hlg : lo ≤ hi := by have := ho.lt g rfl; have := hv g rfl; omega
  have hst := (ho.stored (i * 3 + 1) (.slice A m d)).1
  rw [flatMap_set RN.len (x' := ⟨(rs[i]'(by omega)).id, A, m, d, (rs[i]'(by omega)).done⟩) rfl (by omega) rs i hri] at hst
  have offg : ∀ {A : Option Addr} {m c' : Nat} {xs : List Value} {lo' : Nat}, w.ownsRow lo' 28 2 (.slice A m c') m xs → ∀ q, (Value.slice A m c').ownBlock = some q → q ≠ g := fun hh q hq e => by
    subst e
    exact own_part hh ho (by decide) hq rfl
  refine ⟨rs.set i ⟨(rs[i]'(by omega)).id, A, m, d, (rs[i]'(by omega)).done⟩, by rw [List.length_set]; exact hst, fun q hq => Nat.lt_of_lt_of_le (hv q hq) hhi, by simp [hl], fun k r y h1 h2 => ?_, fun p q r s b h1 h2 hpq o1 o2 => ?_⟩
  · by_cases hk : i = k
    · subst hk
      rw [List.getElem?_set_self (by omega)] at h1
      rw [List.getElem?_set_self (by omega)] at h2
      injection h1 with h1; injection h2 with h2
      subst h1; subst h2
      exact ⟨a1, a2, hm, own_keep (hlog.mono hlg) (fun q hq => Below.heap_setCell _ _ _ _ (offg hlog q hq)), fun q hq => (hlog.lt q hq).2⟩
    · rw [List.getElem?_set_ne hk] at h1 h2
      obtain ⟨b1, b2, b3, b4, b5⟩ := hr k r y h1 h2
      exact ⟨b1, b2, b3, own_keep b4 (fun q hq => Below.heap_setCell _ _ _ _ (offg b4 q hq)), fun q hq => Nat.lt_of_lt_of_le (b5 q hq) hhi⟩
  · have old : ∀ (k : Nat) (t : RN), i ≠ k → (rs.set i ⟨(rs[i]'(by omega)).id, A, m, d, (rs[i]'(by omega)).done⟩)[k]? = some t → rs[k]? = some t ∧ ∀ b, (Value.slice t.A t.n t.c).ownBlock = some b → b < hi := fun k t hk ht => by
      rw [List.getElem?_set_ne hk] at ht
      have hkl : k < l.length := by have := (List.getElem?_eq_some_iff.1 ht).1; omega
      exact ⟨ht, (hr k t _ ht (List.getElem?_eq_getElem hkl)).2.2.2.2⟩
    have new : ∀ (t : RN), (rs.set i ⟨(rs[i]'(by omega)).id, A, m, d, (rs[i]'(by omega)).done⟩)[i]? = some t → ∀ b, (Value.slice t.A t.n t.c).ownBlock = some b → hi ≤ b := fun t ht b hb => by
      rw [List.getElem?_set_self (by omega)] at ht
      injection ht with ht; subst ht
      exact (hlog.lt b hb).1
    by_cases hp : i = p
    · subst hp
      have := new r h1 b o1
      have := (old q s (by omega) h2).2 b o2
      omega
    · by_cases hq : i = q
      · subst hq
        have := new s h2 b o2
        have := (old p r hp h1).2 b o1
        omega
      · exact hd p q r s b (old p r hp h1).1 (old q s hq h2).1 hpq o1 o2
theorem CB.setLog {w0 w : World} {s : Nat} {view : Int} {l : List Nod} {hi : Nat} {L : List (Nat × Array Value × TypeId)} {g n cc i : Nat} {x : Nod} {A : Option Addr} {m d : Nat} {lg : List Upd} (h : CB w0 w s view (.slice (some ⟨g, 0, none⟩) n cc) l hi L) (hx : l[i]? = some x)
    (hlog : w.ownsRow hi 28 2 (.slice A m d) m (lg.flatMap Upd.enc)) (hm : lg.length = m) :
    CB w0 (w.setCell ⟨g, i * 3 + 1, none⟩ (.slice A m d)) s view (.slice (some ⟨g, 0, none⟩) n cc) (l.set i { x with log := lg }) w.heap.size L :=
  h.raise.setNode (h.row.setLog hx hlog hm h.his)
theorem passAt_eq {l : List Nod} {i : Nat} {x y : Nod} (hx : l[i]? = some x) (hy : l[i + 1]? = some y) (he : y.log.length = x.log.length) : passAt l i = none := by
  unfold passAt; rw [hx, hy]; exact if_pos he
theorem passAt_ne {l : List Nod} {i : Nat} {x y : Nod} (hx : l[i]? = some x) (hy : l[i + 1]? = some y) (he : y.log.length ≠ x.log.length) : passAt l i = some (l.set (i + 1) (passed l x y i)) := by
  unfold passAt; rw [hx, hy]; exact if_neg he
theorem passM_ok {v : Int} {l : List Nod} {i : Nat} (h : linkOk v l i = true) : passM v l i = (passAt l i).map fun r => (v, r) := by
  unfold passM; rw [if_pos h]; rfl
theorem take_more {a b : List Upd} {u : Upd} (h : a <+: b) (hu : b[a.length]? = some u) : a ++ [u] = b.take (a.length + 1) := by
  rw [List.take_add_one, hu, ← prefix_take h]; rfl
theorem below_undrew {W w1 : World} (h : Below W.drew.heap.size W.drew w1) : Below W.heap.size W w1 := (Below.refl _ _).drew.trans h
set_option maxRecDepth 100000 in
set_option maxHeartbeats 4000000 in
theorem chainPass_any (view : Int) (A : Option Addr) (n c : Nat) (l : List Nod) (i : Int) (w : World) (h : Nods w 0 w.heap.size A n c l) (hn : n ≤ 1048576) (hlog : ∀ x ∈ l, x.log.length ≤ 1048576) :
    Calls Mo.prog 110 #[.agg #[.int .i64 view, .slice A n c], .int .i64 i] w (ChainRes w (passM view l i)) := by
  have HL := Lib.hid h.len
  have HG := Lib.hid hlog
  have H := Lib.hid h
  clear h hlog
  have X0 := Lib.hid ((Blk.new w #[.int .i64 view, .slice A n c] 25).alloc (.cells #[.int .i64 0, .slice none 0 0] 25))
  have F0 := Lib.hid ((H.out.box (.cells #[.int .i64 view, .slice A n c] 25)).box (.cells #[.int .i64 0, .slice none 0 0] 25))
  have T := Lib.hid (fun d os => linkAt_any view A n c l i (Sort.grow (redrawn ((w.alloc (.cells #[.int .i64 view, .slice A n c] 25)).alloc (.cells #[.int .i64 0, .slice none 0 0] 25)) d) os) (F0.out.on (below_regrown _ _ _)) hn HG.out)
  have d0 := cell_regrown (X0.out.cell (i := 0) (v := .int .i64 view) rfl)
  have d1 := cell_regrown (X0.out.cell (i := 1) (v := .slice A n c) rfl)
  cases hok : linkOk view l i
  · have e0 : passM view l i = none := by simp [passM, hok]
    rw [e0]
    rw [hok] at T
    clear hok e0
    go_enter Mo.func110, Tryz.ntmps110
    go_wp2_with fail
    refine wp_region_quiet_below (by kernel_rfl) (by kernel_rfl) ?_
    repeat (go_big_quiet_step ((go_at_call 119; with_reducible exact Calls.regrown_of (T.out _ _))))
    refine wpQuiet_nil ?_
    intro w2 hw2
    obtain ⟨_, k1, b1⟩ := box_res (below_of_regrown hw2)
    have FF := Lib.hid (res_two (a := .int .i64 0) (b := .slice none 0 0) k1 (by omega) b1)
    obtain ⟨z0, z1, y0, y1⟩ := FF.out.1
    clear hw2 d0 d1 k1 b1
    go_wp2
    exact bodyPost_ret (v := .tuple #[.agg #[.int .i64 0, .slice none 0 0], .bool false]) (by simp [results, Tryz.results110, go_sem, FF.out.2.1.1, FF.out.2.1.2]) rfl (ChainRes.none_ FF.out.2.2)
  · obtain ⟨k, rfl, hk, hco⟩ := linkOk_at hok
    have hn5 : n ≤ 5 := by have := len5 hco; have := HL.out; omega
    rw [HL.out] at hk
    obtain ⟨b, off, x, A1, m1, q1, rfl, _, hb, hx, c0, c1, c2, hf1⟩ := H.out.nod (k := k) (by omega)
    obtain ⟨b', off', y, A2, m2, q2, e, _, _, hy, c0', c1', c2', hf2⟩ := H.out.nod (k := k + 1) hk
    injection e with e; injection e with e1 e2
    subst e1; subst e2
    have HO := Lib.hid hok
    have HP := Lib.hid (passM_ok hok)
    rw [hok] at T
    have hcell : ∀ {o : Nat} {v : Value}, w.cell? ⟨b, o, none⟩ = some v → ((w.alloc (.cells #[.int .i64 view, .slice (some ⟨b, off, none⟩) n c] 25)).alloc (.cells #[.int .i64 0, .slice none 0 0] 25)).cell? ⟨b, o, none⟩ = some v := fun hc =>
      ((((Below.refl w.heap.size w).alloc (Nat.le_refl _) _).alloc (by simp) _).cell (p := ⟨b, _, none⟩) hb).trans hc
    have d2 := cell_regrown (hcell c1)
    have d3 := cell_regrown (hcell c1')
    have Hx := Lib.hid hx
    have Hy := Lib.hid hy
    have i0 : (0 : Int) ≤ (k : Int) := by omega
    have i1 : (k : Int) < (n : Int) := by omega
    have i2 : (0 : Int) ≤ ((k + 1 : Nat) : Int) := by omega
    have i3 : ((k + 1 : Nat) : Int) < (n : Int) := by omega
    have i4 : (0 : Int) ≤ (k : Int) + 1 := by omega
    have i5 : (k : Int) + 1 < (n : Int) := by omega
    have hw1 : IntKind.i64.wrap ((k : Int) + 1) = ((k + 1 : Nat) : Int) := IntWalk.i64_in _ (by omega)
    have hahead := good_at (good_iff.1 hco) hx hy (by omega)
    have hle := hahead.2.1.length_le
    have hm1 : m1 ≤ 1048576 := by have := HG.out x (List.mem_of_getElem? hx); rw [hf1.len] at this; exact this
    rw [hf1.len, hf2.len] at hle
    have HPre := Lib.hid hahead.2.1
    have L1 := Lib.hid hf1.len
    have L2 := Lib.hid hf2.len
    have F1 := Lib.hid hf1
    have F2 := Lib.hid hf2
    have C := Lib.hid (And.intro c0 (And.intro c1 (And.intro c2 (And.intro c0' (And.intro c1' c2')))))
    clear hok hx hy hf1 hf2 c0 c1 c2 c0' c1' c2' hcell hco hahead
    by_cases he : m1 = m2
    · have hq : ((m1 : Int) == (m2 : Int)) = true := by simp [he]
      have e0 : passM view l k = none := by rw [HP.out, passAt_eq Hx.out Hy.out (by rw [L1.out, L2.out, he])]; rfl
      rw [e0]
      clear he e0
      go_enter Mo.func110, Tryz.ntmps110
      go_wp2_with fail
      refine wp_region_quiet_below (by kernel_rfl) (by kernel_rfl) ?_
      repeat (go_big_quiet_step ((go_at_call 119; with_reducible exact Calls.regrown_of (T.out _ _))))
      refine wpQuiet_nil ?_
      intro w2 hw2
      obtain ⟨_, k1, b1⟩ := box_res (below_of_regrown hw2)
      have FF := Lib.hid (res_two (a := .int .i64 0) (b := .slice none 0 0) k1 (by omega) b1)
      obtain ⟨z0, z1, y0, y1⟩ := FF.out.1
      clear hw2 d0 d1 d2 d3 k1 b1
      go_wp2
      exact bodyPost_ret (v := .tuple #[.agg #[.int .i64 0, .slice none 0 0], .bool false]) (by simp [results, Tryz.results110, go_sem, FF.out.2.1.1, FF.out.2.1.2]) rfl (ChainRes.none_ FF.out.2.2)
    · have hq : ((m1 : Int) == (m2 : Int)) = false := by simp; omega
      have e0 : passM view l k = some (view, l.set (k + 1) (passed l x y k)) := by rw [HP.out, passAt_ne Hx.out Hy.out (by rw [L1.out, L2.out]; exact fun e => he e.symm)]; rfl
      rw [e0]
      have hm2 : m2 < m1 := by omega
      obtain ⟨u, hu⟩ : ∃ u, x.log[m2]? = some u := ⟨_, List.getElem?_eq_getElem (by rw [L1.out]; exact hm2)⟩
      have HU := Lib.hid hu
      have hpl : y.log ++ [u] = x.log.take (m2 + 1) := by
        have := take_more HPre.out (u := u) (by rw [L2.out]; exact hu)
        rw [this, L2.out]
      have PL := Lib.hid hpl
      have plen : (y.log ++ [u]).length = m2 + 1 := by simp [L2.out]
      have PN := Lib.hid plen
      clear he e0 hu hpl plen hle
      go_enter Mo.func110, Tryz.ntmps110
      go_wp2_with fail
      refine wp_region_quiet_below (by kernel_rfl) (by kernel_rfl) ?_
      repeat (go_big_quiet_step ((go_at_call 119; with_reducible exact Calls.regrown_of (T.out _ _))))
      refine wpQuiet_nil ?_
      intro w2 hw2
      obtain ⟨k0, k1, b1⟩ := box_res (below_of_regrown hw2)
      have K0 := Lib.hid k0
      have K1 := Lib.hid k1
      have B1 := Lib.hid b1
      have FC := Lib.hid (H.out.on b1)
      have q0 := k0.cell (i := 0) (v := .int .i64 view) rfl
      have q1' := k0.cell (i := 1) (v := .slice (some ⟨b, off, none⟩) n c) rfl
      have s2 := b1.size
      clear hw2 d0 d1 d2 d3 k0 k1 b1
      go_wp2_with fail
      refine (copyChain_any view _ n c l _ FC.out hn HG.out).mono ?_
      rintro e w3 ⟨A3, n3, c3, rfl, hl3, hrow3, hb3⟩
      have hn3 : n3 = n := by rw [← hl3]; exact HL.out
      subst hn3
      have hB3 := B1.out.trans (hb3.mono B1.out.size)
      obtain ⟨g, c4, e4, hg1, hg2, _⟩ := hrow3.form (by omega)
      injection e4 with e4 e6 e5
      subst e4; subst e5; clear e6
      have hw2s : w.heap.size + 1 < w2.heap.size := K1.out.lt
      have cb := CB.made (view := view) hB3 (hrow3.lower B1.out.size) (Oth.cons (Oth.nil _ _) (K1.out.below hb3) (by have := hb3.size; omega) (by decide))
      have K0' := (K0.out.below hb3).alloc (.cells #[.int .i64 view, .slice (some ⟨g, 0, none⟩) n3 c3] 25)
      obtain ⟨w4, hw4⟩ : ∃ w4 : World, w3.alloc (.cells #[.int .i64 view, .slice (some ⟨g, 0, none⟩) n3 c3] 25) = w4 := ⟨_, rfl⟩
      rw [hw4] at cb K0'
      have hs4 : w4.heap.size = w3.heap.size + 1 := by rw [← hw4]; simp
      rw [← hs4] at cb
      have s1 := cb.chn.cell (i := 1) (v := .slice (some ⟨g, 0, none⟩) n3 c3) rfl
      have v1 := K0'.cell (i := 1) (v := .slice (some ⟨b, off, none⟩) n3 c) rfl
      have ks : ∀ {o : Nat} {v : Value}, w.cell? ⟨b, o, none⟩ = some v → w4.cell? ⟨b, o, none⟩ = some v := fun hc => (cb.bel.cell (p := ⟨b, _, none⟩) hb).trans hc
      have v2 := ks C.out.1
      have v3 := ks C.out.2.1
      have v4 := ks C.out.2.2.1
      have v5 := ks C.out.2.2.2.1
      have v6 := ks C.out.2.2.2.2.1
      have v7 := ks C.out.2.2.2.2.2
      have CBH := Lib.hid cb
      have G1 := Lib.hid (show Flat Upd.enc 2 w4.drew 0 w4.drew.heap.size A1 m1 q1 x.log from (F1.out.on cb.bel).below (Below.refl _ _).drew (Nat.le_refl _))
      have G2 := Lib.hid (show Flat Upd.enc 2 w4.drew 0 w4.drew.heap.size A2 m2 q2 y.log from (F2.out.on cb.bel).below (Below.refl _ _).drew (Nat.le_refl _))
      have hbg : b ≠ g := by omega
      have hwg : w.heap.size ≠ g := by omega
      clear hrow3 hb3 hB3 cb q0 q1' ks K0' hs4
      go_wp2_with fail
      clear hw4 s1
      go_region_held3 (fun V => V.cell? ⟨w.heap.size, 1, none⟩ = some (.slice (some ⟨b, off, none⟩) n3 c) ∧ V.cell? ⟨b, off + k * 3, none⟩ = some (.int .i64 x.id) ∧ V.cell? ⟨b, off + k * 3 + 1, none⟩ = some (.slice A1 m1 q1) ∧ V.cell? ⟨b, off + k * 3 + 2, none⟩ = some (.int .i64 x.done) ∧ V.cell? ⟨b, off + (k + 1) * 3, none⟩ = some (.int .i64 y.id) ∧ V.cell? ⟨b, off + (k + 1) * 3 + 1, none⟩ = some (.slice A2 m2 q2) ∧ V.cell? ⟨b, off + (k + 1) * 3 + 2, none⟩ = some (.int .i64 y.done)) (go_keep)
        ((go_at_call 120; (with_reducible refine (passNext_any x y u A1 A2 m1 q1 m2 q2 _ G1.out G2.out HU.out (by omega)).mono ?_); rintro e w5 ⟨B5, k5, rfl, hown5, hb5⟩; have hb5' := below_undrew hb5; have cb5 := CBH.out.below hb5'; have cb6 := cb5.setLog Hy.out hown5 PN.out; have e1 := (hb5'.cell (p := ⟨w.heap.size, 1, none⟩) (block_lt_of_cell v1)).trans v1; have e2 := (hb5'.cell (p := ⟨b, off + k * 3, none⟩) (block_lt_of_cell v2)).trans v2; have e3 := (hb5'.cell (p := ⟨b, off + k * 3 + 1, none⟩) (block_lt_of_cell v3)).trans v3; have e4 := (hb5'.cell (p := ⟨b, off + k * 3 + 2, none⟩) (block_lt_of_cell v4)).trans v4; have e5 := (hb5'.cell (p := ⟨b, off + (k + 1) * 3, none⟩) (block_lt_of_cell v5)).trans v5; have e6 := (hb5'.cell (p := ⟨b, off + (k + 1) * 3 + 1, none⟩) (block_lt_of_cell v6)).trans v6; have e7 := (hb5'.cell (p := ⟨b, off + (k + 1) * 3 + 2, none⟩) (block_lt_of_cell v7)).trans v7; obtain ⟨_, _, _, _, _, _, y1, _, _, _, fr5⟩ := cb5.row.at_ (k := k + 1) (by omega); have fr := fr5 ((k + 1) * 3 + 1); have HCB6 := Lib.hid cb6; have gs : (w5.setCell ⟨g, (k + 1) * 3 + 1, none⟩ (.slice B5 (m2 + 1) k5)).cell? ⟨g, (k + 1) * 3 + 1, none⟩ = some (.slice B5 (m2 + 1) k5) := World.cell?_setCell_same' _ _ _ (by rw [y1]; rfl); obtain ⟨w6, hw6⟩ : ∃ w6 : World, w5.setCell ⟨g, (k + 1) * 3 + 1, none⟩ (.slice B5 (m2 + 1) k5) = w6 := ⟨_, rfl⟩; have st : ∀ {q o : Nat} {v : Value}, w5.cell? ⟨q, o, none⟩ = some v → q ≠ g → w6.cell? ⟨q, o, none⟩ = some v := (fun h hne => by subst hw6; exact (World.cell?_setCell_other _ _ _ _ (by intro e; injection e with e; exact hne e.symm)).trans h); have f1 := st e1 hwg; have f2 := st e2 hbg; have f3 := st e3 hbg; have f4 := st e4 hbg; have f5 := st e5 hbg; have f6 := st e6 hbg; have f7 := st e7 hbg; rw [hw6] at HCB6 gs; clear hb5 hb5' cb5 cb6 hown5 fr5 st))
      all_goals
        clear hw6 e1 e2 e3 e4 e5 e6 e7 f1 f2 f3 f4 f5 f6 f7 v1 v2 v3 v4 v5 v6 v7 y1 fr
        have hw2 : IntKind.i64.wrap ((n3 : Int) - 1) = (n3 : Int) - 1 := IntWalk.i64_in _ (by omega)
        have CB6 := HCB6.out
        have s61 := CB6.chn.cell (i := 1) (v := .slice (some ⟨g, 0, none⟩) n3 c3) rfl
        have hself : ∀ z : Nod, (l.set (k + 1) z)[k + 1]? = some z := fun z => List.getElem?_set_self (by have := HL.out; omega)
        by_cases ht : k + 2 = n3
        · have hqt : ((k : Int) + 1 == (n3 : Int) - 1) = true := by simp; omega
          have frd := (CB6.row.at_ (k := k + 1) (by rw [List.length_set]; have := HL.out; omega))
          obtain ⟨_, _, _, _, _, _, _, _, _, _, fr7⟩ := frd
          have fr8 := fr7 ((k + 1) * 3 + 2)
          have cb7 := CB6.setDone (hself _) ((m2 : Int) + 1)
          rw [List.set_set] at cb7
          have ep : passed l x y k = ⟨y.id, y.log ++ [u], (m2 : Int) + 1⟩ := by
            unfold passed
            rw [L2.out, HL.out, if_pos ht, PL.out]
            try rfl
          obtain ⟨w7, hw7⟩ : ∃ w7 : World, w6.setCell ⟨g, (k + 1) * 3 + 2, none⟩ (.int .i64 ((m2 : Int) + 1)) = w7 := ⟨_, rfl⟩
          rw [hw7] at cb7
          have r0 := cb7.chn.cell (i := 0) (v := .int .i64 view) rfl
          have r1 := cb7.chn.cell (i := 1) (v := .slice (some ⟨g, 0, none⟩) n3 c3) rfl
          have FF := Lib.hid (res_two (a := .int .i64 view) (b := .slice (some ⟨g, 0, none⟩) n3 c3) (cb7.blk (List.mem_singleton.2 rfl)) (show w.heap.size ≤ w.heap.size + 1 by omega) cb7.bel)
          have NN := Lib.hid (cb7.out (u := .int .i64 view) (v := .slice (some ⟨g, 0, none⟩) n3 c3) (cb7.blk (List.mem_singleton.2 rfl)) (show w.heap.size ≤ w.heap.size + 1 by omega))
          obtain ⟨z0, z1, y0, y1⟩ := FF.out.1
          have EP := Lib.hid ep
          clear HCB6 CB6 cb7 hself fr7 ht ep
          go_wp2
          exact bodyPost_ret (v := .tuple #[.agg #[.int .i64 view, .slice (some ⟨g, 0, none⟩) n3 c3], .bool true]) (by simp [results, Tryz.results110, go_sem, FF.out.2.1.1, FF.out.2.1.2]) rfl (by rw [EP.out]; exact ChainRes.has (by rw [List.length_set]; exact hl3) NN.out.1 NN.out.2)
        · have hqt : ((k : Int) + 1 == (n3 : Int) - 1) = false := by simp; omega
          have ep : passed l x y k = { y with log := y.log ++ [u] } := by
            unfold passed
            rw [L2.out, HL.out, if_neg ht, PL.out]
          have r0 := CB6.chn.cell (i := 0) (v := .int .i64 view) rfl
          have FF := Lib.hid (res_two (a := .int .i64 view) (b := .slice (some ⟨g, 0, none⟩) n3 c3) (CB6.blk (List.mem_singleton.2 rfl)) (show w.heap.size ≤ w.heap.size + 1 by omega) CB6.bel)
          have NN := Lib.hid (CB6.out (u := .int .i64 view) (v := .slice (some ⟨g, 0, none⟩) n3 c3) (CB6.blk (List.mem_singleton.2 rfl)) (show w.heap.size ≤ w.heap.size + 1 by omega))
          obtain ⟨z0, z1, y0, y1⟩ := FF.out.1
          have EP := Lib.hid ep
          clear HCB6 CB6 hself ht ep
          go_wp2
          exact bodyPost_ret (v := .tuple #[.agg #[.int .i64 view, .slice (some ⟨g, 0, none⟩) n3 c3], .bool true]) (by simp [results, Tryz.results110, go_sem, FF.out.2.1.1, FF.out.2.1.2]) rfl (by rw [EP.out]; exact ChainRes.has (by rw [List.length_set]; exact hl3) NN.out.1 NN.out.2)
end Go.Proofs.YtemgilofjbnoaaaGreatDoor
namespace Go.Proofs.YtemgilofjbnoaaaGreatDoor
open Go.RowKit Go.Sort
theorem res_row {w1 : World} {lo s : Nat} {l : List Nod} {cs : Array Value} {nv u v : Value} (hrow : NodRow w1 lo w1.heap.size nv l) (hk : Blk w1 s cs 25) :
    NodRow ((w1.setCell ⟨s, 0, none⟩ u).setCell ⟨s, 1, none⟩ v) lo ((w1.setCell ⟨s, 0, none⟩ u).setCell ⟨s, 1, none⟩ v).heap.size nv l := by
  have hb' : w1.heap[s]? = some (.cells cs 25 (0, 0)) := hk
  refine (hrow.keepT (fun k ds t hq ht => ?_)).mono (by simp [World.setCell])
  have hne : k ≠ s := by
    rintro rfl
    have := blk_type hq hb'
    rcases ht with rfl | rfl <;> exact absurd this (by decide)
  rw [Below.heap_setCell _ _ _ _ hne, Below.heap_setCell _ _ _ _ hne]
set_option maxRecDepth 100000 in
set_option maxHeartbeats 4000000 in
theorem do_any (s : SS) (view : Int) (A : Option Addr) (n c : Nat) (l : List Nod) (w : World) (h : Nods w 0 w.heap.size A n c l) (hn : n ≤ 1048576) (hlog : ∀ x ∈ l, x.log.length ≤ 1048576) :
    Calls Mo.prog 88 #[.agg #[.bool s.tells, .int .i64 s.at_], .agg #[.int .i64 view, .slice A n c]] w (ChainRes w (doM view l s)) := by
  have HL := Lib.hid h.len
  have HG := Lib.hid hlog
  have F0 := Lib.hid (((h.box (.cells #[.bool s.tells, .int .i64 s.at_] 118)).box (.cells #[.int .i64 view, .slice A n c] 25)).box (.cells #[.int .i64 0, .slice none 0 0] 25))
  have K := Lib.hid (show ∀ w1 : World, Below (((w.alloc (.cells #[.bool s.tells, .int .i64 s.at_] 118)).alloc (.cells #[.int .i64 view, .slice A n c] 25)).alloc (.cells #[.int .i64 0, .slice none 0 0] 25)).heap.size (((w.alloc (.cells #[.bool s.tells, .int .i64 s.at_] 118)).alloc (.cells #[.int .i64 view, .slice A n c] 25)).alloc (.cells #[.int .i64 0, .slice none 0 0] 25)) w1 → Blk w1 (w.heap.size + 1 + 1) #[.int .i64 0, .slice none 0 0] 25 ∧ Below w.heap.size w w1 from fun w1 hb => by
    obtain ⟨_, b, d⟩ := box_res hb
    exact ⟨by simpa only [World.size_alloc] using b, below_box d⟩)
  clear h hlog
  obtain ⟨tells, at_⟩ := s
  cases tells
  · have e0 : doM view l ⟨false, at_⟩ = passM view l at_ := rfl
    rw [e0]
    clear e0
    go_enter Mo.func88, Tryz.ntmps88
    go_wp2_with fail
    refine (chainPass_any view A n c l at_ _ F0.out hn HG.out).mono ?_
    rintro e w1 ⟨v1, A1, n1, c1, l1, hv1, rfl, hl1, hr1, hb1⟩
    obtain ⟨k1, b1⟩ := K.out _ hb1
    have FF := Lib.hid (res_two (a := .int .i64 v1) (b := .slice A1 n1 c1) k1 (by omega) b1)
    have NN := Lib.hid (res_row (u := .int .i64 v1) (v := .slice A1 n1 c1) (hr1.lower (show w.heap.size ≤ _ by simp; omega)) k1)
    obtain ⟨z0, z1, y0, y1⟩ := FF.out.1
    have HV := Lib.hid hv1
    clear hb1 hr1 k1 b1 hv1
    go_wp2
    exact bodyPost_ret (v := .tuple #[.agg #[.int .i64 v1, .slice A1 n1 c1], .bool (passM view l at_).isSome]) (by simp [results, Tryz.results88, go_sem, FF.out.2.1.1, FF.out.2.1.2]) rfl ⟨v1, A1, n1, c1, l1, HV.out, rfl, hl1, NN.out, FF.out.2.2⟩
  · have e0 : doM view l ⟨true, at_⟩ = tellM view l at_ := rfl
    rw [e0]
    clear e0
    go_enter Mo.func88, Tryz.ntmps88
    go_wp2_with fail
    refine (chainTell_any view A n c l at_ _ F0.out hn HG.out).mono ?_
    rintro e w1 ⟨v1, A1, n1, c1, l1, hv1, rfl, hl1, hr1, hb1⟩
    obtain ⟨k1, b1⟩ := K.out _ hb1
    have FF := Lib.hid (res_two (a := .int .i64 v1) (b := .slice A1 n1 c1) k1 (by omega) b1)
    have NN := Lib.hid (res_row (u := .int .i64 v1) (v := .slice A1 n1 c1) (hr1.lower (show w.heap.size ≤ _ by simp; omega)) k1)
    obtain ⟨z0, z1, y0, y1⟩ := FF.out.1
    have HV := Lib.hid hv1
    clear hb1 hr1 k1 b1 hv1
    go_wp2
    exact bodyPost_ret (v := .tuple #[.agg #[.int .i64 v1, .slice A1 n1 c1], .bool (tellM view l at_).isSome]) (by simp [results, Tryz.results88, go_sem, FF.out.2.1.1, FF.out.2.1.2]) rfl ⟨v1, A1, n1, c1, l1, HV.out, rfl, hl1, NN.out, FF.out.2.2⟩
end Go.Proofs.YtemgilofjbnoaaaGreatDoor
