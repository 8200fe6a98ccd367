/- Valid chains, and what dropping and adding a node make of them: plain Lean, no program in sight. -/
import Derived.Test.YtnbakpdphfdacaaLost
namespace Go.Proofs.Ytnbakpdphfdacaa
open Go.RowKit
/-- one node and one behind it -/
def Ahead (y x : Nod) : Prop := y.id ≠ x.id ∧ x.log <+: y.log ∧ y.done ≤ x.done
theorem Ahead.trans {a b c : Nod} (h : Ahead a b) (h' : Ahead b c) (hne : a.id ≠ c.id) : Ahead a c := ⟨hne, h'.2.1.trans h.2.1, Int.le_trans h.2.2 h'.2.2⟩
theorem nodeOk_log' {x : Nod} (h : nodeOk x = true) : logOk x.log = true := by unfold nodeOk at h; simp only [Bool.and_eq_true] at h; exact h.1.2
theorem nodeOk_iff {x : Nod} : nodeOk x = true ↔ 1 ≤ x.id ∧ x.id ≤ 99 ∧ logOk x.log = true ∧ 0 ≤ x.done ∧ x.done ≤ x.log.length := by
  unfold nodeOk inB; simp only [Bool.and_eq_true, decide_eq_true_eq]; constructor
  · rintro ⟨⟨⟨a, b⟩, c⟩, d, e⟩; exact ⟨a, b, c, d, e⟩
  · rintro ⟨a, b, c, d, e⟩; exact ⟨⟨⟨a, b⟩, c⟩, d, e⟩
/-- what a valid chain is -/
def Good (v : Int) (l : List Nod) : Prop := 0 ≤ v ∧ v ≤ 999 ∧ 1 ≤ l.length ∧ l.length ≤ 5 ∧ (∀ x ∈ l, nodeOk x = true) ∧ l.Pairwise Ahead ∧ tailOk l = true
theorem placeOf_iff {l : List Nod} {x : Nod} {i : Nat} (hx : l[i]? = some x) : placeOf l x.id = some i ↔ ∀ (j : Nat) (y : Nod), j < i → l[j]? = some y → y.id ≠ x.id := by
  constructor
  · intro h
    obtain ⟨z, hz, _, hb⟩ := placeOf_some h
    exact hb
  · intro h; exact placeOf_at hx rfl h
theorem nodAt_iff {l : List Nod} {i : Nat} {x : Nod} (hx : l[i]? = some x) : nodAt l i = true ↔ nodeOk x = true ∧ (∀ (j : Nat) (y : Nod), j < i → l[j]? = some y → y.id ≠ x.id) ∧ (∀ y, 0 < i → l[i - 1]? = some y → logOk y.log = true ∧ logOk x.log = true ∧ x.log <+: y.log ∧ y.done ≤ x.done) := by
  cases i with
  | zero => rw [nodAt_zero hx]; simp [placeOf_iff hx]
  | succ j =>
    have hj : j < l.length := by have := (List.getElem?_eq_some_iff.1 hx).1; omega
    have hy : l[j]? = some l[j] := List.getElem?_eq_getElem hj
    rw [nodAt_succ hx hy]
    simp only [Bool.and_eq_true, decide_eq_true_eq, placeOf_iff hx, logBegins_iff]
    constructor
    · rintro ⟨⟨a, b⟩, ⟨c, d, e⟩, f⟩
      refine ⟨a, b, fun y _ h => ?_⟩
      simp only [Nat.add_sub_cancel] at h
      rw [hy] at h; injection h with h; subst h
      exact ⟨d, c, e, f⟩
    · rintro ⟨a, b, c⟩
      obtain ⟨d, e, f, g⟩ := c l[j] (by omega) (by simp [hy])
      exact ⟨⟨a, b⟩, ⟨e, d, f⟩, g⟩
theorem good_iff {v : Int} {l : List Nod} : chainOk v l = true ↔ Good v l := by
  unfold chainOk Good
  simp only [Bool.and_eq_true, decide_eq_true_eq, List.all_eq_true, List.mem_range, inB]
  constructor
  · rintro ⟨⟨⟨⟨⟨a, b⟩, c⟩, d⟩, h⟩, t⟩
    refine ⟨a, b, c, d, fun x hx => ?_, ?_, t⟩
    · obtain ⟨i, hi⟩ := List.getElem?_of_mem hx
      exact ((nodAt_iff hi).1 (h i (List.getElem?_eq_some_iff.1 hi).1)).1
    · rw [List.pairwise_iff_getElem]
      intro i j hi hj hij
      induction j with
      | zero => omega
      | succ j ih =>
        have hx : l[j + 1]? = some l[j + 1] := List.getElem?_eq_getElem hj
        have n := (nodAt_iff hx).1 (h (j + 1) hj)
        have hjl : j < l.length := by omega
        obtain ⟨_, _, p, q⟩ := n.2.2 l[j] (by omega) (by simp)
        have one : Ahead l[j] l[j + 1] := ⟨n.2.1 j _ (by omega) (List.getElem?_eq_getElem hjl), p, q⟩
        by_cases e : i = j
        · subst e; exact one
        · exact (ih hjl (by omega)).trans one (n.2.1 i _ hij (List.getElem?_eq_getElem hi))
  · rintro ⟨a, b, c, d, ok, pw, t⟩
    refine ⟨⟨⟨⟨⟨a, b⟩, c⟩, d⟩, fun i hi => ?_⟩, t⟩
    rw [List.pairwise_iff_getElem] at pw
    have hx : l[i]? = some l[i] := List.getElem?_eq_getElem hi
    refine (nodAt_iff hx).2 ⟨ok _ (List.getElem_mem hi), fun j y hj hy => ?_, fun y h0 hy => ?_⟩
    · obtain ⟨hjl, rfl⟩ := List.getElem?_eq_some_iff.1 hy
      exact (pw j i hjl hi hj).1
    · obtain ⟨hjl, rfl⟩ := List.getElem?_eq_some_iff.1 hy
      have := pw (i - 1) i hjl hi (by omega)
      exact ⟨nodeOk_log' (ok _ (List.getElem_mem hjl)), nodeOk_log' (ok _ (List.getElem_mem hi)), this.2.1, this.2.2⟩

/-- the last node is told that all it has is everywhere -/
def fixTail (l : List Nod) : List Nod := match l[l.length - 1]? with | some x => l.set (l.length - 1) { x with done := x.log.length } | none => l
theorem fixTail_snoc (l : List Nod) (x : Nod) : fixTail (l ++ [x]) = l ++ [{ x with done := x.log.length }] := by
  unfold fixTail
  have : (l ++ [x])[(l ++ [x]).length - 1]? = some x := by simp
  rw [this]; simp
theorem fixTail_nil : fixTail [] = [] := rfl
theorem fixTail_length (l : List Nod) : (fixTail l).length = l.length := by unfold fixTail; split <;> simp
theorem snoc_of {l : List Nod} (h : 1 ≤ l.length) : ∃ (a : List Nod) (x : Nod), l = a ++ [x] :=
  ⟨l.dropLast, l.getLast (by intro e; subst e; simp at h), (List.dropLast_concat_getLast _).symm⟩
theorem tailOk_snoc (l : List Nod) (x : Nod) : tailOk (l ++ [x]) = decide (x.done = x.log.length) := by
  unfold tailOk
  have : (l ++ [x])[(l ++ [x]).length - 1]? = some x := by simp
  rw [this]
/-- a part of a valid chain, with its tail told, is valid -/
theorem good_part {v u : Int} {l r : List Nod} (h : Good v l) (hs : r.Sublist l) (hr : 1 ≤ r.length) (h0 : 0 ≤ u) (h9 : u ≤ 999) : Good u (fixTail r) := by
  obtain ⟨_, _, _, h4, ok, pw, _⟩ := h
  have pr := pw.sublist hs
  have hl := hs.length_le
  have okr : ∀ x ∈ r, nodeOk x = true := fun x hx => ok x (hs.subset hx)
  obtain ⟨a, x, rfl⟩ := snoc_of hr
  rw [fixTail_snoc]
  rw [List.pairwise_append] at pr
  refine ⟨h0, h9, by simp, by simp at hl ⊢; omega, fun y hy => ?_, ?_, by rw [tailOk_snoc]; simp⟩
  · rcases List.mem_append.1 hy with hy | hy
    · exact okr y (List.mem_append_left _ hy)
    · simp at hy; subst hy
      have := nodeOk_iff.1 (okr x (by simp))
      exact nodeOk_iff.2 ⟨this.1, this.2.1, this.2.2.1, by show (0:Int) ≤ (x.log.length : Int); omega, Int.le_refl _⟩
  · rw [List.pairwise_append]
    refine ⟨pr.1, List.pairwise_singleton _ _, fun y hy z hz => ?_⟩
    simp at hz; subst hz
    have := pr.2.2 y hy x (by simp)
    have hx := nodeOk_iff.1 (okr x (by simp))
    exact ⟨this.1, this.2.1, Int.le_trans this.2.2 hx.2.2.2.2⟩
theorem good_view {v u : Int} {l : List Nod} (h : Good v l) (h0 : 0 ≤ u) (h9 : u ≤ 999) : Good u l := ⟨h0, h9, h.2.2⟩

/-! ### Dropping -/
def dropped (l : List Nod) (k : Nat) : List Nod := fixTail (l.eraseIdx k)
def dropM (v : Int) (l : List Nod) (id : Int) : Option (Int × List Nod) :=
  if chainOk v l then match placeOf l id with
    | some k => if chainOk (v + 1) (dropped l k) then some (v + 1, dropped l k) else none
    | none => none
  else none
theorem dropM_bad {v : Int} {l : List Nod} {id : Int} (h : chainOk v l = false) : dropM v l id = none := by simp [dropM, h]
theorem dropM_none {v : Int} {l : List Nod} {id : Int} (h : placeOf l id = none) : dropM v l id = none := by simp [dropM, h]
theorem dropM_at {v : Int} {l : List Nod} {id : Int} {k : Nat} (h : chainOk v l = true) (hk : placeOf l id = some k) : dropM v l id = if chainOk (v + 1) (dropped l k) then some (v + 1, dropped l k) else none := by simp [dropM, h, hk]
theorem chainOk_nil {v : Int} : chainOk v [] = false := by simp [chainOk]
theorem dropM_one {v : Int} {l : List Nod} {id : Int} (h : l.length = 1) : dropM v l id = none := by
  unfold dropM
  split
  · split
    · rename_i k hk
      have := placeOf_lt hk
      have e : dropped l k = [] := by
        apply List.eq_nil_of_length_eq_zero
        rw [dropped, fixTail_length, List.length_eraseIdx]; split <;> omega
      rw [e, chainOk_nil]; simp
    · rfl
  · rfl
/-- a drop from a valid chain of two or more, the view not at its end, gives a valid chain -/
theorem dropped_good {v : Int} {l : List Nod} {k : Nat} (h : Good v l) (hk : k < l.length) (h2 : 2 ≤ l.length) (hv : v < 999) : Good (v + 1) (dropped l k) :=
  good_part h (List.eraseIdx_sublist _ _) (by rw [List.length_eraseIdx]; split <;> omega) (by have := h.1; omega) (by omega)
theorem dropM_yes {v : Int} {l : List Nod} {id : Int} {k : Nat} (h : Good v l) (hk : placeOf l id = some k) (h2 : 2 ≤ l.length) (hv : v < 999) : dropM v l id = some (v + 1, dropped l k) := by
  rw [dropM_at (good_iff.2 h) hk, if_pos (good_iff.2 (dropped_good h (placeOf_lt hk) h2 hv))]
theorem dropM_some {v u : Int} {l r : List Nod} {id : Int} (h : dropM v l id = some (u, r)) : Good v l ∧ u = v + 1 ∧ v < 999 ∧ 2 ≤ l.length ∧ ∃ k, placeOf l id = some k ∧ r = dropped l k ∧ Good (v + 1) r ∧ r.length + 1 = l.length := by
  unfold dropM at h
  split at h
  · rename_i hok
    split at h
    · rename_i k hk
      split at h
      · rename_i hr
        injection h with h; injection h with e1 e2
        subst e1; subst e2
        have g := good_iff.1 hr
        have hkl := placeOf_lt hk
        have hlen : (dropped l k).length + 1 = l.length := by rw [dropped, fixTail_length, List.length_eraseIdx]; split <;> omega
        have := g.2.2.1
        exact ⟨good_iff.1 hok, rfl, by have := g.2.1; omega, by omega, k, hk, rfl, g, hlen⟩
      · cases h
    · cases h
  · cases h

/-! ### Adding -/
def added (l : List Nod) (id : Int) : List Nod := match l[l.length - 1]? with | some x => l ++ [⟨id, x.log, x.log.length⟩] | none => l
def addM (v : Int) (l : List Nod) (id : Int) : Option (Int × List Nod) :=
  if chainOk v l then (if chainOk (v + 1) (added l id) then some (v + 1, added l id) else none) else none
def swapM (v : Int) (l : List Nod) (old id : Int) : Option (Int × List Nod) := match dropM v l old with | some (u, r) => addM u r id | none => none
theorem added_snoc (l : List Nod) (x : Nod) (id : Int) : added (l ++ [x]) id = l ++ [x] ++ [⟨id, x.log, x.log.length⟩] := by
  unfold added
  have : (l ++ [x])[(l ++ [x]).length - 1]? = some x := by simp
  rw [this]
theorem addM_some {v u : Int} {l r : List Nod} {id : Int} (h : addM v l id = some (u, r)) : Good v l ∧ u = v + 1 ∧ v < 999 ∧ r = added l id ∧ Good (v + 1) r ∧ r.length = l.length + 1 := by
  unfold addM at h
  split at h
  · rename_i hok
    split at h
    · rename_i hr
      injection h with h; injection h with e1 e2
      subst e1; subst e2
      have g := good_iff.1 hr
      have gl := good_iff.1 hok
      refine ⟨gl, rfl, by have := g.2.1; omega, rfl, g, ?_⟩
      obtain ⟨a, x, rfl⟩ := snoc_of gl.2.2.1
      rw [added_snoc]; simp
    · cases h
  · cases h
theorem fixTail_get {l : List Nod} {i : Nat} {x : Nod} (h : l[i]? = some x) : (fixTail l)[i]? = some (if i + 1 = l.length then { x with done := x.log.length } else x) := by
  have hi := (List.getElem?_eq_some_iff.1 h).1
  obtain ⟨a, y, rfl⟩ := snoc_of (l := l) (by omega)
  rw [fixTail_snoc]
  simp only [List.length_append, List.length_singleton] at hi ⊢
  by_cases e : i = a.length
  · subst e
    simp at h; subst h
    simp
  · rw [List.getElem?_append_left (by omega)] at h ⊢
    rw [h, if_neg (by omega)]
theorem fixTail_mem {l : List Nod} {y : Nod} (h : y ∈ fixTail l) : ∃ x ∈ l, y.id = x.id ∧ y.log = x.log := by
  by_cases h1 : 1 ≤ l.length
  · obtain ⟨a, x, rfl⟩ := snoc_of h1
    rw [fixTail_snoc] at h
    rcases List.mem_append.1 h with h | h
    · exact ⟨y, List.mem_append_left _ h, rfl, rfl⟩
    · simp at h; subst h
      exact ⟨x, by simp, rfl, rfl⟩
  · have : l = [] := List.eq_nil_of_length_eq_zero (by omega)
    subst this; simp [fixTail] at h
theorem fixTail_idem (l : List Nod) : fixTail (fixTail l) = fixTail l := by
  by_cases h1 : 1 ≤ l.length
  · obtain ⟨a, x, rfl⟩ := snoc_of h1
    rw [fixTail_snoc, fixTail_snoc]
  · have : l = [] := List.eq_nil_of_length_eq_zero (by omega)
    subst this; rfl
theorem fixTail_cons {x : Nod} {l : List Nod} (h : 1 ≤ l.length) : fixTail (x :: l) = x :: fixTail l := by
  obtain ⟨a, y, rfl⟩ := snoc_of h
  rw [← List.cons_append, fixTail_snoc, fixTail_snoc]; rfl
theorem fixTail_ok {l : List Nod} (h : tailOk l = true) (h1 : 1 ≤ l.length) : fixTail l = l := by
  obtain ⟨a, x, rfl⟩ := snoc_of h1
  rw [tailOk_snoc, decide_eq_true_eq] at h
  rw [fixTail_snoc, ← h]
theorem place_get {l : List Nod} {id : Int} {k : Nat} (h : placeOf l id = some k) : ∃ x, l[k]? = some x ∧ x.id = id := by obtain ⟨x, h1, h2, _⟩ := placeOf_some h; exact ⟨x, h1, h2⟩
theorem good_ids {v : Int} {l : List Nod} (h : Good v l) {i j : Nat} {x y : Nod} (hx : l[i]? = some x) (hy : l[j]? = some y) (hij : i ≠ j) : x.id ≠ y.id := by
  have pw := h.2.2.2.2.2.1
  rw [List.pairwise_iff_getElem] at pw
  obtain ⟨hi, rfl⟩ := List.getElem?_eq_some_iff.1 hx
  obtain ⟨hj, rfl⟩ := List.getElem?_eq_some_iff.1 hy
  rcases Nat.lt_or_gt_of_ne hij with e | e
  · exact (pw i j hi hj e).1
  · exact fun e' => (pw j i hj hi e).1 e'.symm
theorem good_place {v : Int} {l : List Nod} (h : Good v l) {i : Nat} {x : Nod} (hx : l[i]? = some x) : placeOf l x.id = some i :=
  placeOf_at hx rfl fun j _ hj hy => good_ids h hy hx (by omega)
/-- where the other nodes are behind a drop -/
theorem dropped_get {l : List Nod} {k i : Nat} {x : Nod} (hx : l[i]? = some x) (hne : i ≠ k) :
    ∃ y, (dropped l k)[if i < k then i else i - 1]? = some y ∧ y.id = x.id ∧ y.log = x.log ∧ (y.done = x.done ∨ y.done = x.log.length) := by
  have e : (l.eraseIdx k)[if i < k then i else i - 1]? = some x := by
    rw [List.getElem?_eraseIdx]
    by_cases h : i < k
    · rw [if_pos h, if_pos h, hx]
    · rw [if_neg h, if_neg (by omega), show i - 1 + 1 = i by omega, hx]
  obtain ⟨j, hj⟩ : ∃ j, j = if i < k then i else i - 1 := ⟨_, rfl⟩
  rw [← hj] at e ⊢
  have := fixTail_get e
  refine ⟨_, this, ?_⟩
  by_cases h : j + 1 = (l.eraseIdx k).length
  · rw [if_pos h]; exact ⟨rfl, rfl, .inr rfl⟩
  · rw [if_neg h]; exact ⟨rfl, rfl, .inl rfl⟩
/-- and whence each comes -/
theorem dropped_from {l : List Nod} {k j : Nat} {y : Nod} (hy : (dropped l k)[j]? = some y) : ∃ (i : Nat) (x : Nod), l[i]? = some x ∧ i ≠ k ∧ y.id = x.id ∧ y.log = x.log ∧ (y.done = x.done ∨ y.done = x.log.length) ∧ j = (if i < k then i else i - 1) := by
  have hj := (List.getElem?_eq_some_iff.1 hy).1
  rw [dropped, fixTail_length] at hj
  have hg : (l.eraseIdx k)[j]? = some (l.eraseIdx k)[j] := List.getElem?_eq_getElem hj
  have h2 := fixTail_get hg
  have hy' : (fixTail (l.eraseIdx k))[j]? = some y := hy
  rw [hy'] at h2
  injection h2 with h2
  rw [List.getElem?_eraseIdx] at hg
  obtain ⟨z, hz⟩ : ∃ z, z = (l.eraseIdx k)[j] := ⟨_, rfl⟩
  rw [← hz] at hg h2
  have parts : y.id = z.id ∧ y.log = z.log ∧ (y.done = z.done ∨ y.done = z.log.length) := by
    rw [h2]
    by_cases e : j + 1 = (l.eraseIdx k).length
    · rw [if_pos e]; exact ⟨rfl, rfl, .inr rfl⟩
    · rw [if_neg e]; exact ⟨rfl, rfl, .inl rfl⟩
  by_cases h : j < k
  · rw [if_pos h] at hg
    exact ⟨j, z, hg, by omega, parts.1, parts.2.1, parts.2.2, (if_pos h).symm⟩
  · rw [if_neg h] at hg
    exact ⟨j + 1, z, hg, by omega, parts.1, parts.2.1, parts.2.2, by rw [if_neg (by omega)]; rfl⟩
theorem dropped_gone {v : Int} {l : List Nod} {id : Int} {k : Nat} (h : Good v l) (hk : placeOf l id = some k) : ∀ y ∈ dropped l k, y.id ≠ id := by
  intro y hy
  obtain ⟨j, hj⟩ := List.getElem?_of_mem hy
  obtain ⟨i, x, hx, hne, e, _⟩ := dropped_from hj
  obtain ⟨z, hz, rfl⟩ := place_get hk
  rw [e]
  exact good_ids h hx hz hne
theorem placeOf_no {l : List Nod} {id : Int} (h : ∀ y ∈ l, y.id ≠ id) : placeOf l id = none := placeOf_none fun _ x hx => h x (List.mem_of_getElem? hx)
/-- the tail: behind all, with all it has -/
theorem good_tail {v : Int} {l : List Nod} (h : Good v l) : ∃ (a : List Nod) (t : Nod), l = a ++ [t] ∧ t.done = t.log.length ∧ ∀ x ∈ l, t.log <+: x.log ∧ x.done ≤ t.log.length := by
  obtain ⟨_, _, h1, _, ok, pw, ht⟩ := h
  obtain ⟨a, t, rfl⟩ := snoc_of h1
  rw [tailOk_snoc, decide_eq_true_eq] at ht
  refine ⟨a, t, rfl, ht, fun x hx => ?_⟩
  rcases List.mem_append.1 hx with hx | hx
  · rw [List.pairwise_append] at pw
    have := pw.2.2 x hx t (by simp)
    exact ⟨this.2.1, by rw [← ht]; exact this.2.2⟩
  · simp at hx; subst hx
    exact ⟨List.prefix_rfl, by omega⟩
theorem take_prefix {a b : List Upd} {n : Nat} (h : a <+: b) (hn : n ≤ a.length) : b.take n = a.take n := by
  obtain ⟨c, rfl⟩ := h
  rw [List.take_append_of_le_length hn]
/-- what is everywhere: the first updates of any two nodes -/
theorem good_done {v : Int} {l : List Nod} (h : Good v l) {x y : Nod} (hx : x ∈ l) (hy : y ∈ l) : x.done ≤ y.log.length ∧ y.log.take x.done.toNat = x.log.take x.done.toNat := by
  obtain ⟨a, t, _, _, ht⟩ := good_tail h
  have h1 := ht x hx
  have h2 := ht y hy
  have := h2.1.length_le
  refine ⟨by omega, ?_⟩
  rw [take_prefix h2.1 (by omega), take_prefix h1.1 (by omega)]
theorem drop_done {v u : Int} {l r : List Nod} {id : Int} (h : dropM v l id = some (u, r)) {x y : Nod} (hx : x ∈ l) (hy : y ∈ r) : x.done ≤ y.log.length ∧ y.log.take x.done.toNat = x.log.take x.done.toNat := by
  obtain ⟨g, _, _, _, k, _, rfl, _⟩ := dropM_some h
  obtain ⟨z, hz, _, e⟩ := fixTail_mem hy
  rw [e]
  exact good_done g hx ((List.eraseIdx_sublist l k).subset hz)
theorem drop_again {v u : Int} {l r : List Nod} {id : Int} (h : dropM v l id = some (u, r)) : dropM u r id = none := by
  obtain ⟨g, _, _, _, k, hk, rfl, _⟩ := dropM_some h
  exact dropM_none (placeOf_no (dropped_gone g hk))
theorem good_tl {v : Int} {a : Nod} {l : List Nod} (h : Good v (a :: l)) (h1 : 1 ≤ l.length) (u : Int) (h0 : 0 ≤ u) (h9 : u ≤ 999) : Good u l ∧ fixTail l = l := by
  have ht : tailOk l = true := by
    obtain ⟨b, t, rfl⟩ := snoc_of h1
    have := h.2.2.2.2.2.2
    rw [← List.cons_append, tailOk_snoc] at this
    rw [tailOk_snoc]; exact this
  have e := fixTail_ok ht h1
  exact ⟨e ▸ good_part h (List.sublist_cons_self a l) h1 h0 h9, e⟩
/-- the order of two drops does not count, if the head is one of both -/
theorem drop_two {v u u2 : Int} {a : Nod} {l r x : List Nod} {id : Int} (h : dropM v (a :: l) id = some (u, r)) (hne : a.id ≠ id) (h2 : dropM u r a.id = some (u2, x)) :
    ∃ y, dropM v (a :: l) a.id = some (u, y) ∧ dropM u y id = some (u2, x) := by
  obtain ⟨g, rfl, hv, hl, k, hk, rfl, g1, hlen⟩ := dropM_some h
  obtain ⟨_, rfl, hv2, hl2, k2, hk2, rfl, g2, hlen2⟩ := dropM_some h2
  obtain ⟨z, hz, hzid⟩ := place_get hk
  cases k with
  | zero => simp at hz; subst hz; exact absurd hzid hne
  | succ k =>
    have hkl := placeOf_lt hk
    simp only [List.length_cons] at hl hlen hkl
    have e1 : dropped (a :: l) (k + 1) = a :: fixTail (l.eraseIdx k) := by
      rw [dropped, List.eraseIdx_cons_succ, fixTail_cons (by rw [List.length_eraseIdx]; split <;> omega)]
    rw [e1] at hk2 g1 h2 hl2 hlen hlen2 g2 ⊢
    have hk0 : k2 = 0 := by
      have := good_place g1 (i := 0) (x := a) rfl
      rw [hk2] at this; injection this
    subst hk0
    have e2 : dropped (a :: fixTail (l.eraseIdx k)) 0 = fixTail (l.eraseIdx k) := by rw [dropped, List.eraseIdx_cons_zero, fixTail_idem]
    rw [e2] at g2 ⊢
    simp only [List.length_cons] at hl2
    obtain ⟨gl, el⟩ := good_tl g (by omega) (v + 1) (by have := g.1; omega) (by omega)
    have hz' : l[k]? = some z := by simpa using hz
    have hp : placeOf l id = some k := by rw [← hzid]; exact good_place gl hz'
    refine ⟨l, ?_, ?_⟩
    · rw [dropM_yes g (good_place g (i := 0) (x := a) rfl) (by simp; omega) (by omega), dropped, List.eraseIdx_cons_zero, el]
    · rw [fixTail_length, List.length_eraseIdx] at hl2
      rw [dropM_yes gl hp (by split at hl2 <;> omega) (by omega)]; rfl
theorem drop_two' {v u u2 : Int} {l r x : List Nod} {id : Int} {a : Nod} (ha : l[0]? = some a) (h : dropM v l id = some (u, r)) (hne : a.id ≠ id) (h2 : dropM u r a.id = some (u2, x)) :
    ∃ y, dropM v l a.id = some (u, y) ∧ dropM u y id = some (u2, x) := by
  cases l with
  | nil => simp at ha
  | cons b l => simp at ha; subst ha; exact drop_two h hne h2
/-- who is alone stays, anyone else can go -/
theorem drop_place {v : Int} {l : List Nod} {id : Int} (h : Good v l) (hv : v ≠ 999) : (dropM v l id).isSome = (decide (2 ≤ l.length) && (placeOf l id).isSome) := by
  cases hp : placeOf l id with
  | none => rw [dropM_none hp]; simp
  | some k =>
    by_cases h2 : 2 ≤ l.length
    · rw [dropM_yes h hp h2 (by have := h.2.1; omega)]; simp [h2]
    · rw [dropM_one (by have := h.2.2.1; omega)]; simp [h2]
/-- the tail's log begins the new tail's -/
theorem drop_tail {v u : Int} {l r : List Nod} {id : Int} {t t' : Nod} (h : dropM v l id = some (u, r)) (ht : l[l.length - 1]? = some t) (ht' : r[r.length - 1]? = some t') : t.log <+: t'.log ∧ (t.id ≠ id → t'.log = t.log) := by
  obtain ⟨g, rfl, hv, hl, k, hk, rfl, g1, hlen⟩ := dropM_some h
  obtain ⟨i, x, hx, hne, _, e, _, hj⟩ := dropped_from ht'
  obtain ⟨a, t2, rfl, _, hall⟩ := good_tail g
  simp at ht; subst ht
  have hxm := List.mem_of_getElem? hx
  refine ⟨by rw [e]; exact (hall x hxm).1, fun hid => ?_⟩
  have hkl := placeOf_lt hk
  have hil := (List.getElem?_eq_some_iff.1 hx).1
  simp only [List.length_append, List.length_singleton] at hlen hkl hil
  have hka : k ≠ a.length := by
    rintro rfl
    obtain ⟨z, hz, hzid⟩ := place_get hk
    simp at hz; subst hz; exact hid hzid
  have : i = a.length := by split at hj <;> omega
  subst this
  simp at hx; subst hx
  rw [e]
theorem added_get {l : List Nod} {t : Nod} (ht : l[l.length - 1]? = some t) (id : Int) : added l id = l ++ [⟨id, t.log, t.log.length⟩] := by unfold added; rw [ht]
theorem add_tail {v u : Int} {l r : List Nod} {id : Int} {t : Nod} (h : addM v l id = some (u, r)) (ht : l[l.length - 1]? = some t) : r = l ++ [⟨id, t.log, t.log.length⟩] := by
  obtain ⟨_, _, _, rfl, _⟩ := addM_some h
  exact added_get ht id
theorem add_again {v u : Int} {l r : List Nod} {id : Int} (h : addM v l id = some (u, r)) : addM u r id = none := by
  obtain ⟨g, rfl, _, rfl, g1, hlen⟩ := addM_some h
  obtain ⟨a, x, rfl⟩ := snoc_of g.2.2.1
  rw [added_snoc] at g1 ⊢
  unfold addM
  rw [added_snoc]
  cases hc : chainOk (v + 1 + 1) (a ++ [x] ++ [⟨id, x.log, x.log.length⟩] ++ [⟨id, x.log, (x.log.length : Nat)⟩])
  · simp
  · exfalso
    have gg := good_iff.1 hc
    exact good_ids gg (i := a.length + 1) (j := a.length + 2) (x := ⟨id, x.log, x.log.length⟩) (y := ⟨id, x.log, x.log.length⟩) (by simp) (by simp) (by omega) rfl
theorem add_drop {v u u2 : Int} {l r x : List Nod} {id : Int} (h : addM v l id = some (u, r)) (h2 : dropM u r id = some (u2, x)) : x = l ∧ u2 = v + 2 := by
  obtain ⟨g, rfl, _, rfl, g1, hlen⟩ := addM_some h
  obtain ⟨_, rfl, _, _, k, hk, rfl, _⟩ := dropM_some h2
  refine ⟨?_, by omega⟩
  obtain ⟨a, y, rfl⟩ := snoc_of g.2.2.1
  rw [added_snoc] at g1 hk ⊢
  have : placeOf (a ++ [y] ++ [⟨id, y.log, y.log.length⟩]) id = some (a.length + 1) := good_place g1 (x := ⟨id, y.log, y.log.length⟩) (by simp)
  rw [hk] at this; injection this with this; subst this
  rw [dropped, List.eraseIdx_append_of_length_le (by simp)]
  simp
  exact fixTail_ok g.2.2.2.2.2.2 (by simp)

/-- what is lost, told by what is left -/
theorem drop_lost {v u : Int} {l r : List Nod} {id : Int} {a b : Nod} (h : dropM v l id = some (u, r)) (ha : l[0]? = some a) (hb : r[0]? = some b) : a.log.drop b.log.length = lost v l id ∧ (a.id = id ∨ lost v l id = []) := by
  obtain ⟨g, rfl, hv, hl, k, hk, rfl, g1, hlen⟩ := dropM_some h
  have hd := dropRole_ok (v := v) (id := id) (n := l.length) (good_iff.2 g) rfl
  rw [hk] at hd
  have hkl := placeOf_lt hk
  obtain ⟨z, hz, hzid⟩ := place_get hk
  by_cases h0 : k = 0
  · subst h0
    rw [ha] at hz; injection hz with hz; subst hz
    have r1 : dropRole v l id = 1 := by rw [hd]; exact roleOf1 (by simp [placeI]) (by simp [placeI]; omega) (by omega) rfl
    have hy : l[1]? = some l[1] := List.getElem?_eq_getElem (by omega)
    obtain ⟨y, hy', _, e, _⟩ := dropped_get (k := 0) hy (by omega)
    simp at hy'
    rw [hb] at hy'; injection hy' with hy'; subst hy'
    rw [lost_head r1 ha hy, e]
    exact ⟨rfl, .inl hzid⟩
  · have r1 : dropRole v l id ≠ 1 := by
      rw [hd]; intro e
      have hp : placeI (some k) = (k : Int) := rfl
      rw [hp] at e
      by_cases h4 : k + 1 = l.length
      · rw [roleOf3 (by omega) (by omega) (by omega) (by omega) (by omega)] at e; omega
      · rw [roleOf2 (by omega) (by omega) (by omega) (by omega) (by omega)] at e; omega
    obtain ⟨y, hy', _, e, _⟩ := dropped_get (k := k) ha (by omega)
    rw [if_pos (by omega), hb] at hy'; injection hy' with hy'; subst hy'
    rw [lost_not r1, e]
    exact ⟨List.drop_eq_nil_of_le (Nat.le_refl _), .inr rfl⟩
/-- who has a role and is not alone can be dropped -/
theorem drop_role {v : Int} {l : List Nod} {id r : Int} (h : Good v l) (hv : v ≠ 999) (hr : dropRole v l id = r) : (dropM v l id).isSome = ((r != 0) && (r != 4)) := by
  rw [drop_place h hv]
  rw [dropRole_ok (good_iff.2 h) rfl] at hr
  have h1 := h.2.2.1
  cases hp : placeOf l id with
  | none =>
    rw [hp] at hr
    have : r = 0 := by rw [← hr]; simp [placeI, roleOf]
    subst this; simp
  | some k =>
    have hk := placeOf_lt hp
    have e : placeI (some k) = (k : Int) := rfl
    rw [hp, e] at hr
    by_cases h2 : l.length = 1
    · rw [roleOf4 (by omega) (by omega) (by omega)] at hr; subst hr; simp [h2]
    · have h22 : 2 ≤ l.length := by omega
      by_cases h3 : k = 0
      · rw [roleOf1 (by omega) (by omega) (by omega) (by omega)] at hr; subst hr; simp [h22]
      · by_cases h4 : k + 1 = l.length
        · rw [roleOf3 (by omega) (by omega) (by omega) (by omega) (by omega)] at hr; subst hr; simp [h22]
        · rw [roleOf2 (by omega) (by omega) (by omega) (by omega) (by omega)] at hr; subst hr; simp [h22]
/-- what the head of what is lost holds pending -/
theorem lost_pending {v : Int} {l : List Nod} {id : Int} {a b : Nod} (h : dropRole v l id = 1) (ha : l[0]? = some a) (hb : l[1]? = some b) :
    lost v l id = a.log.drop b.log.length ∧ b.log.length ≤ a.log.length ∧ a.done ≤ b.log.length ∧ nodeOk a = true := by
  obtain ⟨hok, _, _⟩ := head_of h
  obtain ⟨h1, h2, h3, h4⟩ := head_logs hok ha hb
  exact ⟨lost_head h ha hb, h2.length_le, Int.le_trans h3 (nodeOk_iff.1 h4).2.2.2.2, h1⟩
end Go.Proofs.Ytnbakpdphfdacaa
