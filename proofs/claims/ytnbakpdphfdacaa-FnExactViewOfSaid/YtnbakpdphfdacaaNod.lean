/- Nodes and chains: the plain functions, and what slices of nodes read as; no program in sight but the types' numbers. -/
import Derived.Test.YtnbakpdphfdacaaLeaf
namespace Go.Proofs.Ytnbakpdphfdacaa
open Go.RowKit

structure Nod where
  id : Int
  log : List Upd
  done : Int

/-! ### The plain functions -/
theorem Upd.ext' {a b : Upd} (h1 : a.key = b.key) (h2 : a.value = b.value) : a = b := by cases a; cases b; simp_all
def Upd.same (a b : Upd) : Bool := decide (a.key = b.key) && decide (a.value = b.value)
theorem Upd.same_iff {a b : Upd} : a.same b = true ↔ a = b := by
  constructor
  · intro h; simp [Upd.same] at h; exact Upd.ext' h.1 h.2
  · rintro rfl; simp [Upd.same]
theorem Upd.same_refl (a : Upd) : a.same a = true := by simp [Upd.same]
def logOk (l : List Upd) : Bool := decide (l.length ≤ 12) && l.all fun u => updOk u.key u.value
def common : List Upd → List Upd → Nat
  | x :: xs, y :: ys => if x.same y then common xs ys + 1 else 0
  | _, _ => 0
theorem common_step {a b : List Upd} {k : Nat} {x y : Upd} (hx : a[k]? = some x) (hy : b[k]? = some y) (h : x.same y = true) : common (a.drop k) (b.drop k) = common (a.drop (k + 1)) (b.drop (k + 1)) + 1 := by
  obtain ⟨ha, ea⟩ := List.getElem?_eq_some_iff.1 hx
  obtain ⟨hb, eb⟩ := List.getElem?_eq_some_iff.1 hy
  rw [List.drop_eq_getElem_cons ha, List.drop_eq_getElem_cons hb, ea, eb, common, h]; rfl
theorem common_part {a b : List Upd} {k : Nat} {x y : Upd} (hx : a[k]? = some x) (hy : b[k]? = some y) (h : x.same y = false) : common (a.drop k) (b.drop k) = 0 := by
  obtain ⟨ha, ea⟩ := List.getElem?_eq_some_iff.1 hx
  obtain ⟨hb, eb⟩ := List.getElem?_eq_some_iff.1 hy
  rw [List.drop_eq_getElem_cons ha, List.drop_eq_getElem_cons hb, ea, eb, common, h]; rfl
theorem common_end {a b : List Upd} {k : Nat} (h : a.length ≤ k ∨ b.length ≤ k) : common (a.drop k) (b.drop k) = 0 := by
  rcases h with h | h
  · rw [List.drop_eq_nil_of_le h]; rfl
  · rw [List.drop_eq_nil_of_le h]; cases a.drop k <;> rfl
theorem common_le (a : List Upd) : ∀ b : List Upd, common a b ≤ a.length ∧ common a b ≤ b.length := by
  induction a with
  | nil => intro b; cases b <;> exact ⟨Nat.zero_le _, Nat.zero_le _⟩
  | cons x a ih =>
    intro b
    cases b with
    | nil => exact ⟨Nat.zero_le _, Nat.zero_le _⟩
    | cons y b =>
      unfold common
      have := ih b
      split
      · simp only [List.length_cons]; omega
      · exact ⟨Nat.zero_le _, Nat.zero_le _⟩
theorem common_all {a : List Upd} : ∀ {b : List Upd}, common a b = a.length ↔ a <+: b := by
  induction a with
  | nil => intro b; simp [common]
  | cons x a ih =>
    intro b
    cases b with
    | nil => simp [common]
    | cons y b =>
      unfold common
      rw [List.cons_prefix_cons]
      split
      · rename_i h
        rw [Upd.same_iff] at h
        simp [h, ih]
      · rename_i h
        rw [Upd.same_iff] at h
        simp [h]
def logCommon (a b : List Upd) : Int := if logOk a && logOk b then (common a b : Int) else -1
def logBegins (a b : List Upd) : Bool := logOk a && logOk b && decide (common a b = a.length)
theorem logBegins_iff {a b : List Upd} : logBegins a b = true ↔ logOk a = true ∧ logOk b = true ∧ a <+: b := by
  unfold logBegins; simp [common_all, and_assoc]

def nodeOk (x : Nod) : Bool := inB x.id 1 99 && logOk x.log && inB x.done 0 x.log.length
def placeOf (l : List Nod) (id : Int) : Option Nat := l.findIdx? fun x => decide (x.id = id)
def placeI (p : Option Nat) : Int := match p with | some k => (k : Int) | none => -1
def nodAt (l : List Nod) (i : Nat) : Bool :=
  match l[i]? with
  | none => true
  | some x => nodeOk x && decide (placeOf l x.id = some i) && (match i with
    | 0 => true
    | j + 1 => match l[j]? with
      | none => true
      | some y => logBegins x.log y.log && decide (y.done ≤ x.done))
def tailOk (l : List Nod) : Bool := match l[l.length - 1]? with | some x => decide (x.done = x.log.length) | none => true
def chainOk (v : Int) (l : List Nod) : Bool := inB v 0 999 && decide (1 ≤ l.length) && decide (l.length ≤ 5) && (List.range l.length).all (nodAt l) && tailOk l

theorem placeOf_none {l : List Nod} {id : Int} (h : ∀ (i : Nat) (x : Nod), l[i]? = some x → x.id ≠ id) : placeOf l id = none := by
  unfold placeOf
  rw [List.findIdx?_eq_none_iff]
  intro x hx
  obtain ⟨i, hi⟩ := List.getElem?_of_mem hx
  simp [h i x hi]
theorem placeOf_at {l : List Nod} {id : Int} {k : Nat} {x : Nod} (hx : l[k]? = some x) (he : x.id = id) (h : ∀ (i : Nat) (y : Nod), i < k → l[i]? = some y → y.id ≠ id) : placeOf l id = some k := by
  unfold placeOf
  rw [List.findIdx?_eq_some_iff_getElem]
  obtain ⟨hk, e⟩ := List.getElem?_eq_some_iff.1 hx
  refine ⟨hk, by rw [e]; simp [he], fun j hj => ?_⟩
  have := h j l[j] hj (List.getElem?_eq_getElem _)
  simp [this]
theorem placeOf_some {l : List Nod} {id : Int} {k : Nat} (h : placeOf l id = some k) : ∃ x, l[k]? = some x ∧ x.id = id ∧ ∀ (i : Nat) (y : Nod), i < k → l[i]? = some y → y.id ≠ id := by
  unfold placeOf at h
  rw [List.findIdx?_eq_some_iff_getElem] at h
  obtain ⟨hk, he, hb⟩ := h
  refine ⟨l[k], List.getElem?_eq_getElem hk, by simpa using he, fun i y hi hy => ?_⟩
  obtain ⟨hi', e⟩ := List.getElem?_eq_some_iff.1 hy
  have := hb i hi
  rw [← e]; simpa using this
theorem placeOf_lt {l : List Nod} {id : Int} {k : Nat} (h : placeOf l id = some k) : k < l.length := by
  obtain ⟨x, hx, _⟩ := placeOf_some h
  exact (List.getElem?_eq_some_iff.1 hx).1
theorem all_range_false {p : Nat → Bool} {k n : Nat} (hk : p k = false) (h : k < n) : (List.range n).all p = false := by
  rw [List.all_eq_false]
  exact ⟨k, by simpa using h, by simp [hk]⟩
theorem all_range_succ {p : Nat → Bool} {k : Nat} (h : (List.range k).all p = true) (hk : p k = true) : (List.range (k + 1)).all p = true := by
  rw [List.range_succ, List.all_append, h]; simp [hk]
theorem all_range_at {p : Nat → Bool} {k n : Nat} (h : (List.range n).all p = true) (hk : k < n) : p k = true := by
  rw [List.all_eq_true] at h
  exact h k (by simpa using hk)
theorem chainOk_bad {v : Int} {l : List Nod} {k : Nat} (hk : nodAt l k = false) (h : k < l.length) : chainOk v l = false := by
  unfold chainOk; rw [all_range_false hk h]; simp
theorem nodAt_node {l : List Nod} {i : Nat} {x : Nod} (hx : l[i]? = some x) (h : nodeOk x = false) : nodAt l i = false := by simp [nodAt, hx, h]
theorem nodAt_place {l : List Nod} {i : Nat} {x : Nod} (hx : l[i]? = some x) (h : placeOf l x.id ≠ some i) : nodAt l i = false := by simp [nodAt, hx, h]
theorem nodAt_zero {l : List Nod} {x : Nod} (hx : l[0]? = some x) : nodAt l 0 = (nodeOk x && decide (placeOf l x.id = some 0)) := by simp [nodAt, hx]
theorem nodAt_succ {l : List Nod} {j : Nat} {x y : Nod} (hx : l[j + 1]? = some x) (hy : l[j]? = some y) :
    nodAt l (j + 1) = (nodeOk x && decide (placeOf l x.id = some (j + 1)) && (logBegins x.log y.log && decide (y.done ≤ x.done))) := by simp [nodAt, hx, hy]

/-! ### A row of nodes, as it lies -/
structure RN where
  id : Int
  A : Option Addr
  n : Nat
  c : Nat
  done : Int
def RN.enc (r : RN) : List Value := [.int .i64 r.id, .slice r.A r.n r.c, .int .i64 r.done]
theorem RN.len (r : RN) : r.enc.length = 3 := rfl
theorem RN.one (x : RN) : ∀ u ∈ x.enc, u.oneCell' = true := by intro u hu; simp [RN.enc] at hu; rcases hu with rfl | rfl | rfl <;> rfl

/-- the slice 'A n c' reads as the nodes l, in blocks from lo on and below hi -/
def Nods (w : World) (lo hi : Nat) (A : Option Addr) (n c : Nat) (l : List Nod) : Prop :=
  ∃ rs : List RN, Flat RN.enc 3 w lo hi A n c rs ∧ rs.length = l.length ∧ ∀ (i : Nat) (r : RN) (x : Nod), rs[i]? = some r → l[i]? = some x → r.id = x.id ∧ r.done = x.done ∧ Flat Upd.enc 2 w lo hi r.A r.n r.c x.log

section
variable {w w' : World} {lo hi n c : Nat} {A : Option Addr} {l : List Nod}
theorem Nods.len (h : Nods w lo hi A n c l) : l.length = n := by obtain ⟨rs, hf, hl, _⟩ := h; rw [← hl]; exact hf.len
theorem Nods.cap (h : Nods w lo hi A n c l) : n ≤ c ∧ c ≤ maxLen := by obtain ⟨rs, hf, _⟩ := h; exact ⟨hf.2.1, hf.2.2.1⟩
theorem Nods.keep (h : Nods w lo hi A n c l) (hk : ∀ k, lo ≤ k → k < hi → w'.heap[k]? = w.heap[k]?) : Nods w' lo hi A n c l := by
  obtain ⟨rs, hf, hl, hr⟩ := h
  exact ⟨rs, hf.keep hk, hl, fun i r x h1 h2 => by obtain ⟨a, b, c⟩ := hr i r x h1 h2; exact ⟨a, b, c.keep hk⟩⟩
theorem Nods.below {B : Nat} (h : Nods w lo hi A n c l) (hb : Below B w w') (hB : hi ≤ B) : Nods w' lo hi A n c l := h.keep fun k _ hk => hb.block k (by omega)
theorem Nods.mono {lo' hi' : Nat} (h : Nods w lo hi A n c l) (h1 : lo' ≤ lo) (h2 : hi ≤ hi') : Nods w lo' hi' A n c l := by
  obtain ⟨rs, hf, hl, hr⟩ := h
  exact ⟨rs, hf.mono h1 h2, hl, fun i r x h3 h4 => by obtain ⟨a, b, c⟩ := hr i r x h3 h4; exact ⟨a, b, c.mono h1 h2⟩⟩
theorem Nods.wide (h : Nods w lo hi A n c l) (h2 : hi ≤ w.heap.size) : Nods w 0 w.heap.size A n c l := h.mono (Nat.zero_le _) h2
theorem Nods.take_ (h : Nods w lo hi A n c l) {k : Nat} (hk : k ≤ n) : Nods w lo hi A k c (l.take k) := by
  obtain ⟨rs, hf, hl, hr⟩ := h
  refine ⟨rs.take k, hf.take_ hk, by simp [hl], fun i r x h1 h2 => ?_⟩
  rw [List.getElem?_take] at h1 h2
  split at h1
  · rename_i hi; rw [if_pos hi] at h2; exact hr i r x h1 h2
  · cases h1
theorem Nods.nil_ (w : World) (lo hi : Nat) : Nods w lo hi none 0 0 [] := ⟨[], Flat.nil_ _ _ _ _ _, rfl, fun i r x h => by simp at h⟩
/-- the cells of one node -/
theorem Nods.nod (h : Nods w lo hi A n c l) {k : Nat} (hk : k < n) :
    ∃ b off x A' m d, A = some ⟨b, off, none⟩ ∧ lo ≤ b ∧ b < hi ∧ l[k]? = some x ∧ w.cell? ⟨b, off + k * 3, none⟩ = some (.int .i64 x.id) ∧ w.cell? ⟨b, off + k * 3 + 1, none⟩ = some (.slice A' m d) ∧
      w.cell? ⟨b, off + k * 3 + 2, none⟩ = some (.int .i64 x.done) ∧ Flat Upd.enc 2 w lo hi A' m d x.log := by
  have hlen := h.len
  obtain ⟨rs, hf, hl, hr⟩ := h
  obtain ⟨b, off, r, e, h1, h2, hx, hc⟩ := hf.at_ hk
  have hx' : l[k]? = some (l[k]'(by omega)) := List.getElem?_eq_getElem _
  obtain ⟨ei, ed, fl⟩ := hr k r _ hx hx'
  refine ⟨b, off, _, r.A, r.n, r.c, e, h1, h2, hx', ?_, hc 1 _ rfl, ?_, fl⟩
  · rw [← ei]; exact hc 0 _ rfl
  · rw [← ed]; exact hc 2 _ rfl
end
/-- what a chain's argument is good for: it lies in memory that is there, and is not too large -/
def ChnIn (w : World) (A : Option Addr) (n c : Nat) (l : List Nod) : Prop := Nods w 0 w.heap.size A n c l ∧ n ≤ 1048576 ∧ ∀ x ∈ l, x.log.length ≤ 1048576
theorem ChnIn.below {w w' : World} {n c : Nat} {A : Option Addr} {l : List Nod} (h : ChnIn w A n c l) (hb : Below w.heap.size w w') : ChnIn w' A n c l :=
  ⟨(h.1.below hb (Nat.le_refl _)).mono (Nat.zero_le _) hb.size, h.2⟩

/-! ### A row of nodes that the call itself made, each log in a block of its own -/
def NodRowAt (w : World) (lo hi : Nat) (v : Value) (l : List Nod) (rs : List RN) : Prop :=
  w.ownsRow lo 57 3 v l.length (rs.flatMap RN.enc) ∧ (∀ g, v.ownBlock = some g → g < hi) ∧ rs.length = l.length ∧
    (∀ (i : Nat) (r : RN) (x : Nod), rs[i]? = some r → l[i]? = some x → r.id = x.id ∧ r.done = x.done ∧ x.log.length = r.n ∧ w.ownsRow lo 72 2 (.slice r.A r.n r.c) r.n (x.log.flatMap Upd.enc) ∧ ∀ g, (Value.slice r.A r.n r.c).ownBlock = some g → g < hi) ∧
    (∀ (i j : Nat) (r s : RN) (g : Nat), rs[i]? = some r → rs[j]? = some s → i < j → (Value.slice r.A r.n r.c).ownBlock = some g → (Value.slice s.A s.n s.c).ownBlock ≠ some g)
def NodRow (w : World) (lo hi : Nat) (v : Value) (l : List Nod) : Prop := ∃ rs : List RN, NodRowAt w lo hi v l rs

theorem own_blk {W : World} {lo n sz : Nat} {e : TypeId} {v : Value} {xs : List Value} {g : Nat} (h : W.ownsRow lo e sz v n xs) (hg : v.ownBlock = some g) : ∃ cs, W.heap[g]? = some (.cells cs e (0, 0)) := by
  rcases h.2 with ⟨hv, _⟩ | ⟨g', cap, cur, hv, _, hb, _⟩
  · subst hv; cases hg
  · subst hv
    have : g' = g := by simpa [Value.ownBlock] using hg
    subst this; exact ⟨cur, hb⟩
theorem own_part {W : World} {lo lo' n n' sz sz' : Nat} {e e' : TypeId} {v v' : Value} {xs xs' : List Value} (h : W.ownsRow lo e sz v n xs) (h' : W.ownsRow lo' e' sz' v' n' xs') (he : e ≠ e') {g : Nat} (hg : v.ownBlock = some g) : v'.ownBlock ≠ some g := by
  intro hg'
  obtain ⟨cs, h1⟩ := own_blk h hg
  obtain ⟨cs', h2⟩ := own_blk h' hg'
  rw [h1] at h2; injection h2 with h2; injection h2 with _ h2; exact he h2
/-- what lies in one block stays while that block stays -/
theorem own_keep {W W' : World} {lo n sz : Nat} {e : TypeId} {v : Value} {xs : List Value} (h : W.ownsRow lo e sz v n xs) (hk : ∀ g, v.ownBlock = some g → W'.heap[g]? = W.heap[g]?) : W'.ownsRow lo e sz v n xs := by
  refine ⟨h.1, ?_⟩
  rcases h.2 with hn | ⟨g, cap, cur, rfl, hb, hgg, rest⟩
  · exact .inl hn
  · exact .inr ⟨g, cap, cur, rfl, hb, by rw [hk g rfl]; exact hgg, rest⟩
/-- a log of the call's own, read from lo on and below hi -/
theorem own_read {α : Type} {enc : α → List Value} {sz : Nat} (hs : ∀ x, (enc x).length = sz) {w : World} {lo hi : Nat} {e : TypeId} {A : Option Addr} {c n : Nat} {l : List α}
    (h : w.ownsRow lo e sz (.slice A n c) n (l.flatMap enc)) (hn : l.length = n) (hhi : ∀ g, (Value.slice A n c).ownBlock = some g → g < hi) : Flat enc sz w lo hi A n c l := by
  obtain ⟨h1, h2, h3, h4⟩ := own_flat' hs h hn
  refine ⟨h1, h2, h3, fun hn => ?_⟩
  obtain ⟨b, off, e, hb1, hb2, hc⟩ := h4 hn
  exact ⟨b, off, e, hb1, hhi b (by rw [e]; rfl), hc⟩

section
variable {w w' : World} {lo hi : Nat} {v : Value} {l : List Nod}
theorem NodRow.keep (h : NodRow w lo hi v l) (hk : ∀ k, lo ≤ k → k < hi → w'.heap[k]? = w.heap[k]?) : NodRow w' lo hi v l := by
  obtain ⟨rs, ho, hv, hl, hr, hd⟩ := h
  refine ⟨rs, own_keep ho (fun g e => hk g (ho.lt g e).1 (hv g e)), hv, hl, fun i r x h1 h2 => ?_, hd⟩
  obtain ⟨a, b, c, d, f⟩ := hr i r x h1 h2
  exact ⟨a, b, c, own_keep d (fun g e => hk g (d.lt g e).1 (f g e)), f⟩
theorem NodRow.below {B : Nat} (h : NodRow w lo hi v l) (hb : Below B w w') (hB : hi ≤ B) : NodRow w' lo hi v l := h.keep fun k _ hk => hb.block k (by omega)
theorem NodRow.mono {hi' : Nat} (h : NodRow w lo hi v l) (h2 : hi ≤ hi') : NodRow w lo hi' v l := by
  obtain ⟨rs, ho, hv, hl, hr, hd⟩ := h
  exact ⟨rs, ho, fun g e => Nat.lt_of_lt_of_le (hv g e) h2, hl, fun i r x h1 h2 => by obtain ⟨a, b, c, d, f⟩ := hr i r x h1 h2; exact ⟨a, b, c, d, fun g e => Nat.lt_of_lt_of_le (f g e) (by assumption)⟩, hd⟩
theorem NodRow.lower {lo' : Nat} (h : NodRow w lo hi v l) (hl' : lo' ≤ lo) : NodRow w lo' hi v l := by
  obtain ⟨rs, ho, hv, hl, hr, hd⟩ := h
  have low : ∀ {e : TypeId} {sz n : Nat} {v : Value} {xs : List Value}, w.ownsRow lo e sz v n xs → w.ownsRow lo' e sz v n xs := fun hh => by
    refine ⟨hh.1, ?_⟩
    rcases hh.2 with h1 | ⟨g, cap, cur, e1, hb, rest⟩
    · exact .inl h1
    · exact .inr ⟨g, cap, cur, e1, Nat.le_trans hl' hb, rest⟩
  exact ⟨rs, low ho, hv, hl, fun i r x h1 h2 => by obtain ⟨a, b, c, d, f⟩ := hr i r x h1 h2; exact ⟨a, b, c, low d, f⟩, hd⟩
theorem NodRow.nods (h : NodRow w lo hi v l) : ∃ A c, v = .slice A l.length c ∧ Nods w lo hi A l.length c l := by
  obtain ⟨rs, ho, hv, hl, hr, hd⟩ := h
  obtain ⟨A, c, rfl, _⟩ := own_flat RN.len ho hl
  refine ⟨A, c, rfl, rs, own_read RN.len ho hl hv, hl, fun i r x h1 h2 => ?_⟩
  obtain ⟨a, b, c, d, f⟩ := hr i r x h1 h2
  exact ⟨a, b, own_read Upd.len d c f⟩
theorem NodRow.nods' {A : Option Addr} {n c : Nat} (h : NodRow w lo hi (.slice A n c) l) : n = l.length ∧ Nods w lo hi A n c l := by
  obtain ⟨A', c', e, hn⟩ := h.nods
  injection e with e1 e2 e3
  subst e1; subst e2; subst e3; exact ⟨rfl, hn⟩
theorem NodRow.nil_ (w : World) (lo hi : Nat) : NodRow w lo hi (.slice none 0 0) [] :=
  ⟨[], World.ownsRow_nil w lo _ _, fun g e => by simp [Value.ownBlock] at e, rfl, fun i r x h => by simp at h, fun i j r s g h => by simp at h⟩
theorem NodRow.block (h : NodRow w lo hi v l) {g : Nat} (hg : v.ownBlock = some g) : lo ≤ g ∧ g < w.heap.size := by obtain ⟨rs, ho, _⟩ := h; exact ho.lt g hg
/-- behind an append of one node with a log in a block of its own -/
theorem NodRowAt.appended {hi' : Nat} {v' : Value} {x : Nod} {r : RN} {o : Obj} {rs : List RN} (h : NodRowAt w lo hi v l rs) (hr : r.id = x.id ∧ r.done = x.done ∧ x.log.length = r.n)
    (hlog : w.ownsRow lo 72 2 (.slice r.A r.n r.c) r.n (x.log.flatMap Upd.enc)) (hnew : ∀ g, (Value.slice r.A r.n r.c).ownBlock = some g → hi ≤ g) (hhi : w'.heap.size ≤ hi') (hsz : hi ≤ w.heap.size)
    (ho' : w'.ownsRow lo 57 3 v' (l.length + 1) (rs.flatMap RN.enc ++ r.enc)) (hg : (w.alloc o).grownBy w' v.ownBlock) :
    NodRow w' lo hi' v' (l ++ [x]) := by
  obtain ⟨ho, hv, hl, hrs, hd⟩ := h
  have hgs : w.heap.size ≤ w'.heap.size := Nat.le_trans (by simp) hg.size
  have hk : ∀ g, g < w.heap.size → v.ownBlock ≠ some g → w'.heap[g]? = w.heap[g]? := fun g h1 h2 => (hg.block g (by simp; omega) (fun e => h2 e.symm)).trans (Below.heap_alloc _ _ _ h1)
  have keepLog : ∀ {A : Option Addr} {n c : Nat} {xs : List Value}, w.ownsRow lo 72 2 (.slice A n c) n xs → w'.ownsRow lo 72 2 (.slice A n c) n xs := fun hh =>
    own_keep hh fun g e => hk g (hh.lt g e).2 (own_part hh ho (by decide) e)
  refine ⟨rs ++ [r], ?_, fun g e => ?_, by simp [hl], ?_, ?_⟩
  · rw [List.length_append, List.flatMap_append]; simpa using ho'
  · have := (ho'.lt g e).2; omega
  · intro i r' x' h1 h2
    rw [List.getElem?_append] at h1 h2
    by_cases hi1 : i < rs.length
    · rw [if_pos hi1] at h1
      rw [if_pos (by omega)] at h2
      obtain ⟨a, b, c, d, f⟩ := hrs i r' x' h1 h2
      exact ⟨a, b, c, keepLog d, fun g e => by have := f g e; omega⟩
    · rw [if_neg hi1] at h1
      rw [if_neg (by omega)] at h2
      have e0 : i - rs.length = 0 := by
        have := (List.getElem?_eq_some_iff.1 h1).1
        simp at this; omega
      rw [e0] at h1
      rw [← hl, e0] at h2
      simp at h1 h2
      subst h1; subst h2
      exact ⟨hr.1, hr.2.1, hr.2.2, keepLog hlog, fun g e => by have := (hlog.lt g e).2; omega⟩
  · intro i j r1 r2 g h1 h2 hij e1 e2
    rw [List.getElem?_append] at h1 h2
    by_cases hj : j < rs.length
    · rw [if_pos (by omega)] at h1
      rw [if_pos hj] at h2
      exact hd i j r1 r2 g h1 h2 hij e1 e2
    · rw [if_neg hj] at h2
      have e0 : j - rs.length = 0 := by
        have := (List.getElem?_eq_some_iff.1 h2).1
        simp at this; omega
      rw [e0] at h2
      simp at h2
      subst h2
      rw [if_pos (by omega)] at h1
      have hx : ∃ x', l[i]? = some x' := ⟨l[i]'(by omega), List.getElem?_eq_getElem _⟩
      obtain ⟨x', hx'⟩ := hx
      have := (hrs i r1 x' h1 hx').2.2.2.2 g e1
      have := hnew g e2
      omega
end
end Go.Proofs.Ytnbakpdphfdacaa
