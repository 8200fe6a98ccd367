/- What slices of records read as, and what keeps a reading: plain lemmas on worlds, no program in sight. -/
import Derived.WalkKit
import Derived.WalkSpells
import Derived.WalkSmall
import Derived.OneCell
import Derived.Lib.Hide
import Derived.Lib.QuietBelow
import Derived.RegionTactic
import Derived.OwnWalk
namespace Go.Proofs.Ytjcbhnbbhcfbiaa
open Go.RowKit

structure Upd where
  key : Int
  value : Int
structure Stp where
  reads : Bool
  key : Int
  value : Int
structure Cll where
  client : Int
  number : Int
  what : Upd

def Upd.enc (u : Upd) : List Value := [.int .i64 u.key, .int .i64 u.value]
def Stp.enc (s : Stp) : List Value := [.bool s.reads, .int .i64 s.key, .int .i64 s.value]
def Cll.enc (x : Cll) : List Value := [.int .i64 x.client, .int .i64 x.number, .int .i64 x.what.key, .int .i64 x.what.value]
def encInt (x : Int) : List Value := [.int .i64 x]

theorem ret_bool {a b : Bool} (h : a = b) : Ending.returned (.bool a) = .returned (.bool b) := by rw [h]
theorem ret_int {k : IntKind} {a b : Int} (h : a = b) : Ending.returned (.int k a) = .returned (.int k b) := by rw [h]

/-- The slice 'A n c' reads as the list l, element i in the cells from i * sz on, in blocks from lo on and below hi. -/
def Flat {α : Type} (enc : α → List Value) (sz : Nat) (w : World) (lo hi : Nat) (A : Option Addr) (n c : Nat) (l : List α) : Prop :=
  l.length = n ∧ n ≤ c ∧ c ≤ maxLen ∧ (0 < n → ∃ b off, A = some ⟨b, off, none⟩ ∧ lo ≤ b ∧ b < hi ∧
    ∀ i x, l[i]? = some x → ∀ j u, (enc x)[j]? = some u → w.cell? ⟨b, off + i * sz + j, none⟩ = some u)

section
variable {α : Type} {enc : α → List Value} {sz : Nat} {w w' : World} {lo hi n c : Nat} {A : Option Addr} {l : List α}
theorem Flat.len (h : Flat enc sz w lo hi A n c l) : l.length = n := h.1
theorem Flat.keep (h : Flat enc sz w lo hi A n c l) (hk : ∀ k, lo ≤ k → k < hi → w'.heap[k]? = w.heap[k]?) : Flat enc sz w' lo hi A n c l := by
  obtain ⟨h1, h2, h3, h4⟩ := h
  refine ⟨h1, h2, h3, fun hn => ?_⟩
  obtain ⟨b, off, e, hb1, hb2, hc⟩ := h4 hn
  exact ⟨b, off, e, hb1, hb2, fun i x hx j u hu => (World.cell?_of_block (w := w) (hk b hb1 hb2)).trans (hc i x hx j u hu)⟩
theorem Flat.below {B : Nat} (h : Flat enc sz w lo hi A n c l) (hb : Below B w w') (hB : hi ≤ B) : Flat enc sz w' lo hi A n c l :=
  h.keep fun k _ hk => hb.block k (by omega)
theorem Flat.grown {row : Option Nat} (h : Flat enc sz w lo hi A n c l) (hg : w.grownBy w' row) (hhi : hi ≤ w.heap.size) (hr : ∀ g, row = some g → g < lo ∨ hi ≤ g) : Flat enc sz w' lo hi A n c l :=
  h.keep fun k h1 h2 => hg.block k (by omega) (fun e => by have := hr k e.symm; omega)
theorem Flat.mono {lo' hi' : Nat} (h : Flat enc sz w lo hi A n c l) (h1 : lo' ≤ lo) (h2 : hi ≤ hi') : Flat enc sz w lo' hi' A n c l := by
  obtain ⟨a1, a2, a3, a4⟩ := h
  refine ⟨a1, a2, a3, fun hn => ?_⟩
  obtain ⟨b, off, e, hb1, hb2, hc⟩ := a4 hn
  exact ⟨b, off, e, by omega, by omega, hc⟩
theorem Flat.at_ (h : Flat enc sz w lo hi A n c l) {k : Nat} (hk : k < n) :
    ∃ b off x, A = some ⟨b, off, none⟩ ∧ lo ≤ b ∧ b < hi ∧ l[k]? = some x ∧ ∀ j u, (enc x)[j]? = some u → w.cell? ⟨b, off + k * sz + j, none⟩ = some u := by
  obtain ⟨h1, _, _, h4⟩ := h
  obtain ⟨b, off, e, hb1, hb2, hc⟩ := h4 (by omega)
  exact ⟨b, off, l[k]'(by omega), e, hb1, hb2, List.getElem?_eq_getElem (by omega), hc k _ (List.getElem?_eq_getElem (by omega))⟩
theorem Flat.nil_ (enc : α → List Value) (sz : Nat) (w : World) (lo hi : Nat) : Flat enc sz w lo hi none 0 0 [] := ⟨rfl, Nat.le_refl _, Nat.zero_le _, fun h => absurd h (by omega)⟩
/-- the first k -/
theorem Flat.take_ (h : Flat enc sz w lo hi A n c l) {k : Nat} (hk : k ≤ n) : Flat enc sz w lo hi A k c (l.take k) := by
  obtain ⟨h1, h2, h3, h4⟩ := h
  refine ⟨by rw [List.length_take]; omega, by omega, h3, fun hn => ?_⟩
  obtain ⟨b, off, e, hb1, hb2, hc⟩ := h4 (by omega)
  refine ⟨b, off, e, hb1, hb2, fun i x hx j u hu => hc i x ?_ j u hu⟩
  rw [List.getElem?_take] at hx
  split at hx
  · exact hx
  · cases hx
/-- all from k on, as the walk leaves it -/
theorem Flat.drop_ (h : Flat enc sz w lo hi A n c l) {k : Nat} (hk : k ≤ n) : Flat enc sz w lo hi (if c = k then A else A.map (·.add (k * sz))) (n - k) (c - k) (l.drop k) := by
  obtain ⟨h1, h2, h3, h4⟩ := h
  refine ⟨by rw [List.length_drop]; omega, by omega, by omega, fun hn => ?_⟩
  obtain ⟨b, off, rfl, hb1, hb2, hc⟩ := h4 (by omega)
  rw [if_neg (by omega)]
  refine ⟨b, off + k * sz, ?_, hb1, hb2, fun i x hx j u hu => ?_⟩
  · simp only [Option.map_some, Addr.add]
    split
    · rename_i h0; rw [h0]; rfl
    · rfl
  · rw [List.getElem?_drop] at hx
    have := hc (k + i) x hx j u hu
    rwa [show off + (k + i) * sz + j = off + k * sz + i * sz + j from by rw [Nat.add_mul]; omega] at this
end

/-! ### Rows that the call itself made -/
theorem flatMap_get {α : Type} {enc : α → List Value} {sz : Nat} (hs : ∀ x, (enc x).length = sz) : ∀ (l : List α) (i : Nat) (x : α), l[i]? = some x → ∀ j u, (enc x)[j]? = some u → (l.flatMap enc)[i * sz + j]? = some u := by
  intro l
  induction l with
  | nil => intro i x hx; simp at hx
  | cons y l ih =>
    intro i x hx j u hu
    have hj : j < sz := by
      have := (List.getElem?_eq_some_iff.1 hu).1
      rw [hs x] at this; exact this
    cases i with
    | zero =>
      simp only [List.getElem?_cons_zero, Option.some.injEq] at hx
      subst hx
      rw [List.flatMap_cons, List.getElem?_append_left (by rw [hs]; omega)]
      simpa using hu
    | succ i =>
      simp only [List.getElem?_cons_succ] at hx
      rw [List.flatMap_cons, List.getElem?_append_right (by rw [hs, Nat.succ_mul]; omega)]
      have e : (i + 1) * sz + j - (enc y).length = i * sz + j := by rw [hs, Nat.succ_mul]; omega
      rw [e]
      exact ih i x hx j u hu

theorem length_flatMap {α : Type} {enc : α → List Value} {sz : Nat} (hs : ∀ x, (enc x).length = sz) (l : List α) : (l.flatMap enc).length = l.length * sz := by
  induction l with
  | nil => simp
  | cons y l ih => rw [List.flatMap_cons, List.length_append, ih, hs, List.length_cons, Nat.succ_mul]; omega

/-- what is owned reads as the list -/
theorem own_flat {α : Type} {enc : α → List Value} {sz : Nat} (hs : ∀ x, (enc x).length = sz) {w : World} {lo : Nat} {e : TypeId} {v : Value} {n : Nat} {l : List α}
    (h : w.ownsRow lo e sz v n (l.flatMap enc)) (hn : l.length = n) : ∃ A c, v = .slice A n c ∧ Flat enc sz w lo w.heap.size A n c l := by
  rcases h.2 with ⟨rfl, rfl⟩ | ⟨g, cap, cur, rfl, hb, hg, hnc, hcm, hcs, htake⟩
  · exact ⟨none, 0, rfl, by rw [List.eq_nil_of_length_eq_zero hn]; exact Flat.nil_ enc sz w lo _⟩
  · refine ⟨_, _, rfl, hn, hnc, hcm, fun _ => ⟨g, 0, rfl, hb, lt_of_block hg, fun i x hx j u hu => ?_⟩⟩
    have hj : j < sz := by
      have := (List.getElem?_eq_some_iff.1 hu).1
      rw [hs x] at this; exact this
    have hi : i < n := by
      have := (List.getElem?_eq_some_iff.1 hx).1
      omega
    have hlt : i * sz + j < n * sz := by
      have : (i + 1) * sz ≤ n * sz := Nat.mul_le_mul_right _ hi
      rw [Nat.succ_mul] at this; omega
    have h1 := flatMap_get hs l i x hx j u hu
    rw [Nat.zero_add, h.cellAt (i * sz + j) hlt, h1]


theorem own_flat' {α : Type} {enc : α → List Value} {sz : Nat} (hs : ∀ x, (enc x).length = sz) {w : World} {lo : Nat} {e : TypeId} {A : Option Addr} {c n : Nat} {l : List α}
    (h : w.ownsRow lo e sz (.slice A n c) n (l.flatMap enc)) (hn : l.length = n) : Flat enc sz w lo w.heap.size A n c l := by
  obtain ⟨A', c', e', hf⟩ := own_flat hs h hn
  injection e' with e1 e2 e3
  subst e1; subst e3; exact hf

/-! ### A row that is made whole and filled element by element -/
theorem make_rows {P : Program} (t e : TypeId) (i : TypeInfo) (z : Value) (ht : P.underlying t = some (.slice e)) (hi : P.info? e = some i) (hz : i.zero = some z)
    (n : Nat) (hb : i.bytes * n ≤ 281474976710656) (hn : n ≤ 9223372036854775807) (w : World) :
    (Instr.makeSlice t (.int .i64 (n : Int)) (.int .i64 (n : Int))).run P w = .ok (.slice (some ⟨w.heap.size, 0, none⟩) n n) (w.alloc (.cells (madeCells z.cells (n * i.size)) e)) := by
  have hb' : (i.bytes : Int) * (n : Int) ≤ 281474976710656 := by
    have h : ((i.bytes * n : Nat) : Int) ≤ 281474976710656 := by omega
    rwa [Int.natCast_mul] at h
  have hr := run_make (P := P) w t e i z ht hi hz .i64 .i64 n n (by omega) (by omega) hb' (by omega)
  simp only [Int.toNat_natCast] at hr
  exact hr

def putRow (cs : Array Value) (o : Nat) : List Value → Array Value
  | [] => cs
  | u :: us => putRow (cs.setIfInBounds o u) (o + 1) us
theorem size_putRow (us : List Value) : ∀ (cs : Array Value) (o : Nat), (putRow cs o us).size = cs.size := by
  induction us with
  | nil => intro cs o; rfl
  | cons u us ih => intro cs o; rw [putRow, ih]; simp
theorem putRow_out (us : List Value) : ∀ (cs : Array Value) (o m : Nat), m < o ∨ o + us.length ≤ m → (putRow cs o us)[m]? = cs[m]? := by
  induction us with
  | nil => intro cs o m _; rfl
  | cons u us ih =>
    intro cs o m h
    rw [List.length_cons] at h
    rw [putRow, ih _ _ _ (by omega), Array.getElem?_setIfInBounds_ne (by omega)]
theorem putRow_in (us : List Value) : ∀ (cs : Array Value) (o j : Nat), o + us.length ≤ cs.size → j < us.length → (putRow cs o us)[o + j]? = us[j]? := by
  induction us with
  | nil => intro cs o j _ h; simp at h
  | cons u us ih =>
    intro cs o j h hj
    rw [List.length_cons] at h hj
    rw [putRow]
    cases j with
    | zero =>
      show (putRow (cs.setIfInBounds o u) (o + 1) us)[o]? = some u
      rw [putRow_out us _ (o + 1) o (by omega)]
      have : o < cs.size := by omega
      simp [this]
    | succ j =>
      have := ih (cs.setIfInBounds o u) (o + 1) j (by simp; omega) (by omega)
      rw [show o + (j + 1) = o + 1 + j from by omega, this]; simp

theorem heap_setCell_at {w : World} {g i : Nat} {cs : Array Value} {t : TypeId} {fr : Nat × Nat} (h : w.heap[g]? = some (.cells cs t fr)) (u : Value) :
    (w.setCell ⟨g, i, none⟩ u).heap[g]? = some (.cells (cs.setIfInBounds i u) t fr) := by
  simp [World.setCell, Array.getElem?_modify, h]


theorem row_cell {w : World} {g i : Nat} {cs : Array Value} {e : TypeId} {fr : Nat × Nat} (h : w.heap[g]? = some (.cells cs e fr)) (hi : i < cs.size) : ∃ v, w.cell? ⟨g, i, none⟩ = some v :=
  ⟨cs[i], by simp [World.cell?, h, hi]⟩
theorem row_free {w : World} {g : Nat} {cs : Array Value} {e : TypeId} (h : w.heap[g]? = some (.cells cs e (0, 0))) (i : Nat) : w.frozen? ⟨g, i, none⟩ = false := by simp [World.frozen?, h]

/-- the first k elements are laid -/
def Filled {α : Type} (enc : α → List Value) (sz : Nat) (cs : Array Value) (l : List α) (k : Nat) : Prop :=
  cs.size = l.length * sz ∧ ∀ i x, i < k → l[i]? = some x → ∀ j u, (enc x)[j]? = some u → cs[i * sz + j]? = some u
theorem Filled.zero {α : Type} {enc : α → List Value} {sz : Nat} {cs : Array Value} {l : List α} (h : cs.size = l.length * sz) : Filled enc sz cs l 0 := ⟨h, fun _ _ h => absurd h (by omega)⟩
theorem Filled.step {α : Type} {enc : α → List Value} {sz : Nat} {cs : Array Value} {l : List α} {k : Nat} {x : α} (hs : ∀ x, (enc x).length = sz) (h : Filled enc sz cs l k) (hx : l[k]? = some x) :
    Filled enc sz (putRow cs (k * sz) (enc x)) l (k + 1) := by
  have hk := (List.getElem?_eq_some_iff.1 hx).1
  have hroom : k * sz + sz ≤ l.length * sz := by
    have : (k + 1) * sz ≤ l.length * sz := Nat.mul_le_mul_right _ hk
    rw [Nat.succ_mul] at this; exact this
  refine ⟨by rw [size_putRow]; exact h.1, fun i y hi hy j u hu => ?_⟩
  have hj : j < sz := by
    have := (List.getElem?_eq_some_iff.1 hu).1
    rw [hs y] at this; exact this
  by_cases hik : i = k
  · subst hik
    rw [hx] at hy; injection hy with hy; subst hy
    rw [putRow_in _ _ _ _ (by rw [hs, h.1]; exact hroom) (by rw [hs]; exact hj), hu]
  · have hlt : i * sz + j < k * sz := by
      have : (i + 1) * sz ≤ k * sz := Nat.mul_le_mul_right _ (by omega)
      rw [Nat.succ_mul] at this; omega
    rw [putRow_out _ _ _ _ (.inl hlt)]
    exact h.2 i y (by omega) hy j u hu
theorem Filled.list {α : Type} {enc : α → List Value} {sz : Nat} {cs : Array Value} {l : List α} (hs : ∀ x, (enc x).length = sz) (hsz : 0 < sz) (h : Filled enc sz cs l l.length) : cs.toList = l.flatMap enc := by
  apply List.ext_getElem?
  intro m
  by_cases hm : m < l.length * sz
  · have hi : m / sz < l.length := Nat.div_lt_of_lt_mul (by rw [Nat.mul_comm]; exact hm)
    have hj : m % sz < sz := Nat.mod_lt _ hsz
    have e : m = m / sz * sz + m % sz := by have := Nat.div_add_mod m sz; rw [Nat.mul_comm] at this; omega
    have hu : (enc (l[m / sz]))[m % sz]? = some ((enc (l[m / sz]))[m % sz]'(by rw [hs]; exact hj)) := List.getElem?_eq_getElem _
    have h1 := h.2 (m / sz) _ hi (List.getElem?_eq_getElem hi) (m % sz) _ hu
    have h2 := flatMap_get hs l (m / sz) _ (List.getElem?_eq_getElem hi) (m % sz) _ hu
    rw [← e] at h1 h2
    rw [h2, Array.getElem?_toList, h1]
  · rw [List.getElem?_eq_none (by rw [Array.length_toList, h.1]; omega), List.getElem?_eq_none (by rw [length_flatMap hs]; omega)]
theorem Filled.own {α : Type} {enc : α → List Value} {sz : Nat} {cs : Array Value} {l : List α} (hs : ∀ x, (enc x).length = sz) (hsz : 0 < sz) {w : World} {lo g n : Nat} {e : TypeId} (h : Filled enc sz cs l n) (hn : l.length = n)
    (hg : w.heap[g]? = some (.cells cs e (0, 0))) (hlo : lo ≤ g) (hm : n ≤ maxLen) : w.ownsRow lo e sz (.slice (some ⟨g, 0, none⟩) n n) n (l.flatMap enc) := by
  subst hn
  refine ⟨length_flatMap hs l, .inr ⟨g, _, cs, rfl, hlo, hg, Nat.le_refl _, hm, h.1, ?_⟩⟩
  rw [← h.1, ← Array.length_toList, List.take_length, Filled.list hs hsz h]


/-- one cell of one element is written -/
theorem flatMap_set {α : Type} {enc : α → List Value} {sz : Nat} (hs : ∀ x, (enc x).length = sz) {x x' : α} {j : Nat} {u : Value} (he : enc x' = (enc x).set j u) (hj : j < sz) :
    ∀ (l : List α) (i : Nat), l[i]? = some x → (l.flatMap enc).set (i * sz + j) u = (l.set i x').flatMap enc := by
  intro l
  induction l with
  | nil => intro i h; simp at h
  | cons y l ih =>
    intro i h
    cases i with
    | zero =>
      simp only [List.getElem?_cons_zero, Option.some.injEq] at h
      subst h
      rw [List.flatMap_cons, List.set_cons_zero, List.flatMap_cons, he, List.set_append_left _ _ (by rw [hs]; omega)]
      simp
    | succ i =>
      simp only [List.getElem?_cons_succ] at h
      rw [List.flatMap_cons, List.set_cons_succ, List.flatMap_cons, ← ih i h, List.set_append_right _ _ (by rw [hs, Nat.succ_mul]; omega)]
      congr 2
      rw [hs, Nat.succ_mul]; omega


theorem own_form {w : World} {lo sz n : Nat} {e : TypeId} {v : Value} {xs : List Value} (h : w.ownsRow lo e sz v n xs) (hn : 0 < n) : ∃ g cap, v = .slice (some ⟨g, 0, none⟩) n cap ∧ lo ≤ g ∧ g < w.heap.size ∧ n ≤ cap := by
  rcases h.2 with ⟨_, h0⟩ | ⟨g, cap, cur, rfl, hb, hg, hc, _⟩
  · omega
  · exact ⟨g, cap, rfl, hb, lt_of_block hg, hc⟩

theorem new_cells (w : World) (cs : Array Value) (t : TypeId) (l : List Value) (h : cs.toList = l) : ∀ j u, l[j]? = some u → (w.alloc (.cells cs t)).cell? ((⟨w.heap.size, 0, none⟩ : Addr).add j) = some u := by
  intro j u hu
  have e : (⟨w.heap.size, 0, none⟩ : Addr).add j = ⟨w.heap.size, j, none⟩ := by unfold Addr.add; split <;> simp_all
  rw [e, World.cell?_alloc_at _ _ _ _ rfl, ← Array.getElem?_toList, h, hu]

theorem one_enc {α : Type} {enc : α → List Value} (h : ∀ x, ∀ u ∈ enc x, u.oneCell' = true) (l : List α) : ∀ u ∈ l.flatMap enc, u.oneCell' = true := by
  intro u hu
  obtain ⟨x, _, hx⟩ := List.mem_flatMap.1 hu
  exact h x u hx

theorem Upd.len (u : Upd) : u.enc.length = 2 := rfl
theorem Stp.len (u : Stp) : u.enc.length = 3 := rfl
theorem Cll.len (u : Cll) : u.enc.length = 4 := rfl
theorem encInt_len (u : Int) : (encInt u).length = 1 := rfl
theorem Upd.one (x : Upd) : ∀ u ∈ x.enc, u.oneCell' = true := by intro u hu; simp [Upd.enc] at hu; rcases hu with rfl | rfl <;> rfl
theorem Stp.one (x : Stp) : ∀ u ∈ x.enc, u.oneCell' = true := by intro u hu; simp [Stp.enc] at hu; rcases hu with rfl | rfl | rfl <;> rfl
theorem Cll.one (x : Cll) : ∀ u ∈ x.enc, u.oneCell' = true := by intro u hu; simp [Cll.enc] at hu; rcases hu with rfl | rfl | rfl | rfl <;> rfl
theorem encInt_one (x : Int) : ∀ u ∈ encInt x, u.oneCell' = true := by intro u hu; simp [encInt] at hu; subst hu; rfl


/-! ### append: the source read as a list, nil and empty ones too -/
def Src (w : World) (sz : Nat) (A : Option Addr) (m : Nat) (news : List Value) : Prop :=
  news.length = m * sz ∧ (A = none → m = 0) ∧ ∀ ad, A = some ad → ∀ j u, news[j]? = some u → w.cell? (ad.add j) = some u

theorem flat_src {α : Type} {enc : α → List Value} {sz : Nat} (hs : ∀ x, (enc x).length = sz) (hsz : 0 < sz) {w : World} {lo hi n c : Nat} {A : Option Addr} {l : List α} (h : Flat enc sz w lo hi A n c l) : Src w sz A n (l.flatMap enc) := by
  obtain ⟨h1, _, _, h4⟩ := h
  refine ⟨by rw [length_flatMap hs, h1], fun e => ?_, fun ad e j u hu => ?_⟩
  · rcases Nat.eq_zero_or_pos n with h0 | h0
    · exact h0
    · obtain ⟨b, off, e', _⟩ := h4 h0
      rw [e] at e'; cases e'
  · have hj := (List.getElem?_eq_some_iff.1 hu).1
    rw [length_flatMap hs] at hj
    have hi : j / sz < l.length := Nat.div_lt_of_lt_mul (by rw [Nat.mul_comm]; exact hj)
    have hm : j % sz < sz := Nat.mod_lt _ hsz
    have ej : j = j / sz * sz + j % sz := by have := Nat.div_add_mod j sz; rw [Nat.mul_comm] at this; omega
    obtain ⟨b, off, e', _, _, hc⟩ := h4 (by rw [← h1]; exact Nat.lt_of_le_of_lt (Nat.zero_le _) hi)
    rw [e] at e'; injection e' with e'; subst e'
    have hx := List.getElem?_eq_getElem hi
    have hv : (enc (l[j / sz]))[j % sz]? = some ((enc (l[j / sz]))[j % sz]'(by rw [hs]; exact hm)) := List.getElem?_eq_getElem _
    have h2 := flatMap_get hs l _ _ hx _ _ hv
    rw [← ej, hu] at h2
    injection h2 with h2
    have := hc _ _ hx _ _ hv
    rw [← h2] at this
    have ea : (⟨b, off, none⟩ : Addr).add j = ⟨b, off + j, none⟩ := by
      unfold Addr.add
      split
      · rename_i h0; rw [h0]; rfl
      · rfl
    rw [ea, ← this, show off + j = off + j / sz * sz + j % sz from by omega]

section
variable {P : Program} (w : World)
theorem run_append_src (base : Nat) (t ty e : TypeId) (i : TypeInfo) (z : Value) (size bytes : Nat) (ht : P.underlying t = some (.slice e)) (hi : P.info? e = some i) (hz : i.zero = some z)
    (hsize : i.size = size) (hby : i.bytes = bytes) (hzs : z.cells.size = size) (hsz : 0 < size)
    (v : Value) (n : Nat) (xs : List Value) (hown : w.ownsRow base e size v n xs) (A : Option Addr) (m c : Nat) (news : List Value) (hr : Src w size A m news) (h1 : ∀ u ∈ news, u.oneCell' = true)
    (h63 : n + m ≤ maxLen) (hbytes : (n + m) * bytes ≤ 140737488355328) (hbase : base ≤ w.heap.size) :
    ∃ v' w', (Builtin.append_ #[t, t] ty #[v, .slice A m c]).run P w = .ok v' w' ∧ w'.ownsRow base e size v' (n + m) (xs ++ news) ∧ w.grownBy w' v.ownBlock := by
  obtain ⟨hl, hn, hc⟩ := hr
  rcases A with _ | ad
  · obtain rfl := hn rfl
    have hnil : news = [] := List.eq_nil_of_length_eq_zero (by simpa using hl)
    subst hnil
    refine ⟨v, w, ?_, by simpa using hown, ⟨rfl, rfl, rfl, Nat.le_refl _, fun _ _ _ => rfl⟩⟩
    rcases hown.2 with ⟨rfl, rfl⟩ | ⟨g, cap, cur, rfl, _, _, hnc, _⟩
    · simp [Builtin.append_, run_underlying ht, sizeOf, typeInfo, hi, Builtin.lenOf, Builtin.firstCells]
    · simp [Builtin.append_, run_underlying ht, sizeOf, typeInfo, hi, Builtin.lenOf, Builtin.firstCells, hnc, storeCells]
  · obtain ⟨v', w', hr, h2, h3, _⟩ := run_append_own (P := P) w base t ty e i z size bytes ht hi hz hsize hby hzs hsz v n xs hown ad m c news hl (hc ad rfl) h1 h63 hbytes hbase
    exact ⟨v', w', hr, h2, h3⟩

theorem wp_append_src {o : Oper} {a : Act} {K : Act → World → Prop} {Q : Exit → Act → World → Prop} (s x : Operand) (t : TypeId)
    (ho : o.op = .call { callee := .builtin .append, args := #[s, x], argTypes := #[t, t] })
    (base : Nat) (e : TypeId) (i : TypeInfo) (z : Value) (size bytes : Nat) (ht : P.underlying t = some (.slice e)) (hi : P.info? e = some i) (hz : i.zero = some z)
    (hsize : i.size = size) (hby : i.bytes = bytes) (hzs : z.cells.size = size) (hsz : 0 < size)
    (v : Value) (n : Nat) (xs : List Value) (hs : a.eval s = v) (hown : w.ownsRow base e size v n xs) (A : Option Addr) (m c : Nat) (news : List Value) (hx : a.eval x = .slice A m c) (hr : Src w size A m news) (h1 : ∀ u ∈ news, u.oneCell' = true)
    (h63 : n + m ≤ maxLen) (hbytes : (n + m) * bytes ≤ 140737488355328) (hbase : base ≤ w.heap.size)
    (h : ∀ v' w', w'.ownsRow base e size v' (n + m) (xs ++ news) → w.grownBy w' v.ownBlock → K (a.put o.dst v') w') : o.wp P a w K Q := by
  obtain ⟨v', w', hrun, h2, h3⟩ := run_append_src (P := P) w base t o.type e i z size bytes ht hi hz hsize hby hzs hsz v n xs hown A m c news hr h1 h63 hbytes hbase
  unfold Oper.wp execOp
  simp only [ho, resolve, invoke, builtin, Sem.run_bind, Sem.run_pure, Result.andThen_ok, List.map_toArray, List.map_cons, List.map_nil, hs, hx, hrun]
  exact h v' w' h2 h3

theorem wpList_append_src {ops : Array Oper} {rest : List Oper} {o : Oper} {a : Act} {Q : Exit → Act → World → Prop} (hgd : o.guard = none) (s x : Operand) (t : TypeId)
    (ho : o.op = .call { callee := .builtin .append, args := #[s, x], argTypes := #[t, t] })
    (base : Nat) (e : TypeId) (i : TypeInfo) (z : Value) (size bytes : Nat) (ht : P.underlying t = some (.slice e)) (hi : P.info? e = some i) (hz : i.zero = some z)
    (hsize : i.size = size) (hby : i.bytes = bytes) (hzs : z.cells.size = size) (hsz : 0 < size)
    (v : Value) (n : Nat) (xs : List Value) (hs : a.eval s = v) (hown : w.ownsRow base e size v n xs) (A : Option Addr) (m c : Nat) (news : List Value) (hx : a.eval x = .slice A m c) (hr : Src w size A m news) (h1 : ∀ u ∈ news, u.oneCell' = true)
    (h63 : n + m ≤ maxLen) (hbytes : (n + m) * bytes ≤ 140737488355328) (hbase : base ≤ w.heap.size)
    (h : ∀ v' w', w'.ownsRow base e size v' (n + m) (xs ++ news) → w.grownBy w' v.ownBlock → wpList P ops Q rest (a.put o.dst v') w') : wpList P ops Q (o :: rest) a w :=
  wpList_plain hgd fun _ hK => wp_append_src w s x t ho base e i z size bytes ht hi hz hsize hby hzs hsz v n xs hs hown A m c news hx hr h1 h63 hbytes hbase fun v' w' h2 h3 => hK _ _ (h v' w' h2 h3)

theorem step_append_src {ops : Array Oper} {o : Oper} {a : Act} {K : Act → World → Prop} {Q : Exit → Act → World → Prop} {E : Prop} (hgd : o.guard = none) (s x : Operand) (t : TypeId)
    (ho : o.op = .call { callee := .builtin .append, args := #[s, x], argTypes := #[t, t] })
    (base : Nat) (e : TypeId) (i : TypeInfo) (z : Value) (size bytes : Nat) (ht : P.underlying t = some (.slice e)) (hi : P.info? e = some i) (hz : i.zero = some z)
    (hsize : i.size = size) (hby : i.bytes = bytes) (hzs : z.cells.size = size) (hsz : 0 < size)
    (v : Value) (n : Nat) (xs : List Value) (hs : a.eval s = v) (hown : w.ownsRow base e size v n xs) (A : Option Addr) (m c : Nat) (news : List Value) (hx : a.eval x = .slice A m c) (hr : Src w size A m news) (h1 : ∀ u ∈ news, u.oneCell' = true)
    (h63 : n + m ≤ maxLen) (hbytes : (n + m) * bytes ≤ 140737488355328) (hbase : base ≤ w.heap.size)
    (h : ∀ v' w', w'.ownsRow base e size v' (n + m) (xs ++ news) → w.grownBy w' v.ownBlock → K (a.put o.dst v') w') :
    if Region.wanted o (yielded ops a.tmps) = true then Oper.wp P o a w K Q else E := by
  have hw : Region.wanted o (yielded ops a.tmps) = true := by simp [Region.wanted, hgd]
  rw [if_pos hw]
  exact wp_append_src w s x t ho base e i z size bytes ht hi hz hsize hby hzs hsz v n xs hs hown A m c news hx hr h1 h63 hbytes hbase h
end

/-! ### The cells of one element -/
theorem Flat.upd {w : World} {lo hi n c k : Nat} {A : Option Addr} {l : List Upd} (h : Flat Upd.enc 2 w lo hi A n c l) (hk : k < n) :
    ∃ b off x, A = some ⟨b, off, none⟩ ∧ lo ≤ b ∧ b < hi ∧ l[k]? = some x ∧ w.cell? ⟨b, off + k * 2, none⟩ = some (.int .i64 x.key) ∧ w.cell? ⟨b, off + k * 2 + 1, none⟩ = some (.int .i64 x.value) := by
  obtain ⟨b, off, x, e, h1, h2, hx, hc⟩ := h.at_ hk
  exact ⟨b, off, x, e, h1, h2, hx, hc 0 _ rfl, hc 1 _ rfl⟩
theorem Flat.stp {w : World} {lo hi n c k : Nat} {A : Option Addr} {l : List Stp} (h : Flat Stp.enc 3 w lo hi A n c l) (hk : k < n) :
    ∃ b off x, A = some ⟨b, off, none⟩ ∧ lo ≤ b ∧ b < hi ∧ l[k]? = some x ∧ w.cell? ⟨b, off + k * 3, none⟩ = some (.bool x.reads) ∧ w.cell? ⟨b, off + k * 3 + 1, none⟩ = some (.int .i64 x.key) ∧ w.cell? ⟨b, off + k * 3 + 2, none⟩ = some (.int .i64 x.value) := by
  obtain ⟨b, off, x, e, h1, h2, hx, hc⟩ := h.at_ hk
  exact ⟨b, off, x, e, h1, h2, hx, hc 0 _ rfl, hc 1 _ rfl, hc 2 _ rfl⟩
theorem Flat.cll {w : World} {lo hi n c k : Nat} {A : Option Addr} {l : List Cll} (h : Flat Cll.enc 4 w lo hi A n c l) (hk : k < n) :
    ∃ b off x, A = some ⟨b, off, none⟩ ∧ lo ≤ b ∧ b < hi ∧ l[k]? = some x ∧ w.cell? ⟨b, off + k * 4, none⟩ = some (.int .i64 x.client) ∧ w.cell? ⟨b, off + k * 4 + 1, none⟩ = some (.int .i64 x.number) ∧
      w.cell? ⟨b, off + k * 4 + 2, none⟩ = some (.int .i64 x.what.key) ∧ w.cell? ⟨b, off + k * 4 + 3, none⟩ = some (.int .i64 x.what.value) := by
  obtain ⟨b, off, x, e, h1, h2, hx, hc⟩ := h.at_ hk
  exact ⟨b, off, x, e, h1, h2, hx, hc 0 _ rfl, hc 1 _ rfl, hc 2 _ rfl, hc 3 _ rfl⟩
theorem Flat.int_ {w : World} {lo hi n c k : Nat} {A : Option Addr} {l : List Int} (h : Flat encInt 1 w lo hi A n c l) (hk : k < n) :
    ∃ b off x, A = some ⟨b, off, none⟩ ∧ lo ≤ b ∧ b < hi ∧ l[k]? = some x ∧ w.cell? ⟨b, off + k, none⟩ = some (.int .i64 x) := by
  obtain ⟨b, off, x, e, h1, h2, hx, hc⟩ := h.at_ hk
  exact ⟨b, off, x, e, h1, h2, hx, by have := hc 0 _ rfl; rwa [Nat.mul_one] at this⟩

theorem below_of_regrown {w w' : World} (h : ∃ p : Regrown, w' = Sort.grow (redrawn w p.d) p.os) : Below w.heap.size w w' := by obtain ⟨p, rfl⟩ := h; exact below_regrown w p.d p.os
theorem below_to {w w' : World} {B : Nat} (h : Below w.heap.size w w') (hB : B ≤ w.heap.size) : Below B w w' := h.mono hB
end Go.Proofs.Ytjcbhnbbhcfbiaa
