/- Texts of this claim, joined: Mem Leaf Rd RunM Nod Copy Log NodeA RunN Blk Row DrawU RowSet Chn State NodeB NodeC NodeD NodeE. -/
import Derived.WalkKit
import Derived.WalkSpells
import Derived.WalkSmall
import Derived.OneCell
import Derived.Lib.Hide
import Derived.Lib.QuietBelow
import Derived.RegionTactic
import Derived.OwnWalk
import Derived.Handy
import Derived.BigQuiet
import Derived.Deep.DeepFit
import Derived.Laws.BitsAllLaws
import Derived.Laws.BitsLemmas
import Derived.Laws.CopyOwn
import Derived.Deep.RegionHeld3
import Derived.Deep.Onto
import Derived.Test.YtemgilofjbnoaaaGreatDoorWA4
import Derived.Test.YtemgilofjbnoaaaGreatDoorWA3
namespace Go.Proofs.YtemgilofjbnoaaaGreatDoor
open Go.RowKit
structure Upd where
  key : Int
  value : Int
structure Stp where
  reads : Bool
  key : Int
  value : Int
structure Cll where
  client : Int
  number : Int
  what : Upd
def Upd.enc (u : Upd) : List Value := [.int .i64 u.key, .int .i64 u.value]
def Stp.enc (s : Stp) : List Value := [.bool s.reads, .int .i64 s.key, .int .i64 s.value]
def Cll.enc (x : Cll) : List Value := [.int .i64 x.client, .int .i64 x.number, .int .i64 x.what.key, .int .i64 x.what.value]
def encInt (x : Int) : List Value := [.int .i64 x]
theorem ret_bool {a b : Bool} (h : a = b) : Ending.returned (.bool a) = .returned (.bool b) := by rw [h]
theorem ret_int {k : IntKind} {a b : Int} (h : a = b) : Ending.returned (.int k a) = .returned (.int k b) := by rw [h]
def Flat {α : Type} (enc : α → List Value) (sz : Nat) (w : World) (lo hi : Nat) (A : Option Addr) (n c : Nat) (l : List α) : Prop :=
  l.length = n ∧ n ≤ c ∧ c ≤ maxLen ∧ (0 < n → ∃ b off, A = some ⟨b, off, none⟩ ∧ lo ≤ b ∧ b < hi ∧
    ∀ i x, l[i]? = some x → ∀ j u, (enc x)[j]? = some u → w.cell? ⟨b, off + i * sz + j, none⟩ = some u)
section
variable {α : Type} {enc : α → List Value} {sz : Nat} {w w' : World} {lo hi n c : Nat} {A : Option Addr} {l : List α}
theorem Flat.len (h : Flat enc sz w lo hi A n c l) : l.length = n := h.1
theorem Flat.keep (h : Flat enc sz w lo hi A n c l) (hk : ∀ k, lo ≤ k → k < hi → w'.heap[k]? = w.heap[k]?) : Flat enc sz w' lo hi A n c l := by
  obtain ⟨h1, h2, h3, h4⟩ := h
  refine ⟨h1, h2, h3, fun hn => ?_⟩
  obtain ⟨b, off, e, hb1, hb2, hc⟩ := h4 hn
  exact ⟨b, off, e, hb1, hb2, fun i x hx j u hu => (World.cell?_of_block (w := w) (hk b hb1 hb2)).trans (hc i x hx j u hu)⟩
theorem Flat.below {B : Nat} (h : Flat enc sz w lo hi A n c l) (hb : Below B w w') (hB : hi ≤ B) : Flat enc sz w' lo hi A n c l :=
  h.keep fun k _ hk => hb.block k (by omega)
theorem Flat.grown {row : Option Nat} (h : Flat enc sz w lo hi A n c l) (hg : w.grownBy w' row) (hhi : hi ≤ w.heap.size) (hr : ∀ g, row = some g → g < lo ∨ hi ≤ g) : Flat enc sz w' lo hi A n c l :=
  h.keep fun k h1 h2 => hg.block k (by omega) (fun e => by have := hr k e.symm; omega)
theorem Flat.mono {lo' hi' : Nat} (h : Flat enc sz w lo hi A n c l) (h1 : lo' ≤ lo) (h2 : hi ≤ hi') : Flat enc sz w lo' hi' A n c l := by
  obtain ⟨a1, a2, a3, a4⟩ := h
  refine ⟨a1, a2, a3, fun hn => ?_⟩
  obtain ⟨b, off, e, hb1, hb2, hc⟩ := a4 hn
  exact ⟨b, off, e, by omega, by omega, hc⟩
theorem Flat.at_ (h : Flat enc sz w lo hi A n c l) {k : Nat} (hk : k < n) :
    ∃ b off x, A = some ⟨b, off, none⟩ ∧ lo ≤ b ∧ b < hi ∧ l[k]? = some x ∧ ∀ j u, (enc x)[j]? = some u → w.cell? ⟨b, off + k * sz + j, none⟩ = some u := by
  obtain ⟨h1, _, _, h4⟩ := h
  obtain ⟨b, off, e, hb1, hb2, hc⟩ := h4 (by omega)
  exact ⟨b, off, l[k]'(by omega), e, hb1, hb2, List.getElem?_eq_getElem (by omega), hc k _ (List.getElem?_eq_getElem (by omega))⟩
theorem Flat.nil_ (enc : α → List Value) (sz : Nat) (w : World) (lo hi : Nat) : Flat enc sz w lo hi none 0 0 [] := ⟨rfl, Nat.le_refl _, Nat.zero_le _, fun h => absurd h (by omega)⟩
theorem Flat.take_ (h : Flat enc sz w lo hi A n c l) {k : Nat} (hk : k ≤ n) : Flat enc sz w lo hi A k c (l.take k) := by
  obtain ⟨h1, h2, h3, h4⟩ := h
  refine ⟨by rw [List.length_take]; omega, by omega, h3, fun hn => ?_⟩
  obtain ⟨b, off, e, hb1, hb2, hc⟩ := h4 (by omega)
  refine ⟨b, off, e, hb1, hb2, fun i x hx j u hu => hc i x ?_ j u hu⟩
  rw [List.getElem?_take] at hx
  split at hx
  · exact hx
  · cases hx
theorem Flat.drop_ (h : Flat enc sz w lo hi A n c l) {k : Nat} (hk : k ≤ n) : Flat enc sz w lo hi (if c = k then A else A.map (·.add (k * sz))) (n - k) (c - k) (l.drop k) := by
  obtain ⟨h1, h2, h3, h4⟩ := h
  refine ⟨by rw [List.length_drop]; omega, by omega, by omega, fun hn => ?_⟩
  obtain ⟨b, off, rfl, hb1, hb2, hc⟩ := h4 (by omega)
  rw [if_neg (by omega)]
  refine ⟨b, off + k * sz, ?_, hb1, hb2, fun i x hx j u hu => ?_⟩
  · simp only [Option.map_some, Addr.add]
    split
    · rename_i h0; rw [h0]; rfl
    · rfl
  · rw [List.getElem?_drop] at hx
    have := hc (k + i) x hx j u hu
    rwa [show off + (k + i) * sz + j = off + k * sz + i * sz + j from by rw [Nat.add_mul]; omega] at this
end
theorem flatMap_get {α : Type} {enc : α → List Value} {sz : Nat} (hs : ∀ x, (enc x).length = sz) : ∀ (l : List α) (i : Nat) (x : α), l[i]? = some x → ∀ j u, (enc x)[j]? = some u → (l.flatMap enc)[i * sz + j]? = some u := by
  intro l
  induction l with
  | nil => intro i x hx; simp at hx
  | cons y l ih =>
    intro i x hx j u hu
    have hj : j < sz := by
      have := (List.getElem?_eq_some_iff.1 hu).1
      rw [hs x] at this; exact this
    cases i with
    | zero =>
      simp only [List.getElem?_cons_zero, Option.some.injEq] at hx
      subst hx
      rw [List.flatMap_cons, List.getElem?_append_left (by rw [hs]; omega)]
      simpa using hu
    | succ i =>
      simp only [List.getElem?_cons_succ] at hx
      rw [List.flatMap_cons, List.getElem?_append_right (by rw [hs, Nat.succ_mul]; omega)]
      have e : (i + 1) * sz + j - (enc y).length = i * sz + j := by rw [hs, Nat.succ_mul]; omega
      rw [e]
      exact ih i x hx j u hu
theorem length_flatMap {α : Type} {enc : α → List Value} {sz : Nat} (hs : ∀ x, (enc x).length = sz) (l : List α) : (l.flatMap enc).length = l.length * sz := by
  induction l with
  | nil => simp
  | cons y l ih => rw [List.flatMap_cons, List.length_append, ih, hs, List.length_cons, Nat.succ_mul]; omega
theorem own_flat {α : Type} {enc : α → List Value} {sz : Nat} (hs : ∀ x, (enc x).length = sz) {w : World} {lo : Nat} {e : TypeId} {v : Value} {n : Nat} {l : List α}
    (h : w.ownsRow lo e sz v n (l.flatMap enc)) (hn : l.length = n) : ∃ A c, v = .slice A n c ∧ Flat enc sz w lo w.heap.size A n c l := by
  rcases h.2 with ⟨rfl, rfl⟩ | ⟨g, cap, cur, rfl, hb, hg, hnc, hcm, hcs, htake⟩
  · exact ⟨none, 0, rfl, by rw [List.eq_nil_of_length_eq_zero hn]; exact Flat.nil_ enc sz w lo _⟩
  · refine ⟨_, _, rfl, hn, hnc, hcm, fun _ => ⟨g, 0, rfl, hb, lt_of_block hg, fun i x hx j u hu => ?_⟩⟩
    have hj : j < sz := by
      have := (List.getElem?_eq_some_iff.1 hu).1
      rw [hs x] at this; exact this
    have hi : i < n := by
      have := (List.getElem?_eq_some_iff.1 hx).1
      omega
    have hlt : i * sz + j < n * sz := by
      have : (i + 1) * sz ≤ n * sz := Nat.mul_le_mul_right _ hi
      rw [Nat.succ_mul] at this; omega
    have h1 := flatMap_get hs l i x hx j u hu
    rw [Nat.zero_add, h.cellAt (i * sz + j) hlt, h1]
theorem own_flat' {α : Type} {enc : α → List Value} {sz : Nat} (hs : ∀ x, (enc x).length = sz) {w : World} {lo : Nat} {e : TypeId} {A : Option Addr} {c n : Nat} {l : List α}
    (h : w.ownsRow lo e sz (.slice A n c) n (l.flatMap enc)) (hn : l.length = n) : Flat enc sz w lo w.heap.size A n c l := by
  obtain ⟨A', c', e', hf⟩ := own_flat hs h hn
  injection e' with e1 e2 e3
  subst e1; subst e3; exact hf
theorem make_rows {P : Program} (t e : TypeId) (i : TypeInfo) (z : Value) (ht : P.underlying t = some (.slice e)) (hi : P.info? e = some i) (hz : i.zero = some z)
    (n : Nat) (hb : i.bytes * n ≤ 281474976710656) (hn : n ≤ 9223372036854775807) (w : World) :
    (Instr.makeSlice t (.int .i64 (n : Int)) (.int .i64 (n : Int))).run P w = .ok (.slice (some ⟨w.heap.size, 0, none⟩) n n) (w.alloc (.cells (madeCells z.cells (n * i.size)) e)) := by
  have hb' : (i.bytes : Int) * (n : Int) ≤ 281474976710656 := by
    have h : ((i.bytes * n : Nat) : Int) ≤ 281474976710656 := by omega
    rwa [Int.natCast_mul] at h
  have hr := run_make (P := P) w t e i z ht hi hz .i64 .i64 n n (by omega) (by omega) hb' (by omega)
  simp only [Int.toNat_natCast] at hr
  exact hr
def putRow (cs : Array Value) (o : Nat) : List Value → Array Value
  | [] => cs
  | u :: us => putRow (cs.setIfInBounds o u) (o + 1) us
theorem size_putRow (us : List Value) : ∀ (cs : Array Value) (o : Nat), (putRow cs o us).size = cs.size := by
  induction us with
  | nil => intro cs o; rfl
  | cons u us ih => intro cs o; rw [putRow, ih]; simp
theorem putRow_out (us : List Value) : ∀ (cs : Array Value) (o m : Nat), m < o ∨ o + us.length ≤ m → (putRow cs o us)[m]? = cs[m]? := by
  induction us with
  | nil => intro cs o m _; rfl
  | cons u us ih =>
    intro cs o m h
    rw [List.length_cons] at h
    rw [putRow, ih _ _ _ (by omega), Array.getElem?_setIfInBounds_ne (by omega)]
theorem putRow_in (us : List Value) : ∀ (cs : Array Value) (o j : Nat), o + us.length ≤ cs.size → j < us.length → (putRow cs o us)[o + j]? = us[j]? := by
  induction us with
  | nil => intro cs o j _ h; simp at h
  | cons u us ih =>
    intro cs o j h hj
    rw [List.length_cons] at h hj
    rw [putRow]
    cases j with
    | zero =>
      show (putRow (cs.setIfInBounds o u) (o + 1) us)[o]? = some u
      rw [putRow_out us _ (o + 1) o (by omega)]
      have : o < cs.size := by omega
      simp [this]
    | succ j =>
      have := ih (cs.setIfInBounds o u) (o + 1) j (by simp; omega) (by omega)
      rw [show o + (j + 1) = o + 1 + j from by omega, this]; simp
theorem heap_setCell_at {w : World} {g i : Nat} {cs : Array Value} {t : TypeId} {fr : Nat × Nat} (h : w.heap[g]? = some (.cells cs t fr)) (u : Value) :
    (w.setCell ⟨g, i, none⟩ u).heap[g]? = some (.cells (cs.setIfInBounds i u) t fr) := by
  simp [World.setCell, Array.getElem?_modify, h]
theorem row_cell {w : World} {g i : Nat} {cs : Array Value} {e : TypeId} {fr : Nat × Nat} (h : w.heap[g]? = some (.cells cs e fr)) (hi : i < cs.size) : ∃ v, w.cell? ⟨g, i, none⟩ = some v :=
  ⟨cs[i], by simp [World.cell?, h, hi]⟩
theorem row_free {w : World} {g : Nat} {cs : Array Value} {e : TypeId} (h : w.heap[g]? = some (.cells cs e (0, 0))) (i : Nat) : w.frozen? ⟨g, i, none⟩ = false := by simp [World.frozen?, h]
def Filled {α : Type} (enc : α → List Value) (sz : Nat) (cs : Array Value) (l : List α) (k : Nat) : Prop :=
  cs.size = l.length * sz ∧ ∀ i x, i < k → l[i]? = some x → ∀ j u, (enc x)[j]? = some u → cs[i * sz + j]? = some u
theorem Filled.zero {α : Type} {enc : α → List Value} {sz : Nat} {cs : Array Value} {l : List α} (h : cs.size = l.length * sz) : Filled enc sz cs l 0 := ⟨h, fun _ _ h => absurd h (by omega)⟩
theorem Filled.step {α : Type} {enc : α → List Value} {sz : Nat} {cs : Array Value} {l : List α} {k : Nat} {x : α} (hs : ∀ x, (enc x).length = sz) (h : Filled enc sz cs l k) (hx : l[k]? = some x) :
    Filled enc sz (putRow cs (k * sz) (enc x)) l (k + 1) := by
  have hk := (List.getElem?_eq_some_iff.1 hx).1
  have hroom : k * sz + sz ≤ l.length * sz := by
    have : (k + 1) * sz ≤ l.length * sz := Nat.mul_le_mul_right _ hk
    rw [Nat.succ_mul] at this; exact this
  refine ⟨by rw [size_putRow]; exact h.1, fun i y hi hy j u hu => ?_⟩
  have hj : j < sz := by
    have := (List.getElem?_eq_some_iff.1 hu).1
    rw [hs y] at this; exact this
  by_cases hik : i = k
  · subst hik
    rw [hx] at hy; injection hy with hy; subst hy
    rw [putRow_in _ _ _ _ (by rw [hs, h.1]; exact hroom) (by rw [hs]; exact hj), hu]
  · have hlt : i * sz + j < k * sz := by
      have : (i + 1) * sz ≤ k * sz := Nat.mul_le_mul_right _ (by omega)
      rw [Nat.succ_mul] at this; omega
    rw [putRow_out _ _ _ _ (.inl hlt)]
    exact h.2 i y (by omega) hy j u hu
theorem Filled.list {α : Type} {enc : α → List Value} {sz : Nat} {cs : Array Value} {l : List α} (hs : ∀ x, (enc x).length = sz) (hsz : 0 < sz) (h : Filled enc sz cs l l.length) : cs.toList = l.flatMap enc := by
  apply List.ext_getElem?
  intro m
  by_cases hm : m < l.length * sz
  · have hi : m / sz < l.length := Nat.div_lt_of_lt_mul (by rw [Nat.mul_comm]; exact hm)
    have hj : m % sz < sz := Nat.mod_lt _ hsz
    have e : m = m / sz * sz + m % sz := by have := Nat.div_add_mod m sz; rw [Nat.mul_comm] at this; omega
    have hu : (enc (l[m / sz]))[m % sz]? = some ((enc (l[m / sz]))[m % sz]'(by rw [hs]; exact hj)) := List.getElem?_eq_getElem _
    have h1 := h.2 (m / sz) _ hi (List.getElem?_eq_getElem hi) (m % sz) _ hu
    have h2 := flatMap_get hs l (m / sz) _ (List.getElem?_eq_getElem hi) (m % sz) _ hu
    rw [← e] at h1 h2
    rw [h2, Array.getElem?_toList, h1]
  · rw [List.getElem?_eq_none (by rw [Array.length_toList, h.1]; omega), List.getElem?_eq_none (by rw [length_flatMap hs]; omega)]
theorem Filled.own {α : Type} {enc : α → List Value} {sz : Nat} {cs : Array Value} {l : List α} (hs : ∀ x, (enc x).length = sz) (hsz : 0 < sz) {w : World} {lo g n : Nat} {e : TypeId} (h : Filled enc sz cs l n) (hn : l.length = n)
    (hg : w.heap[g]? = some (.cells cs e (0, 0))) (hlo : lo ≤ g) (hm : n ≤ maxLen) : w.ownsRow lo e sz (.slice (some ⟨g, 0, none⟩) n n) n (l.flatMap enc) := by
  subst hn
  refine ⟨length_flatMap hs l, .inr ⟨g, _, cs, rfl, hlo, hg, Nat.le_refl _, hm, h.1, ?_⟩⟩
  rw [← h.1, ← Array.length_toList, List.take_length, Filled.list hs hsz h]
theorem flatMap_set {α : Type} {enc : α → List Value} {sz : Nat} (hs : ∀ x, (enc x).length = sz) {x x' : α} {j : Nat} {u : Value} (he : enc x' = (enc x).set j u) (hj : j < sz) :
    ∀ (l : List α) (i : Nat), l[i]? = some x → (l.flatMap enc).set (i * sz + j) u = (l.set i x').flatMap enc := by
  intro l
  induction l with
  | nil => intro i h; simp at h
  | cons y l ih =>
    intro i h
    cases i with
    | zero =>
      simp only [List.getElem?_cons_zero, Option.some.injEq] at h
      subst h
      rw [List.flatMap_cons, List.set_cons_zero, List.flatMap_cons, he, List.set_append_left _ _ (by rw [hs]; omega)]
      simp
    | succ i =>
      simp only [List.getElem?_cons_succ] at h
      rw [List.flatMap_cons, List.set_cons_succ, List.flatMap_cons, ← ih i h, List.set_append_right _ _ (by rw [hs, Nat.succ_mul]; omega)]
      congr 2
      rw [hs, Nat.succ_mul]; omega
theorem own_form {w : World} {lo sz n : Nat} {e : TypeId} {v : Value} {xs : List Value} (h : w.ownsRow lo e sz v n xs) (hn : 0 < n) : ∃ g cap, v = .slice (some ⟨g, 0, none⟩) n cap ∧ lo ≤ g ∧ g < w.heap.size ∧ n ≤ cap := by
  rcases h.2 with ⟨_, h0⟩ | ⟨g, cap, cur, rfl, hb, hg, hc, _⟩
  · omega
  · exact ⟨g, cap, rfl, hb, lt_of_block hg, hc⟩
theorem new_cells (w : World) (cs : Array Value) (t : TypeId) (l : List Value) (h : cs.toList = l) : ∀ j u, l[j]? = some u → (w.alloc (.cells cs t)).cell? ((⟨w.heap.size, 0, none⟩ : Addr).add j) = some u := by
  intro j u hu
  have e : (⟨w.heap.size, 0, none⟩ : Addr).add j = ⟨w.heap.size, j, none⟩ := by unfold Addr.add; split <;> simp_all
  rw [e, World.cell?_alloc_at _ _ _ _ rfl, ← Array.getElem?_toList, h, hu]
theorem one_enc {α : Type} {enc : α → List Value} (h : ∀ x, ∀ u ∈ enc x, u.oneCell' = true) (l : List α) : ∀ u ∈ l.flatMap enc, u.oneCell' = true := by
  intro u hu
  obtain ⟨x, _, hx⟩ := List.mem_flatMap.1 hu
  exact h x u hx
theorem Upd.len (u : Upd) : u.enc.length = 2 := rfl
theorem Stp.len (u : Stp) : u.enc.length = 3 := rfl
theorem Cll.len (u : Cll) : u.enc.length = 4 := rfl
theorem encInt_len (u : Int) : (encInt u).length = 1 := rfl
theorem Upd.one (x : Upd) : ∀ u ∈ x.enc, u.oneCell' = true := by intro u hu; simp [Upd.enc] at hu; rcases hu with rfl | rfl <;> rfl
theorem Stp.one (x : Stp) : ∀ u ∈ x.enc, u.oneCell' = true := by intro u hu; simp [Stp.enc] at hu; rcases hu with rfl | rfl | rfl <;> rfl
theorem Cll.one (x : Cll) : ∀ u ∈ x.enc, u.oneCell' = true := by intro u hu; simp [Cll.enc] at hu; rcases hu with rfl | rfl | rfl | rfl <;> rfl
theorem encInt_one (x : Int) : ∀ u ∈ encInt x, u.oneCell' = true := by intro u hu; simp [encInt] at hu; subst hu; rfl
def Src (w : World) (sz : Nat) (A : Option Addr) (m : Nat) (news : List Value) : Prop :=
  news.length = m * sz ∧ (A = none → m = 0) ∧ ∀ ad, A = some ad → ∀ j u, news[j]? = some u → w.cell? (ad.add j) = some u
theorem flat_src {α : Type} {enc : α → List Value} {sz : Nat} (hs : ∀ x, (enc x).length = sz) (hsz : 0 < sz) {w : World} {lo hi n c : Nat} {A : Option Addr} {l : List α} (h : Flat enc sz w lo hi A n c l) : Src w sz A n (l.flatMap enc) := by
  obtain ⟨h1, _, _, h4⟩ := h
  refine ⟨by rw [length_flatMap hs, h1], fun e => ?_, fun ad e j u hu => ?_⟩
  · rcases Nat.eq_zero_or_pos n with h0 | h0
    · exact h0
    · obtain ⟨b, off, e', _⟩ := h4 h0
      rw [e] at e'; cases e'
  · have hj := (List.getElem?_eq_some_iff.1 hu).1
    rw [length_flatMap hs] at hj
    have hi : j / sz < l.length := Nat.div_lt_of_lt_mul (by rw [Nat.mul_comm]; exact hj)
    have hm : j % sz < sz := Nat.mod_lt _ hsz
    have ej : j = j / sz * sz + j % sz := by have := Nat.div_add_mod j sz; rw [Nat.mul_comm] at this; omega
    obtain ⟨b, off, e', _, _, hc⟩ := h4 (by rw [← h1]; exact Nat.lt_of_le_of_lt (Nat.zero_le _) hi)
    rw [e] at e'; injection e' with e'; subst e'
    have hx := List.getElem?_eq_getElem hi
    have hv : (enc (l[j / sz]))[j % sz]? = some ((enc (l[j / sz]))[j % sz]'(by rw [hs]; exact hm)) := List.getElem?_eq_getElem _
    have h2 := flatMap_get hs l _ _ hx _ _ hv
    rw [← ej, hu] at h2
    injection h2 with h2
    have := hc _ _ hx _ _ hv
    rw [← h2] at this
    have ea : (⟨b, off, none⟩ : Addr).add j = ⟨b, off + j, none⟩ := by
      unfold Addr.add
      split
      · rename_i h0; rw [h0]; rfl
      · rfl
    rw [ea, ← this, show off + j = off + j / sz * sz + j % sz from by omega]
section
variable {P : Program} (w : World)
theorem run_append_src (base : Nat) (t ty e : TypeId) (i : TypeInfo) (z : Value) (size bytes : Nat) (ht : P.underlying t = some (.slice e)) (hi : P.info? e = some i) (hz : i.zero = some z)
    (hsize : i.size = size) (hby : i.bytes = bytes) (hzs : z.cells.size = size) (hsz : 0 < size)
    (v : Value) (n : Nat) (xs : List Value) (hown : w.ownsRow base e size v n xs) (A : Option Addr) (m c : Nat) (news : List Value) (hr : Src w size A m news) (h1 : ∀ u ∈ news, u.oneCell' = true)
    (h63 : n + m ≤ maxLen) (hbytes : (n + m) * bytes ≤ 140737488355328) (hbase : base ≤ w.heap.size) :
    ∃ v' w', (Builtin.append_ #[t, t] ty #[v, .slice A m c]).run P w = .ok v' w' ∧ w'.ownsRow base e size v' (n + m) (xs ++ news) ∧ w.grownBy w' v.ownBlock := by
  obtain ⟨hl, hn, hc⟩ := hr
  rcases A with _ | ad
  · obtain rfl := hn rfl
    have hnil : news = [] := List.eq_nil_of_length_eq_zero (by simpa using hl)
    subst hnil
    refine ⟨v, w, ?_, by simpa using hown, ⟨rfl, rfl, rfl, Nat.le_refl _, fun _ _ _ => rfl⟩⟩
    rcases hown.2 with ⟨rfl, rfl⟩ | ⟨g, cap, cur, rfl, _, _, hnc, _⟩
    · simp [Builtin.append_, run_underlying ht, sizeOf, typeInfo, hi, Builtin.lenOf, Builtin.firstCells]
    · simp [Builtin.append_, run_underlying ht, sizeOf, typeInfo, hi, Builtin.lenOf, Builtin.firstCells, hnc, storeCells]
  · obtain ⟨v', w', hr, h2, h3, _⟩ := run_append_own (P := P) w base t ty e i z size bytes ht hi hz hsize hby hzs hsz v n xs hown ad m c news hl (hc ad rfl) h1 h63 hbytes hbase
    exact ⟨v', w', hr, h2, h3⟩
theorem wp_append_src {o : Oper} {a : Act} {K : Act → World → Prop} {Q : Exit → Act → World → Prop} (s x : Operand) (t : TypeId)
    (ho : o.op = .call { callee := .builtin .append, args := #[s, x], argTypes := #[t, t] })
    (base : Nat) (e : TypeId) (i : TypeInfo) (z : Value) (size bytes : Nat) (ht : P.underlying t = some (.slice e)) (hi : P.info? e = some i) (hz : i.zero = some z)
    (hsize : i.size = size) (hby : i.bytes = bytes) (hzs : z.cells.size = size) (hsz : 0 < size)
    (v : Value) (n : Nat) (xs : List Value) (hs : a.eval s = v) (hown : w.ownsRow base e size v n xs) (A : Option Addr) (m c : Nat) (news : List Value) (hx : a.eval x = .slice A m c) (hr : Src w size A m news) (h1 : ∀ u ∈ news, u.oneCell' = true)
    (h63 : n + m ≤ maxLen) (hbytes : (n + m) * bytes ≤ 140737488355328) (hbase : base ≤ w.heap.size)
    (h : ∀ v' w', w'.ownsRow base e size v' (n + m) (xs ++ news) → w.grownBy w' v.ownBlock → K (a.put o.dst v') w') : o.wp P a w K Q := by
  obtain ⟨v', w', hrun, h2, h3⟩ := run_append_src (P := P) w base t o.type e i z size bytes ht hi hz hsize hby hzs hsz v n xs hown A m c news hr h1 h63 hbytes hbase
  unfold Oper.wp execOp
  simp only [ho, resolve, invoke, builtin, Sem.run_bind, Sem.run_pure, Result.andThen_ok, List.map_toArray, List.map_cons, List.map_nil, hs, hx, hrun]
  exact h v' w' h2 h3
theorem wpList_append_src {ops : Array Oper} {rest : List Oper} {o : Oper} {a : Act} {Q : Exit → Act → World → Prop} (hgd : o.guard = none) (s x : Operand) (t : TypeId)
    (ho : o.op = .call { callee := .builtin .append, args := #[s, x], argTypes := #[t, t] })
    (base : Nat) (e : TypeId) (i : TypeInfo) (z : Value) (size bytes : Nat) (ht : P.underlying t = some (.slice e)) (hi : P.info? e = some i) (hz : i.zero = some z)
    (hsize : i.size = size) (hby : i.bytes = bytes) (hzs : z.cells.size = size) (hsz : 0 < size)
    (v : Value) (n : Nat) (xs : List Value) (hs : a.eval s = v) (hown : w.ownsRow base e size v n xs) (A : Option Addr) (m c : Nat) (news : List Value) (hx : a.eval x = .slice A m c) (hr : Src w size A m news) (h1 : ∀ u ∈ news, u.oneCell' = true)
    (h63 : n + m ≤ maxLen) (hbytes : (n + m) * bytes ≤ 140737488355328) (hbase : base ≤ w.heap.size)
    (h : ∀ v' w', w'.ownsRow base e size v' (n + m) (xs ++ news) → w.grownBy w' v.ownBlock → wpList P ops Q rest (a.put o.dst v') w') : wpList P ops Q (o :: rest) a w :=
  wpList_plain hgd fun _ hK => wp_append_src w s x t ho base e i z size bytes ht hi hz hsize hby hzs hsz v n xs hs hown A m c news hx hr h1 h63 hbytes hbase fun v' w' h2 h3 => hK _ _ (h v' w' h2 h3)
theorem step_append_src {ops : Array Oper} {o : Oper} {a : Act} {K : Act → World → Prop} {Q : Exit → Act → World → Prop} {E : Prop} (hgd : o.guard = none) (s x : Operand) (t : TypeId)
    (ho : o.op = .call { callee := .builtin .append, args := #[s, x], argTypes := #[t, t] })
    (base : Nat) (e : TypeId) (i : TypeInfo) (z : Value) (size bytes : Nat) (ht : P.underlying t = some (.slice e)) (hi : P.info? e = some i) (hz : i.zero = some z)
    (hsize : i.size = size) (hby : i.bytes = bytes) (hzs : z.cells.size = size) (hsz : 0 < size)
    (v : Value) (n : Nat) (xs : List Value) (hs : a.eval s = v) (hown : w.ownsRow base e size v n xs) (A : Option Addr) (m c : Nat) (news : List Value) (hx : a.eval x = .slice A m c) (hr : Src w size A m news) (h1 : ∀ u ∈ news, u.oneCell' = true)
    (h63 : n + m ≤ maxLen) (hbytes : (n + m) * bytes ≤ 140737488355328) (hbase : base ≤ w.heap.size)
    (h : ∀ v' w', w'.ownsRow base e size v' (n + m) (xs ++ news) → w.grownBy w' v.ownBlock → K (a.put o.dst v') w') :
    if Region.wanted o (yielded ops a.tmps) = true then Oper.wp P o a w K Q else E := by
  have hw : Region.wanted o (yielded ops a.tmps) = true := by simp [Region.wanted, hgd]
  rw [if_pos hw]
  exact wp_append_src w s x t ho base e i z size bytes ht hi hz hsize hby hzs hsz v n xs hs hown A m c news hx hr h1 h63 hbytes hbase h
end
theorem Flat.upd {w : World} {lo hi n c k : Nat} {A : Option Addr} {l : List Upd} (h : Flat Upd.enc 2 w lo hi A n c l) (hk : k < n) :
    ∃ b off x, A = some ⟨b, off, none⟩ ∧ lo ≤ b ∧ b < hi ∧ l[k]? = some x ∧ w.cell? ⟨b, off + k * 2, none⟩ = some (.int .i64 x.key) ∧ w.cell? ⟨b, off + k * 2 + 1, none⟩ = some (.int .i64 x.value) := by
  obtain ⟨b, off, x, e, h1, h2, hx, hc⟩ := h.at_ hk
  exact ⟨b, off, x, e, h1, h2, hx, hc 0 _ rfl, hc 1 _ rfl⟩
theorem Flat.cll {w : World} {lo hi n c k : Nat} {A : Option Addr} {l : List Cll} (h : Flat Cll.enc 4 w lo hi A n c l) (hk : k < n) :
    ∃ b off x, A = some ⟨b, off, none⟩ ∧ lo ≤ b ∧ b < hi ∧ l[k]? = some x ∧ w.cell? ⟨b, off + k * 4, none⟩ = some (.int .i64 x.client) ∧ w.cell? ⟨b, off + k * 4 + 1, none⟩ = some (.int .i64 x.number) ∧
      w.cell? ⟨b, off + k * 4 + 2, none⟩ = some (.int .i64 x.what.key) ∧ w.cell? ⟨b, off + k * 4 + 3, none⟩ = some (.int .i64 x.what.value) := by
  obtain ⟨b, off, x, e, h1, h2, hx, hc⟩ := h.at_ hk
  exact ⟨b, off, x, e, h1, h2, hx, hc 0 _ rfl, hc 1 _ rfl, hc 2 _ rfl, hc 3 _ rfl⟩
theorem Flat.int_ {w : World} {lo hi n c k : Nat} {A : Option Addr} {l : List Int} (h : Flat encInt 1 w lo hi A n c l) (hk : k < n) :
    ∃ b off x, A = some ⟨b, off, none⟩ ∧ lo ≤ b ∧ b < hi ∧ l[k]? = some x ∧ w.cell? ⟨b, off + k, none⟩ = some (.int .i64 x) := by
  obtain ⟨b, off, x, e, h1, h2, hx, hc⟩ := h.at_ hk
  exact ⟨b, off, x, e, h1, h2, hx, by have := hc 0 _ rfl; rwa [Nat.mul_one] at this⟩
theorem below_of_regrown {w w' : World} (h : ∃ p : Regrown, w' = Sort.grow (redrawn w p.d) p.os) : Below w.heap.size w w' := by obtain ⟨p, rfl⟩ := h; exact below_regrown w p.d p.os
end Go.Proofs.YtemgilofjbnoaaaGreatDoor
namespace Go.Proofs.YtemgilofjbnoaaaGreatDoor
open Go.RowKit
def inB (n lo hi : Int) : Bool := decide (lo ≤ n) && decide (n ≤ hi)
def updOk (k v : Int) : Bool := inB k 0 4 && inB v 0 99
def callIn (c n : Int) : Bool := inB c 0 99 && inB n 1 9999
def cllOk (c n k v : Int) : Bool := callIn c n && updOk k v
def stpOk (r : Bool) (k v : Int) : Bool := inB k 0 4 && inB v (if r then -1 else 0) 99
set_option maxHeartbeats 400000 in
theorem l6In_any (n lo hi : Int) (w : World) :
    Calls Mo.prog 72 #[.int .i64 n, .int .i64 lo, .int .i64 hi] w fun e w' => e = .returned (.bool (inB n lo hi)) ∧ w = w' := by
  go_enter Mo.func72, Tryz.ntmps72
  go_wp2
  all_goals go_ret
  all_goals exact ⟨ret_bool (by simp [inB]; try omega), rfl⟩
set_option maxHeartbeats 400000 in
theorem keyValid_any (n : Int) (w : World) :
    Calls Mo.prog 47 #[.int .i64 n] w fun e w' => e = .returned (.bool (inB n 0 4)) ∧ w = w' := by
  go_enter Mo.func47, Tryz.ntmps47
  go_wp2
  all_goals go_ret
  all_goals exact ⟨ret_bool (by rw [Bool.eq_iff_iff]; simp [inB]; try omega), rfl⟩
set_option maxHeartbeats 400000 in
theorem updValid_any (k v : Int) (w : World) :
    Calls Mo.prog 92 #[.agg #[.int .i64 k, .int .i64 v]] w fun e w' => e = .returned (.bool (updOk k v)) ∧ Below w.heap.size w w' := by
  cases hk : inB k 0 4
  all_goals
    go_enter Mo.func92, Tryz.ntmps92
    go_wp2_with (go_at_call 47; refine (keyValid_any _ _).mono ?_; rintro e w' ⟨rfl, rfl⟩)
  all_goals go_ret
  all_goals exact ⟨ret_bool (by simp [updOk, hk]; try (rw [Bool.eq_iff_iff]; simp [inB]; omega)), (Below.refl _ _).alloc (Nat.le_refl _) _⟩
set_option maxHeartbeats 400000 in
theorem updateValid_any (k v : Int) (w : World) :
    Calls Mo.prog 65 #[.agg #[.int .i64 k, .int .i64 v]] w fun e w' => e = .returned (.bool (updOk k v)) ∧ Below w.heap.size w w' := by
  go_enter Mo.func65, Tryz.ntmps65
  go_wp2_with (go_at_call 92; refine (updValid_any _ _ _).mono ?_; rintro e w1 ⟨rfl, hb⟩)
  go_ret
  exact ⟨rfl, ((Below.refl _ _).alloc (Nat.le_refl _) _).trans (hb.mono (by simp))⟩
set_option maxHeartbeats 400000 in
theorem specUpdateValid_any (k v : Int) (w : World) :
    Calls Mo.prog 73 #[.agg #[.int .i64 k, .int .i64 v]] w fun e w' => e = .returned (.bool (updOk k v)) ∧ Below w.heap.size w w' := by
  cases hk : inB k 0 4
  all_goals
    go_enter Mo.func73, Tryz.ntmps73
    go_wp2_with (go_at_call 72; refine (l6In_any _ _ _ _).mono ?_; rintro e w' ⟨rfl, rfl⟩)
  all_goals go_ret
  all_goals exact ⟨ret_bool (by simp [updOk, hk]), (Below.refl _ _).alloc (Nat.le_refl _) _⟩
set_option maxHeartbeats 400000 in
theorem callInRange_any (c n : Int) (w : World) :
    Calls Mo.prog 50 #[.int .i64 c, .int .i64 n] w fun e w' => e = .returned (.bool (callIn c n)) ∧ w = w' := by
  go_enter Mo.func50, Tryz.ntmps50
  go_wp2
  all_goals go_ret
  all_goals exact ⟨ret_bool (by rw [Bool.eq_iff_iff]; simp [callIn, inB]; try omega), rfl⟩
set_option maxHeartbeats 400000 in
theorem callValid_any (c n k v : Int) (w : World) :
    Calls Mo.prog 35 #[.agg #[.int .i64 c, .int .i64 n, .int .i64 k, .int .i64 v]] w fun e w' => e = .returned (.bool (cllOk c n k v)) ∧ Below w.heap.size w w' := by
  cases hk : callIn c n
  all_goals
    go_enter Mo.func35, Tryz.ntmps35
    go_wp2_with (first | (go_at_call 50; refine (callInRange_any _ _ _).mono ?_; rintro e w' ⟨rfl, rfl⟩) | (go_at_call 65; refine (updateValid_any _ _ _).mono ?_; rintro e w1 ⟨rfl, hb⟩))
  all_goals go_ret
  · exact ⟨ret_bool (by simp [cllOk, hk]), (Below.refl _ _).alloc (Nat.le_refl _) _⟩
  · exact ⟨ret_bool (by simp [cllOk, hk]), ((Below.refl _ _).alloc (Nat.le_refl _) _).trans (hb.mono (by simp))⟩
set_option maxHeartbeats 400000 in
theorem l15Call_any (c n k v : Int) (w : World) :
    Calls Mo.prog 41 #[.agg #[.int .i64 c, .int .i64 n, .int .i64 k, .int .i64 v]] w fun e w' => e = .returned (.bool (cllOk c n k v)) ∧ Below w.heap.size w w' := by
  cases hk : inB c 0 99
  all_goals cases hn : inB n 1 9999
  all_goals
    go_enter Mo.func41, Tryz.ntmps41
    go_wp2_with (first | (go_at_call 72; refine (l6In_any _ _ _ _).mono ?_; rintro e w' ⟨rfl, rfl⟩) | (go_at_call 73; refine (specUpdateValid_any _ _ _).mono ?_; rintro e w1 ⟨rfl, hb⟩))
  all_goals go_ret
  · exact ⟨ret_bool (by simp [cllOk, callIn, hk]), (Below.refl _ _).alloc (Nat.le_refl _) _⟩
  · exact ⟨ret_bool (by simp [cllOk, callIn, hk]), (Below.refl _ _).alloc (Nat.le_refl _) _⟩
  · exact ⟨ret_bool (by simp [cllOk, callIn, hn]), (Below.refl _ _).alloc (Nat.le_refl _) _⟩
  · exact ⟨ret_bool (by simp [cllOk, callIn, hk, hn]), ((Below.refl _ _).alloc (Nat.le_refl _) _).trans (hb.mono (by simp))⟩
end Go.Proofs.YtemgilofjbnoaaaGreatDoor
namespace Go.Proofs.YtemgilofjbnoaaaGreatDoor
open Go.RowKit
def encU8 (x : Int) : List Value := [.int .u8 x]
def Rd (w : World) (rb B p : Nat) : Prop :=
  B ≤ rb ∧ ∃ A n c l, w.heap[rb]? = some (.cells #[.slice A n c, .int .i64 (p : Int)] 90 (0, 0)) ∧ Flat encU8 1 w 0 B A n c l ∧ (∀ x ∈ l, 0 ≤ x ∧ x ≤ 255) ∧ n ≤ 2000
theorem Flat.u8 {w : World} {lo hi n c k : Nat} {A : Option Addr} {l : List Int} (h : Flat encU8 1 w lo hi A n c l) (hk : k < n) :
    ∃ b off x, A = some ⟨b, off, none⟩ ∧ lo ≤ b ∧ b < hi ∧ l[k]? = some x ∧ w.cell? ⟨b, off + k, none⟩ = some (.int .u8 x) := by
  obtain ⟨b, off, x, e, h1, h2, hx, hc⟩ := h.at_ hk
  exact ⟨b, off, x, e, h1, h2, hx, by have := hc 0 _ rfl; rwa [Nat.mul_one] at this⟩
theorem Rd.lt {w : World} {rb B p : Nat} (h : Rd w rb B p) : rb < w.heap.size := by
  obtain ⟨_, A, n, c, l, hg, _⟩ := h; exact lt_of_block hg
theorem Rd.keep {w w' : World} {rb B p : Nat} (h : Rd w rb B p) (hk : ∀ k, k ≤ rb → w'.heap[k]? = w.heap[k]?) : Rd w' rb B p := by
  obtain ⟨hB, A, n, c, l, hg, hf, hb, hn⟩ := h
  exact ⟨hB, A, n, c, l, (hk rb (Nat.le_refl _)).trans hg, hf.keep (fun k _ h2 => hk k (by omega)), hb, hn⟩
theorem Rd.below {w w' : World} {rb B p : Nat} (h : Rd w rb B p) (hb : Below w.heap.size w w') : Rd w' rb B p :=
  h.keep fun k hk => hb.block k (by have := h.lt; omega)
theorem only_trans {a b c : World} {rb : Nat} (h : a.grownBy b (some rb)) (k : b.grownBy c (some rb)) : a.grownBy c (some rb) :=
  ⟨k.os.trans h.os, k.tape.trans h.tape, k.output.trans h.output, Nat.le_trans h.size k.size, fun i hi hn => (k.block i (Nat.lt_of_lt_of_le hi h.size) hn).trans (h.block i hi hn)⟩
theorem only_of_below {a b : World} {rb : Nat} (h : Below a.heap.size a b) : a.grownBy b (some rb) := ⟨h.os, h.tape, h.output, h.size, fun i hi _ => h.block i hi⟩
def Picked (w : World) (rb B p : Nat) (n : Int) (e : Ending) (w' : World) : Prop :=
  ∃ v : Int, e = .returned (.int .i64 v) ∧ 0 ≤ v ∧ (1 ≤ n → v < n) ∧ (n < 1 → v = 0) ∧ Rd w' rb B (p + 1) ∧ w.grownBy w' (some rb)
def DrF {α : Type} (enc : α → List Value) (sz : Nat) (e : TypeId) (w0 w : World) (rb B p : Nat) (v : Value) (l : List α) : Prop :=
  Rd w rb B p ∧ w.ownsRow w0.heap.size e sz v l.length (l.flatMap enc) ∧ w0.grownBy w (some rb) ∧ rb < w0.heap.size
section
variable {α : Type} {enc : α → List Value} {sz : Nat} {e : TypeId} {w0 w w' : World} {rb B p p' : Nat} {v v' : Value} {l : List α}
theorem DrF.picked (h : DrF enc sz e w0 w rb B p v l) (hr : Rd w' rb B p') (hg : w.grownBy w' (some rb)) : DrF enc sz e w0 w' rb B p' v l := by
  obtain ⟨_, h2, h3, h4⟩ := h
  refine ⟨hr, h2.kept hg ?_, only_trans h3 hg, h4⟩
  cases hv : v.ownBlock with
  | none => exact .inl rfl
  | some k => exact .inr (fun e => by injection e with e; have := (h2.lt k hv).1; omega)
theorem DrF.alloc (h : DrF enc sz e w0 w rb B p v l) (o : Obj) : DrF enc sz e w0 (w.alloc o) rb B p v l :=
  ⟨h.1.below ((Below.refl _ _).alloc (Nat.le_refl _) _), h.2.1.alloc o, only_trans h.2.2.1 (only_of_below ((Below.refl _ _).alloc (Nat.le_refl _) _)), h.2.2.2⟩
theorem DrF.appended {x : α} (h : DrF enc sz e w0 w rb B p v l) {o : Obj} (hown : w'.ownsRow w0.heap.size e sz v' (l.length + 1) (l.flatMap enc ++ enc x)) (hg : (w.alloc o).grownBy w' v.ownBlock) :
    DrF enc sz e w0 w' rb B p v' (l ++ [x]) := by
  obtain ⟨h1, h2, h3, h4⟩ := h
  have hblk : ∀ k, k < w.heap.size → some k ≠ v.ownBlock → w'.heap[k]? = w.heap[k]? := fun k hk hne => (hg.block k (by simp; omega) hne).trans (Below.heap_alloc _ _ _ hk)
  have hlt : rb < w.heap.size := h1.lt
  have hold : ∀ k, k < w0.heap.size → some k ≠ v.ownBlock := fun k hk e => by have := (h2.lt k e.symm).1; omega
  refine ⟨h1.keep (fun k hk => hblk k (by omega) (hold k (by omega))), ?_, ⟨hg.os.trans h3.os, hg.tape.trans h3.tape, hg.output.trans h3.output, Nat.le_trans h3.size (Nat.le_trans (by simp) hg.size), fun k hk hn => (hblk k (Nat.lt_of_lt_of_le hk h3.size) (hold k hk)).trans (h3.block k hk hn)⟩, h4⟩
  rw [List.length_append, List.flatMap_append]
  simpa using hown
theorem DrF.stored {x x' : α} {i j : Nat} {u : Value} {g cap : Nat} (hs : ∀ x, (enc x).length = sz) (he : enc x' = (enc x).set j u) (hj : j < sz) (hi : l[i]? = some x)
    (h : DrF enc sz e w0 w rb B p (.slice (some ⟨g, 0, none⟩) l.length cap) l) :
    DrF enc sz e w0 (w.setCell ⟨g, i * sz + j, none⟩ u) rb B p (.slice (some ⟨g, 0, none⟩) l.length cap) (l.set i x') := by
  obtain ⟨h1, h2, h3, h4⟩ := h
  have hg : w0.heap.size ≤ g := (h2.lt g rfl).1
  refine ⟨h1.keep (fun k hk => Below.heap_setCell _ _ _ _ (by show k ≠ g; omega)), ?_, ⟨h3.os, h3.tape, h3.output, by simpa [World.setCell] using h3.size, fun k hk hn => (Below.heap_setCell _ _ _ _ (by show k ≠ g; omega)).trans (h3.block k hk hn)⟩, h4⟩
  have := h2.stored (i * sz + j) u
  rw [flatMap_set hs he hj l i hi] at this
  rw [List.length_set]
  exact this.1
end
end Go.Proofs.YtemgilofjbnoaaaGreatDoor
namespace Go.Proofs.YtemgilofjbnoaaaGreatDoor
open Go Go.Conc Go.RowKit
structure BelowT (W w' : World) : Prop where
  os : w'.os = W.os
  output : w'.output = W.output
  size : W.heap.size ≤ w'.heap.size
  block : ∀ k, k < W.heap.size → w'.heap[k]? = W.heap[k]?
theorem BelowT.below {W w' : World} (h : BelowT W w') : Below W.heap.size W { w' with tape := W.tape } := ⟨h.os, rfl, h.output, h.size, h.block⟩
theorem BelowT.frame {W w' : World} (h : BelowT W w') (may : MemPlace → Prop) : W.keptBut w' may := h.below.frame may
theorem BelowT.trod {H : Type} {enc : TypeId × Value → H} {P : Program} {t : TypeId} (hl : laidOutB P = true) (hr : P.readableRec t = true) (hrow : t < P.types.size) {W W' : World} {v : Value} {d : DataW H} {ps : List MemPlace}
    (h : DataW.Trod enc P W 0 (fun _ => true) true t v d ps) (hb : BelowT W W') (hlt : ∀ x ∈ ps, x.block < W.heap.size) :
    DataW.Trod enc P W' 0 (fun b => decide (b < W.heap.size)) true t v d ps :=
  WideElems.Trod_stays hl hr hrow h (fun x hx => hb.below.same (hlt x hx)) (fun x hx => by simpa using hlt x hx)
theorem brk_cell {W w : World} (hw : w.heap = (brk W).heap) {a : Addr} {v : Value} (h : W.cell? a = some v) : w.cell? a = some v := by
  have hb : w.heap[a.block]? = W.heap[a.block]? := by
    rw [hw]
    refine brk_at W _ ?_
    rintro ⟨o, e, hb⟩
    simp only [World.cell?, e] at h
    cases o <;> first | exact absurd rfl hb | (cases hs : a.spot <;> simp at h)
  exact (World.cell?_of_block (w := W) hb).trans h
theorem brk_size {W w : World} (hw : w.heap = (brk W).heap) : w.heap.size = W.heap.size := by rw [hw]; simp [brk]
theorem brk_flat {α : Type} {enc : α → List Value} {sz : Nat} {W w : World} (hw : w.heap = (brk W).heap) {A : Option Addr} {n c : Nat} {l : List α} (h : Flat enc sz W 0 W.heap.size A n c l) : Flat enc sz w 0 w.heap.size A n c l := by
  obtain ⟨h1, h2, h3, h4⟩ := h
  refine ⟨h1, h2, h3, fun hn => ?_⟩
  obtain ⟨b, off, e, hb1, hb2, hc⟩ := h4 hn
  exact ⟨b, off, e, hb1, by rw [brk_size hw]; exact hb2, fun i x hx j u hu => brk_cell hw (hc i x hx j u hu)⟩
theorem mo_run {f : FuncId} {g : Func} (hF : FM[f]? = some g) (hb : g.body.isNone = false) (hne : f ≠ kp) (hi : Tryz.prog.inits.idxOf? f = none) (args : Array Value) (W : World)
    (H : ∀ w : World, w.heap = (brk W).heap → Calls Mo.prog f args w fun e w' => e = .returned (.bool true) ∧ Below w.heap.size w w') :
    ∃ M last o w' t', runNT Tryz.prog (M + 1) (solo (G (Frame.enter Tryz.prog f args .normal) []) W) #[] = (.ended o w', t') ∧ runN Tryz.prog M (solo (G (Frame.enter Tryz.prog f args .normal) []) W) = .next last ∧
      step Tryz.prog last = .ended o w' ∧ Go.Conc.Good Tryz.prog (fun v w' => v = .bool true ∧ BelowT W w') last o w' t' := by
  obtain ⟨he, h0⟩ := enter_ok (args := args) fitsK hF hb hne
  have hk : f ≠ k1 := fun e => by rw [e, fm_k1] at hF; cases hF
  obtain ⟨_, h1⟩ := enter_ok (args := args) fitsU hF hb hk
  refine law_run (Post := fun v w' => v = .bool true ∧ BelowT (brk W) w') fitsK fitsU fm_k1 h1 h0 he hi (fun τ => ?_) (passOk fun fr stk u h => ⟨fun e => hne (h.2.1 ▸ e), h.1⟩) ?_
  · refine (H (re (brk W) τ 0) rfl).mono ?_
    rintro e w' ⟨rfl, hb⟩
    exact ⟨rfl, hb.os, hb.output, hb.size, hb.block⟩
  · rintro u w S K v τ d ⟨rfl, hp⟩ hs hk
    refine ⟨rfl, hs.os.trans hp.os, hs.output.trans hp.output, ?_, fun k hlt => old_same hs hk (fun k hk => ?_) hlt⟩
    · have := hp.size
      have := hs.size
      have e1 : (re u τ d).heap.size = u.heap.size := rfl
      have e2 : (brk W).heap.size = W.heap.size := by simp [brk]
      omega
    · exact hp.block k (by simpa [brk] using hk)
end Go.Proofs.YtemgilofjbnoaaaGreatDoor
namespace Go.Proofs.YtemgilofjbnoaaaGreatDoor
open Go.RowKit
structure Nod where
  id : Int
  log : List Upd
  done : Int
theorem Upd.ext' {a b : Upd} (h1 : a.key = b.key) (h2 : a.value = b.value) : a = b := by cases a; cases b; simp_all
def Upd.same (a b : Upd) : Bool := decide (a.key = b.key) && decide (a.value = b.value)
theorem Upd.same_iff {a b : Upd} : a.same b = true ↔ a = b := by
  constructor
  · intro h; simp [Upd.same] at h; exact Upd.ext' h.1 h.2
  · rintro rfl; simp [Upd.same]
def logOk (l : List Upd) : Bool := decide (l.length ≤ 12) && l.all fun u => updOk u.key u.value
def common : List Upd → List Upd → Nat
  | x :: xs, y :: ys => if x.same y then common xs ys + 1 else 0
  | _, _ => 0
theorem common_step {a b : List Upd} {k : Nat} {x y : Upd} (hx : a[k]? = some x) (hy : b[k]? = some y) (h : x.same y = true) : common (a.drop k) (b.drop k) = common (a.drop (k + 1)) (b.drop (k + 1)) + 1 := by
  obtain ⟨ha, ea⟩ := List.getElem?_eq_some_iff.1 hx
  obtain ⟨hb, eb⟩ := List.getElem?_eq_some_iff.1 hy
  rw [List.drop_eq_getElem_cons ha, List.drop_eq_getElem_cons hb, ea, eb, common, h]; rfl
theorem common_part {a b : List Upd} {k : Nat} {x y : Upd} (hx : a[k]? = some x) (hy : b[k]? = some y) (h : x.same y = false) : common (a.drop k) (b.drop k) = 0 := by
  obtain ⟨ha, ea⟩ := List.getElem?_eq_some_iff.1 hx
  obtain ⟨hb, eb⟩ := List.getElem?_eq_some_iff.1 hy
  rw [List.drop_eq_getElem_cons ha, List.drop_eq_getElem_cons hb, ea, eb, common, h]; rfl
theorem common_end {a b : List Upd} {k : Nat} (h : a.length ≤ k ∨ b.length ≤ k) : common (a.drop k) (b.drop k) = 0 := by
  rcases h with h | h
  · rw [List.drop_eq_nil_of_le h]; rfl
  · rw [List.drop_eq_nil_of_le h]; cases a.drop k <;> rfl
theorem common_le (a : List Upd) : ∀ b : List Upd, common a b ≤ a.length ∧ common a b ≤ b.length := by
  induction a with
  | nil => intro b; cases b <;> exact ⟨Nat.zero_le _, Nat.zero_le _⟩
  | cons x a ih =>
    intro b
    cases b with
    | nil => exact ⟨Nat.zero_le _, Nat.zero_le _⟩
    | cons y b =>
      unfold common
      have := ih b
      split
      · simp only [List.length_cons]; omega
      · exact ⟨Nat.zero_le _, Nat.zero_le _⟩
theorem common_all {a : List Upd} : ∀ {b : List Upd}, common a b = a.length ↔ a <+: b := by
  induction a with
  | nil => intro b; simp [common]
  | cons x a ih =>
    intro b
    cases b with
    | nil => simp [common]
    | cons y b =>
      unfold common
      rw [List.cons_prefix_cons]
      split
      · rename_i h
        rw [Upd.same_iff] at h
        simp [h, ih]
      · rename_i h
        rw [Upd.same_iff] at h
        simp [h]
def logCommon (a b : List Upd) : Int := if logOk a && logOk b then (common a b : Int) else -1
def logBegins (a b : List Upd) : Bool := logOk a && logOk b && decide (common a b = a.length)
theorem logBegins_iff {a b : List Upd} : logBegins a b = true ↔ logOk a = true ∧ logOk b = true ∧ a <+: b := by
  unfold logBegins; simp [common_all, and_assoc]
def nodeOk (x : Nod) : Bool := inB x.id 1 99 && logOk x.log && inB x.done 0 x.log.length
def placeOf (l : List Nod) (id : Int) : Option Nat := l.findIdx? fun x => decide (x.id = id)
def placeI (p : Option Nat) : Int := match p with | some k => (k : Int) | none => -1
def nodAt (l : List Nod) (i : Nat) : Bool :=
  match l[i]? with
  | none => true
  | some x => nodeOk x && decide (placeOf l x.id = some i) && (match i with
    | 0 => true
    | j + 1 => match l[j]? with
      | none => true
      | some y => logBegins x.log y.log && decide (y.done ≤ x.done))
def tailOk (l : List Nod) : Bool := match l[l.length - 1]? with | some x => decide (x.done = x.log.length) | none => true
def chainOk (v : Int) (l : List Nod) : Bool := inB v 0 999 && decide (1 ≤ l.length) && decide (l.length ≤ 5) && (List.range l.length).all (nodAt l) && tailOk l
theorem placeOf_none {l : List Nod} {id : Int} (h : ∀ (i : Nat) (x : Nod), l[i]? = some x → x.id ≠ id) : placeOf l id = none := by
  unfold placeOf
  rw [List.findIdx?_eq_none_iff]
  intro x hx
  obtain ⟨i, hi⟩ := List.getElem?_of_mem hx
  simp [h i x hi]
theorem placeOf_at {l : List Nod} {id : Int} {k : Nat} {x : Nod} (hx : l[k]? = some x) (he : x.id = id) (h : ∀ (i : Nat) (y : Nod), i < k → l[i]? = some y → y.id ≠ id) : placeOf l id = some k := by
  unfold placeOf
  rw [List.findIdx?_eq_some_iff_getElem]
  obtain ⟨hk, e⟩ := List.getElem?_eq_some_iff.1 hx
  refine ⟨hk, by rw [e]; simp [he], fun j hj => ?_⟩
  have := h j l[j] hj (List.getElem?_eq_getElem _)
  simp [this]
theorem placeOf_some {l : List Nod} {id : Int} {k : Nat} (h : placeOf l id = some k) : ∃ x, l[k]? = some x ∧ x.id = id ∧ ∀ (i : Nat) (y : Nod), i < k → l[i]? = some y → y.id ≠ id := by
  unfold placeOf at h
  rw [List.findIdx?_eq_some_iff_getElem] at h
  obtain ⟨hk, he, hb⟩ := h
  refine ⟨l[k], List.getElem?_eq_getElem hk, by simpa using he, fun i y hi hy => ?_⟩
  obtain ⟨hi', e⟩ := List.getElem?_eq_some_iff.1 hy
  have := hb i hi
  rw [← e]; simpa using this
theorem placeOf_lt {l : List Nod} {id : Int} {k : Nat} (h : placeOf l id = some k) : k < l.length := by
  obtain ⟨x, hx, _⟩ := placeOf_some h
  exact (List.getElem?_eq_some_iff.1 hx).1
theorem all_range_false {p : Nat → Bool} {k n : Nat} (hk : p k = false) (h : k < n) : (List.range n).all p = false := by
  rw [List.all_eq_false]
  exact ⟨k, by simpa using h, by simp [hk]⟩
theorem all_range_succ {p : Nat → Bool} {k : Nat} (h : (List.range k).all p = true) (hk : p k = true) : (List.range (k + 1)).all p = true := by
  rw [List.range_succ, List.all_append, h]; simp [hk]
theorem all_range_at {p : Nat → Bool} {k n : Nat} (h : (List.range n).all p = true) (hk : k < n) : p k = true := by
  rw [List.all_eq_true] at h
  exact h k (by simpa using hk)
theorem chainOk_bad {v : Int} {l : List Nod} {k : Nat} (hk : nodAt l k = false) (h : k < l.length) : chainOk v l = false := by
  unfold chainOk; rw [all_range_false hk h]; simp
theorem nodAt_node {l : List Nod} {i : Nat} {x : Nod} (hx : l[i]? = some x) (h : nodeOk x = false) : nodAt l i = false := by simp [nodAt, hx, h]
theorem nodAt_place {l : List Nod} {i : Nat} {x : Nod} (hx : l[i]? = some x) (h : placeOf l x.id ≠ some i) : nodAt l i = false := by simp [nodAt, hx, h]
theorem nodAt_zero {l : List Nod} {x : Nod} (hx : l[0]? = some x) : nodAt l 0 = (nodeOk x && decide (placeOf l x.id = some 0)) := by simp [nodAt, hx]
theorem nodAt_succ {l : List Nod} {j : Nat} {x y : Nod} (hx : l[j + 1]? = some x) (hy : l[j]? = some y) :
    nodAt l (j + 1) = (nodeOk x && decide (placeOf l x.id = some (j + 1)) && (logBegins x.log y.log && decide (y.done ≤ x.done))) := by simp [nodAt, hx, hy]
structure RN where
  id : Int
  A : Option Addr
  n : Nat
  c : Nat
  done : Int
def RN.enc (r : RN) : List Value := [.int .i64 r.id, .slice r.A r.n r.c, .int .i64 r.done]
theorem RN.len (r : RN) : r.enc.length = 3 := rfl
theorem RN.one (x : RN) : ∀ u ∈ x.enc, u.oneCell' = true := by intro u hu; simp [RN.enc] at hu; rcases hu with rfl | rfl | rfl <;> rfl
def Nods (w : World) (lo hi : Nat) (A : Option Addr) (n c : Nat) (l : List Nod) : Prop :=
  ∃ rs : List RN, Flat RN.enc 3 w lo hi A n c rs ∧ rs.length = l.length ∧ ∀ (i : Nat) (r : RN) (x : Nod), rs[i]? = some r → l[i]? = some x → r.id = x.id ∧ r.done = x.done ∧ Flat Upd.enc 2 w lo hi r.A r.n r.c x.log
section
variable {w w' : World} {lo hi n c : Nat} {A : Option Addr} {l : List Nod}
theorem Nods.len (h : Nods w lo hi A n c l) : l.length = n := by obtain ⟨rs, hf, hl, _⟩ := h; rw [← hl]; exact hf.len
theorem Nods.cap (h : Nods w lo hi A n c l) : n ≤ c ∧ c ≤ maxLen := by obtain ⟨rs, hf, _⟩ := h; exact ⟨hf.2.1, hf.2.2.1⟩
theorem Nods.keep (h : Nods w lo hi A n c l) (hk : ∀ k, lo ≤ k → k < hi → w'.heap[k]? = w.heap[k]?) : Nods w' lo hi A n c l := by
  obtain ⟨rs, hf, hl, hr⟩ := h
  exact ⟨rs, hf.keep hk, hl, fun i r x h1 h2 => by obtain ⟨a, b, c⟩ := hr i r x h1 h2; exact ⟨a, b, c.keep hk⟩⟩
theorem Nods.below {B : Nat} (h : Nods w lo hi A n c l) (hb : Below B w w') (hB : hi ≤ B) : Nods w' lo hi A n c l := h.keep fun k _ hk => hb.block k (by omega)
theorem Nods.mono {lo' hi' : Nat} (h : Nods w lo hi A n c l) (h1 : lo' ≤ lo) (h2 : hi ≤ hi') : Nods w lo' hi' A n c l := by
  obtain ⟨rs, hf, hl, hr⟩ := h
  exact ⟨rs, hf.mono h1 h2, hl, fun i r x h3 h4 => by obtain ⟨a, b, c⟩ := hr i r x h3 h4; exact ⟨a, b, c.mono h1 h2⟩⟩
theorem Nods.wide (h : Nods w lo hi A n c l) (h2 : hi ≤ w.heap.size) : Nods w 0 w.heap.size A n c l := h.mono (Nat.zero_le _) h2
theorem Nods.take_ (h : Nods w lo hi A n c l) {k : Nat} (hk : k ≤ n) : Nods w lo hi A k c (l.take k) := by
  obtain ⟨rs, hf, hl, hr⟩ := h
  refine ⟨rs.take k, hf.take_ hk, by simp [hl], fun i r x h1 h2 => ?_⟩
  rw [List.getElem?_take] at h1 h2
  split at h1
  · rename_i hi; rw [if_pos hi] at h2; exact hr i r x h1 h2
  · cases h1
theorem Nods.nil_ (w : World) (lo hi : Nat) : Nods w lo hi none 0 0 [] := ⟨[], Flat.nil_ _ _ _ _ _, rfl, fun i r x h => by simp at h⟩
theorem Nods.nod (h : Nods w lo hi A n c l) {k : Nat} (hk : k < n) :
    ∃ b off x A' m d, A = some ⟨b, off, none⟩ ∧ lo ≤ b ∧ b < hi ∧ l[k]? = some x ∧ w.cell? ⟨b, off + k * 3, none⟩ = some (.int .i64 x.id) ∧ w.cell? ⟨b, off + k * 3 + 1, none⟩ = some (.slice A' m d) ∧
      w.cell? ⟨b, off + k * 3 + 2, none⟩ = some (.int .i64 x.done) ∧ Flat Upd.enc 2 w lo hi A' m d x.log := by
  have hlen := h.len
  obtain ⟨rs, hf, hl, hr⟩ := h
  obtain ⟨b, off, r, e, h1, h2, hx, hc⟩ := hf.at_ hk
  have hx' : l[k]? = some (l[k]'(by omega)) := List.getElem?_eq_getElem _
  obtain ⟨ei, ed, fl⟩ := hr k r _ hx hx'
  refine ⟨b, off, _, r.A, r.n, r.c, e, h1, h2, hx', ?_, hc 1 _ rfl, ?_, fl⟩
  · rw [← ei]; exact hc 0 _ rfl
  · rw [← ed]; exact hc 2 _ rfl
end
def ChnIn (w : World) (A : Option Addr) (n c : Nat) (l : List Nod) : Prop := Nods w 0 w.heap.size A n c l ∧ n ≤ 1048576 ∧ ∀ x ∈ l, x.log.length ≤ 1048576
theorem ChnIn.below {w w' : World} {n c : Nat} {A : Option Addr} {l : List Nod} (h : ChnIn w A n c l) (hb : Below w.heap.size w w') : ChnIn w' A n c l :=
  ⟨(h.1.below hb (Nat.le_refl _)).mono (Nat.zero_le _) hb.size, h.2⟩
def NodRowAt (w : World) (lo hi : Nat) (v : Value) (l : List Nod) (rs : List RN) : Prop :=
  w.ownsRow lo 78 3 v l.length (rs.flatMap RN.enc) ∧ (∀ g, v.ownBlock = some g → g < hi) ∧ rs.length = l.length ∧
    (∀ (i : Nat) (r : RN) (x : Nod), rs[i]? = some r → l[i]? = some x → r.id = x.id ∧ r.done = x.done ∧ x.log.length = r.n ∧ w.ownsRow lo 28 2 (.slice r.A r.n r.c) r.n (x.log.flatMap Upd.enc) ∧ ∀ g, (Value.slice r.A r.n r.c).ownBlock = some g → g < hi) ∧
    (∀ (i j : Nat) (r s : RN) (g : Nat), rs[i]? = some r → rs[j]? = some s → i < j → (Value.slice r.A r.n r.c).ownBlock = some g → (Value.slice s.A s.n s.c).ownBlock ≠ some g)
def NodRow (w : World) (lo hi : Nat) (v : Value) (l : List Nod) : Prop := ∃ rs : List RN, NodRowAt w lo hi v l rs
theorem own_blk {W : World} {lo n sz : Nat} {e : TypeId} {v : Value} {xs : List Value} {g : Nat} (h : W.ownsRow lo e sz v n xs) (hg : v.ownBlock = some g) : ∃ cs, W.heap[g]? = some (.cells cs e (0, 0)) := by
  rcases h.2 with ⟨hv, _⟩ | ⟨g', cap, cur, hv, _, hb, _⟩
  · subst hv; cases hg
  · subst hv
    have : g' = g := by simpa [Value.ownBlock] using hg
    subst this; exact ⟨cur, hb⟩
theorem own_part {W : World} {lo lo' n n' sz sz' : Nat} {e e' : TypeId} {v v' : Value} {xs xs' : List Value} (h : W.ownsRow lo e sz v n xs) (h' : W.ownsRow lo' e' sz' v' n' xs') (he : e ≠ e') {g : Nat} (hg : v.ownBlock = some g) : v'.ownBlock ≠ some g := by
  intro hg'
  obtain ⟨cs, h1⟩ := own_blk h hg
  obtain ⟨cs', h2⟩ := own_blk h' hg'
  rw [h1] at h2; injection h2 with h2; injection h2 with _ h2; exact he h2
theorem own_keep {W W' : World} {lo n sz : Nat} {e : TypeId} {v : Value} {xs : List Value} (h : W.ownsRow lo e sz v n xs) (hk : ∀ g, v.ownBlock = some g → W'.heap[g]? = W.heap[g]?) : W'.ownsRow lo e sz v n xs := by
  refine ⟨h.1, ?_⟩
  rcases h.2 with hn | ⟨g, cap, cur, rfl, hb, hgg, rest⟩
  · exact .inl hn
  · exact .inr ⟨g, cap, cur, rfl, hb, by rw [hk g rfl]; exact hgg, rest⟩
theorem own_read {α : Type} {enc : α → List Value} {sz : Nat} (hs : ∀ x, (enc x).length = sz) {w : World} {lo hi : Nat} {e : TypeId} {A : Option Addr} {c n : Nat} {l : List α}
    (h : w.ownsRow lo e sz (.slice A n c) n (l.flatMap enc)) (hn : l.length = n) (hhi : ∀ g, (Value.slice A n c).ownBlock = some g → g < hi) : Flat enc sz w lo hi A n c l := by
  obtain ⟨h1, h2, h3, h4⟩ := own_flat' hs h hn
  refine ⟨h1, h2, h3, fun hn => ?_⟩
  obtain ⟨b, off, e, hb1, hb2, hc⟩ := h4 hn
  exact ⟨b, off, e, hb1, hhi b (by rw [e]; rfl), hc⟩
section
variable {w w' : World} {lo hi : Nat} {v : Value} {l : List Nod}
theorem NodRow.keep (h : NodRow w lo hi v l) (hk : ∀ k, lo ≤ k → k < hi → w'.heap[k]? = w.heap[k]?) : NodRow w' lo hi v l := by
  obtain ⟨rs, ho, hv, hl, hr, hd⟩ := h
  refine ⟨rs, own_keep ho (fun g e => hk g (ho.lt g e).1 (hv g e)), hv, hl, fun i r x h1 h2 => ?_, hd⟩
  obtain ⟨a, b, c, d, f⟩ := hr i r x h1 h2
  exact ⟨a, b, c, own_keep d (fun g e => hk g (d.lt g e).1 (f g e)), f⟩
theorem NodRow.below {B : Nat} (h : NodRow w lo hi v l) (hb : Below B w w') (hB : hi ≤ B) : NodRow w' lo hi v l := h.keep fun k _ hk => hb.block k (by omega)
theorem NodRow.mono {hi' : Nat} (h : NodRow w lo hi v l) (h2 : hi ≤ hi') : NodRow w lo hi' v l := by
  obtain ⟨rs, ho, hv, hl, hr, hd⟩ := h
  exact ⟨rs, ho, fun g e => Nat.lt_of_lt_of_le (hv g e) h2, hl, fun i r x h1 h2 => by obtain ⟨a, b, c, d, f⟩ := hr i r x h1 h2; exact ⟨a, b, c, d, fun g e => Nat.lt_of_lt_of_le (f g e) (by assumption)⟩, hd⟩
theorem NodRow.lower {lo' : Nat} (h : NodRow w lo hi v l) (hl' : lo' ≤ lo) : NodRow w lo' hi v l := by
  obtain ⟨rs, ho, hv, hl, hr, hd⟩ := h
  have low : ∀ {e : TypeId} {sz n : Nat} {v : Value} {xs : List Value}, w.ownsRow lo e sz v n xs → w.ownsRow lo' e sz v n xs := fun hh => by
    refine ⟨hh.1, ?_⟩
    rcases hh.2 with h1 | ⟨g, cap, cur, e1, hb, rest⟩
    · exact .inl h1
    · exact .inr ⟨g, cap, cur, e1, Nat.le_trans hl' hb, rest⟩
  exact ⟨rs, low ho, hv, hl, fun i r x h1 h2 => by obtain ⟨a, b, c, d, f⟩ := hr i r x h1 h2; exact ⟨a, b, c, low d, f⟩, hd⟩
theorem NodRow.nods (h : NodRow w lo hi v l) : ∃ A c, v = .slice A l.length c ∧ Nods w lo hi A l.length c l := by
  obtain ⟨rs, ho, hv, hl, hr, hd⟩ := h
  obtain ⟨A, c, rfl, _⟩ := own_flat RN.len ho hl
  refine ⟨A, c, rfl, rs, own_read RN.len ho hl hv, hl, fun i r x h1 h2 => ?_⟩
  obtain ⟨a, b, c, d, f⟩ := hr i r x h1 h2
  exact ⟨a, b, own_read Upd.len d c f⟩
theorem NodRow.nods' {A : Option Addr} {n c : Nat} (h : NodRow w lo hi (.slice A n c) l) : n = l.length ∧ Nods w lo hi A n c l := by
  obtain ⟨A', c', e, hn⟩ := h.nods
  injection e with e1 e2 e3
  subst e1; subst e2; subst e3; exact ⟨rfl, hn⟩
theorem NodRow.nil_ (w : World) (lo hi : Nat) : NodRow w lo hi (.slice none 0 0) [] :=
  ⟨[], World.ownsRow_nil w lo _ _, fun g e => by simp [Value.ownBlock] at e, rfl, fun i r x h => by simp at h, fun i j r s g h => by simp at h⟩
theorem NodRow.block (h : NodRow w lo hi v l) {g : Nat} (hg : v.ownBlock = some g) : lo ≤ g ∧ g < w.heap.size := by obtain ⟨rs, ho, _⟩ := h; exact ho.lt g hg
theorem NodRowAt.appended {hi' : Nat} {v' : Value} {x : Nod} {r : RN} {o : Obj} {rs : List RN} (h : NodRowAt w lo hi v l rs) (hr : r.id = x.id ∧ r.done = x.done ∧ x.log.length = r.n)
    (hlog : w.ownsRow lo 28 2 (.slice r.A r.n r.c) r.n (x.log.flatMap Upd.enc)) (hnew : ∀ g, (Value.slice r.A r.n r.c).ownBlock = some g → hi ≤ g) (hhi : w'.heap.size ≤ hi') (hsz : hi ≤ w.heap.size)
    (ho' : w'.ownsRow lo 78 3 v' (l.length + 1) (rs.flatMap RN.enc ++ r.enc)) (hg : (w.alloc o).grownBy w' v.ownBlock) :
    NodRow w' lo hi' v' (l ++ [x]) := by
  obtain ⟨ho, hv, hl, hrs, hd⟩ := h
  have hgs : w.heap.size ≤ w'.heap.size := Nat.le_trans (by simp) hg.size
  have hk : ∀ g, g < w.heap.size → v.ownBlock ≠ some g → w'.heap[g]? = w.heap[g]? := fun g h1 h2 => (hg.block g (by simp; omega) (fun e => h2 e.symm)).trans (Below.heap_alloc _ _ _ h1)
  have keepLog : ∀ {A : Option Addr} {n c : Nat} {xs : List Value}, w.ownsRow lo 28 2 (.slice A n c) n xs → w'.ownsRow lo 28 2 (.slice A n c) n xs := fun hh =>
    own_keep hh fun g e => hk g (hh.lt g e).2 (own_part hh ho (by decide) e)
  refine ⟨rs ++ [r], ?_, fun g e => ?_, by simp [hl], ?_, ?_⟩
  · rw [List.length_append, List.flatMap_append]; simpa using ho'
  · have := (ho'.lt g e).2; omega
  · intro i r' x' h1 h2
    rw [List.getElem?_append] at h1 h2
    by_cases hi1 : i < rs.length
    · rw [if_pos hi1] at h1
      rw [if_pos (by omega)] at h2
      obtain ⟨a, b, c, d, f⟩ := hrs i r' x' h1 h2
      exact ⟨a, b, c, keepLog d, fun g e => by have := f g e; omega⟩
    · rw [if_neg hi1] at h1
      rw [if_neg (by omega)] at h2
      have e0 : i - rs.length = 0 := by
        have := (List.getElem?_eq_some_iff.1 h1).1
        simp at this; omega
      rw [e0] at h1
      rw [← hl, e0] at h2
      simp at h1 h2
      subst h1; subst h2
      exact ⟨hr.1, hr.2.1, hr.2.2, keepLog hlog, fun g e => by have := (hlog.lt g e).2; omega⟩
  · intro i j r1 r2 g h1 h2 hij e1 e2
    rw [List.getElem?_append] at h1 h2
    by_cases hj : j < rs.length
    · rw [if_pos (by omega)] at h1
      rw [if_pos hj] at h2
      exact hd i j r1 r2 g h1 h2 hij e1 e2
    · rw [if_neg hj] at h2
      have e0 : j - rs.length = 0 := by
        have := (List.getElem?_eq_some_iff.1 h2).1
        simp at this; omega
      rw [e0] at h2
      simp at h2
      subst h2
      rw [if_pos (by omega)] at h1
      have hx : ∃ x', l[i]? = some x' := ⟨l[i]'(by omega), List.getElem?_eq_getElem _⟩
      obtain ⟨x', hx'⟩ := hx
      have := (hrs i r1 x' h1 hx').2.2.2.2 g e1
      have := hnew g e2
      omega
end
end Go.Proofs.YtemgilofjbnoaaaGreatDoor
namespace Go.Proofs.YtemgilofjbnoaaaGreatDoor
open Go.RowKit
theorem copy_rows {P : Program} (w : World) (dT sT ty elem : TypeId) (g n dc sc sz : Nat) (A : Option Addr) (cur : Array Value) (t : TypeId) (news : List Value)
    (hu : P.underlying dT = some (.slice elem)) (hs : (P.info? elem).map (·.size) = some sz) (hg : w.heap[g]? = some (.cells cur t (0, 0))) (hcs : cur.size = n * sz) (hsrc : Src w sz A n news) (h1 : ∀ v ∈ news, v.oneCell' = true) :
    (Builtin.copy_ #[dT, sT] ty #[.slice (some ⟨g, 0, none⟩) n dc, .slice A n sc]).run P w = .ok (goInt n) (w.setRow g news.toArray) := by
  obtain ⟨hl, hn, hc⟩ := hsrc
  cases hq : P.info? elem with
  | none => simp [hq] at hs
  | some i =>
    have hi : i.size = sz := by simpa [hq] using hs
    have hst := run_storeCells_at P g 0 t news 0 cur w hg (by simp; omega) h1
    have he : (cur.toList.take (0 + 0) ++ news ++ cur.toList.drop (0 + 0 + news.length)).toArray = news.toArray := by
      have hd : cur.toList.drop (0 + 0 + news.length) = [] := List.drop_eq_nil_of_le (by simp; omega)
      rw [hd]; simp
    rw [he] at hst
    rcases A with _ | ad
    · obtain rfl := hn rfl
      have hnil : news = [] := List.eq_nil_of_length_eq_zero (by simpa using hl)
      subst hnil
      simp [Builtin.copy_, run_underlying hu, Builtin.lenOf, Builtin.firstCells, sizeOf, typeInfo, hq, hst]
    · have hld := run_loadCells_list (P := P) w ad news (hc ad rfl)
      rw [hl] at hld
      simp [Builtin.copy_, run_underlying hu, Builtin.lenOf, Builtin.firstCells, sizeOf, typeInfo, hq, hi, hld, hst]
theorem wpList_copy_rows {P : Program} {w : World} {ops : Array Oper} {rest : List Oper} {o : Oper} {a : Act} {Q : Exit → Act → World → Prop} (hgd : o.guard = none) (d s : Operand) (dT sT : TypeId)
    (ho : o.op = .call { callee := .builtin .copy, args := #[d, s], argTypes := #[dT, sT] }) (elem : TypeId) (hu : P.underlying dT = some (.slice elem)) (sz : Nat) (hs : (P.info? elem).map (·.size) = some sz)
    (g n dc sc : Nat) (A : Option Addr) (hd : a.eval d = .slice (some ⟨g, 0, none⟩) n dc) (hx : a.eval s = .slice A n sc) (cur : Array Value) (hg : w.heap[g]? = some (.cells cur elem (0, 0))) (hcs : cur.size = n * sz)
    (news : List Value) (hsrc : Src w sz A n news) (h1 : ∀ v ∈ news, v.oneCell' = true) (hn : n ≤ maxLen) (B lo : Nat) (w0 : World) (hb : Below B w0 w) (hBg : B ≤ g) (hlo : lo ≤ g)
    (h : ∀ w', Hid (w'.ownsRow lo elem sz (.slice (some ⟨g, 0, none⟩) n n) n news) → Below B w0 w' → wpList P ops Q rest (a.put o.dst (goInt n)) w') : wpList P ops Q (o :: rest) a w := by
  refine wpList_plain hgd fun K hK => ?_
  have hrun := copy_rows (P := P) w dT sT o.type elem g n dc sc sz A cur elem news hu hs hg hcs hsrc h1
  unfold Oper.wp
  simp only [execOp, ho, resolve, invoke, builtin, Sem.run_bind, Sem.run_pure, Result.andThen_ok, List.map_toArray, List.map_cons, List.map_nil, hd, hx, hrun]
  refine hK _ _ (h _ ?_ (below_setRow hb hBg _))
  have hl : news.length = n * sz := hsrc.1
  refine ⟨hl, .inr ⟨g, n, news.toArray, rfl, hlo, setRow_heap w g cur _ elem _ hg, Nat.le_refl _, hn, by simp [hl], ?_⟩⟩
  rw [← hl]; simp
end Go.Proofs.YtemgilofjbnoaaaGreatDoor
namespace Go.Proofs.YtemgilofjbnoaaaGreatDoor
open Go.RowKit
theorem infoUpd : (Mo.prog.info? 28).map (fun i => (i.zero, i.size, i.bytes)) = some (some (.agg #[.int .i64 0, .int .i64 0]), 2, 16) := by kernel_rfl
theorem sizeUpd : (Mo.prog.info? 28).map (·.size) = some 2 := by kernel_rfl
theorem all_upd_succ {l : List Upd} {k : Nat} {u : Upd} (h : (l.take k).all (fun u => updOk u.key u.value) = true) (hu : l[k]? = some u) (ho : updOk u.key u.value = true) : (l.take (k + 1)).all (fun u => updOk u.key u.value) = true := by
  have hk := (List.getElem?_eq_some_iff.1 hu).1
  have e : l[k] = u := by rw [List.getElem?_eq_getElem hk] at hu; injection hu
  rw [List.take_succ_eq_append_getElem hk, List.all_append, h, e]; simp [ho]
theorem all_upd_false {l : List Upd} {k : Nat} {u : Upd} (hu : l[k]? = some u) (ho : updOk u.key u.value = false) : logOk l = false := by
  have : (l.all fun u => updOk u.key u.value) = false := by rw [List.all_eq_false]; exact ⟨u, List.mem_of_getElem? hu, by simp [ho]⟩
  unfold logOk; rw [this]; simp
theorem all_upd_end {l : List Upd} {n : Nat} (hl : l.length = n) (h : (l.take n).all (fun u => updOk u.key u.value) = true) : logOk l = decide (n ≤ 12) := by
  rw [List.take_of_length_le (by omega)] at h
  unfold logOk; rw [h, hl]; simp
def LogCopied (w : World) (n : Nat) (l : List Upd) (e : Ending) (w' : World) : Prop :=
  e = .returned (.slice (some ⟨w.heap.size, 0, none⟩) n n) ∧ w'.ownsRow w.heap.size 28 2 (.slice (some ⟨w.heap.size, 0, none⟩) n n) n (l.flatMap Upd.enc) ∧ Below w.heap.size w w'
set_option maxHeartbeats 1000000 in
theorem copyLog_any (A : Option Addr) (n c : Nat) (l : List Upd) (w : World) (h : Flat Upd.enc 2 w 0 w.heap.size A n c l) (hn : n ≤ 1048576) :
    Calls Mo.prog 93 #[.slice A n c] w (LogCopied w n l) := by
  have hlen := h.len
  obtain ⟨i0, hi, hz0, hz1, hz2⟩ := info_parts infoUpd
  have hmk := fun W => make_rows (P := Mo.prog) 76 28 i0 _ Mo.underlying76 hi hz0 n (by rw [hz2]; omega) (by omega) W
  rw [hz1] at hmk
  have H := Lib.hid h
  have HL := Lib.hid hlen
  clear h hlen hi hz0 hz1 hz2
  obtain ⟨Z, hZ⟩ : ∃ Z, Z = madeCells (Value.agg #[.int .i64 0, .int .i64 0]).cells (n * 2) := ⟨_, rfl⟩
  rw [← hZ] at hmk
  have hZs : Z.size = n * 2 := by rw [hZ]; exact size_madeCells _ _
  have HZ := Lib.hid hZs
  clear hZs hZ
  have hb0 : Below w.heap.size w (w.alloc (.cells Z 28)) := (Below.refl _ _).alloc (Nat.le_refl _) _
  have S := Lib.hid (flat_src Upd.len (by omega) (H.out.below hb0 (Nat.le_refl _)))
  have HB0 := Lib.hid hb0
  clear hb0
  go_enter Mo.func93, Tryz.ntmps93
  go_wp2_with (with_reducible refine wpList_copy_rows rfl _ _ 76 76 rfl 28 Mo.underlying76 2 sizeUpd w.heap.size n n c A rfl rfl Z (heap_alloc_new _ _) HZ.out _ S.out (one_enc Upd.one _) (by unfold maxLen; omega) w.heap.size w.heap.size w HB0.out (Nat.le_refl _) (Nat.le_refl _) ?_; intro w2 hown2 hb2; have B2 := Lib.hid hb2; clear hb2)
  go_ret
  exact ⟨rfl, hown2.out, B2.out⟩
set_option maxHeartbeats 1000000 in
theorem logValid_any (A : Option Addr) (n c : Nat) (l : List Upd) (w : World) (h : Flat Upd.enc 2 w 0 w.heap.size A n c l) (hn : n ≤ 1048576) :
    Calls Mo.prog 90 #[.slice A n c] w fun e w' => e = .returned (.bool (logOk l)) ∧ Below w.heap.size w w' := by
  have HL := Lib.hid h.len
  have H := Lib.hid h
  clear h
  by_cases h12 : n ≤ 12
  case neg =>
    go_enter Mo.func90, Tryz.ntmps90
    go_wp2
    go_ret
    exact ⟨ret_bool (by unfold logOk; rw [HL.out]; simp [h12]), Below.refl _ _⟩
  case pos =>
  go_enter Mo.func90, Tryz.ntmps90
  go_wp2
  go_loopw [10] (fun i wr => ∃ k : Nat, k ≤ n ∧ i = .int .i64 k ∧ Hid ((l.take k).all (fun u => updOk u.key u.value) = true) ∧ Below w.heap.size w wr)
    (fun i _ => n - (intOf i).toNat)
  case atStart => exact ⟨0, Nat.zero_le _, rfl, rfl, Below.refl _ _⟩
  case round =>
    obtain ⟨k, hk, rfl, hall, hB⟩ := hrel
    have HW := Lib.hid (H.out.below hB (Nat.le_refl _))
    have HB := Lib.hid hB
    have hsz := hB.size
    clear hB H
    by_cases hlt : k < n
    · obtain ⟨b, off, u, rfl, _, hbB, hu, c0, c1⟩ := HW.out.upd hlt
      have Hu := Lib.hid hu
      clear hu
      cases hok : updOk u.key u.value
      all_goals
        go_wp2_with (go_at_call 92; refine (updValid_any _ _ _).mono ?_; rintro e w1 ⟨rfl, hb1⟩; have B1 := Lib.hid hb1; clear hb1)
      · go_ret
        exact ⟨ret_bool (all_upd_false Hu.out hok).symm, (HB.out.alloc hsz _).trans (B1.out.mono (by simp; omega))⟩
      · go_roundw
        case rel => exact ⟨k + 1, by omega, by go_num, all_upd_succ hall.out Hu.out hok, (HB.out.alloc hsz _).trans (B1.out.mono (by simp; omega))⟩
        case measure => simp [intOf]; omega
    · obtain rfl : n = k := by omega
      go_wp2
      go_ret
      exact ⟨ret_bool (by rw [all_upd_end HL.out hall.out]; simp [h12]), HB.out⟩
set_option maxHeartbeats 1000000 in
theorem specLogValid_any (A : Option Addr) (n c : Nat) (l : List Upd) (w : World) (h : Flat Upd.enc 2 w 0 w.heap.size A n c l) (hn : n ≤ 1048576) :
    Calls Mo.prog 61 #[.slice A n c] w fun e w' => e = .returned (.bool (logOk l)) ∧ Below w.heap.size w w' := by
  have HL := Lib.hid h.len
  have H := Lib.hid h
  clear h
  go_enter Mo.func61, Tryz.ntmps61
  go_wp2
  go_loopw [3] (fun i wr => ∃ k : Nat, k ≤ n ∧ i = .int .i64 k ∧ Hid ((l.take k).all (fun u => updOk u.key u.value) = true) ∧ Below w.heap.size w wr)
    (fun i _ => n - (intOf i).toNat)
  case atStart => exact ⟨0, Nat.zero_le _, rfl, rfl, Below.refl _ _⟩
  case round =>
    obtain ⟨k, hk, rfl, hall, hB⟩ := hrel
    have HW := Lib.hid (H.out.below hB (Nat.le_refl _))
    have HB := Lib.hid hB
    have hsz := hB.size
    clear hB H
    by_cases hlt : k < n
    · obtain ⟨b, off, u, rfl, _, hbB, hu, c0, c1⟩ := HW.out.upd hlt
      have Hu := Lib.hid hu
      clear hu
      cases hok : updOk u.key u.value
      all_goals
        go_wp2_with (go_at_call 73; refine (specUpdateValid_any _ _ _).mono ?_; rintro e w1 ⟨rfl, hb1⟩; have B1 := Lib.hid hb1; clear hb1)
      · go_ret
        exact ⟨ret_bool (all_upd_false Hu.out hok).symm, HB.out.trans (B1.out.mono hsz)⟩
      · go_roundw
        case rel => exact ⟨k + 1, by omega, by go_num, all_upd_succ hall.out Hu.out hok, HB.out.trans (B1.out.mono hsz)⟩
        case measure => simp [intOf]; omega
    · obtain rfl : n = k := by omega
      go_wp2
      go_ret
      exact ⟨ret_bool (by rw [all_upd_end HL.out hall.out, Bool.eq_iff_iff]; simp; omega), HB.out⟩
end Go.Proofs.YtemgilofjbnoaaaGreatDoor
namespace Go.Proofs.YtemgilofjbnoaaaGreatDoor
open Go.RowKit
theorem World.cell?_alloc_new' (w : World) (cs : Array Value) (t : TypeId) (fr : Nat × Nat) (i : Nat) : (w.alloc (.cells cs t fr)).cell? ⟨w.heap.size, i, none⟩ = cs[i]? := by
  have h := heap_alloc_new w (.cells cs t fr)
  simp only [World.cell?, h]; rfl
theorem World.cell?_alloc_box (w : World) (cs ds : Array Value) (t u : TypeId) (i : Nat) : ((w.alloc (.cells cs t)).alloc (.cells ds u)).drew.cell? ⟨w.heap.size, i, none⟩ = cs[i]? :=
  (World.cell?_of_block (w := w.alloc (.cells cs t)) (a := ⟨w.heap.size, i, none⟩) (Below.heap_alloc _ _ _ (by simp))).trans (World.cell?_alloc_new' w cs t _ i)
theorem World.cell?_alloc_top (w : World) (cs ds : Array Value) (t u : TypeId) (i : Nat) : ((w.alloc (.cells cs t)).alloc (.cells ds u)).drew.cell? ⟨w.heap.size + 1, i, none⟩ = ds[i]? := by
  have := World.cell?_alloc_new' (w.alloc (.cells cs t)) ds u (0, 0) i
  rwa [show (w.alloc (.cells cs t)).heap.size = w.heap.size + 1 from by simp] at this
theorem World.frozen?_alloc_top (w : World) (cs ds : Array Value) (t u : TypeId) (i : Nat) : ((w.alloc (.cells cs t)).alloc (.cells ds u)).drew.frozen? ⟨w.heap.size + 1, i, none⟩ = false := by
  have h := heap_alloc_new (w.alloc (.cells cs t)) (.cells ds u)
  rw [show (w.alloc (.cells cs t)).heap.size = w.heap.size + 1 from by simp] at h
  exact row_free (w := ((w.alloc (.cells cs t)).alloc (.cells ds u)).drew) h i
theorem three_stores (w : World) (g : Nat) {a b c : Value} (h0 : w.cell? ⟨g, 0, none⟩ = some a) (h1 : w.cell? ⟨g, 1, none⟩ = some b) (h2 : w.cell? ⟨g, 2, none⟩ = some c) :
    (∀ u, (w.setCell ⟨g, 0, none⟩ u).cell? ⟨g, 0, none⟩ = some u) ∧ (∀ u v, ((w.setCell ⟨g, 0, none⟩ u).setCell ⟨g, 1, none⟩ v).cell? ⟨g, 1, none⟩ = some v) ∧
    (∀ u v x, (((w.setCell ⟨g, 0, none⟩ u).setCell ⟨g, 1, none⟩ v).setCell ⟨g, 2, none⟩ x).cell? ⟨g, 2, none⟩ = some x) := by
  refine ⟨fun u => World.cell?_setCell_same' _ _ _ (by rw [h0]; rfl), fun u v => World.cell?_setCell_same' _ _ _ ?_, fun u v x => World.cell?_setCell_same' _ _ _ ?_⟩
  · rw [World.cell?_setCell_other _ _ _ _ (by simp), h1]; rfl
  · rw [World.cell?_setCell_other _ _ _ _ (by simp), World.cell?_setCell_other _ _ _ _ (by simp), h2]; rfl
theorem box_cell {w w1 : World} {cs : Array Value} {t : TypeId} {fr : Nat × Nat} (hb : Below (w.alloc (.cells cs t fr)).heap.size (w.alloc (.cells cs t fr)) w1) {i : Nat} {v : Value} (h : cs[i]? = some v) : w1.cell? ⟨w.heap.size, i, none⟩ = some v :=
  (hb.cell (p := ⟨w.heap.size, i, none⟩) (by simp)).trans ((World.cell?_alloc_new' w cs t fr i).trans h)
theorem Flat.box {α : Type} {enc : α → List Value} {sz : Nat} {w : World} {n c : Nat} {A : Option Addr} {l : List α} (h : Flat enc sz w 0 w.heap.size A n c l) (o : Obj) : Flat enc sz (w.alloc o) 0 (w.alloc o).heap.size A n c l :=
  (h.below ((Below.refl _ _).alloc (Nat.le_refl _) _) (Nat.le_refl _)).mono (Nat.zero_le _) (by simp)
theorem Flat.on {α : Type} {enc : α → List Value} {sz : Nat} {w w' : World} {n c : Nat} {A : Option Addr} {l : List α} (h : Flat enc sz w 0 w.heap.size A n c l) (hb : Below w.heap.size w w') : Flat enc sz w' 0 w'.heap.size A n c l :=
  (h.below hb (Nat.le_refl _)).mono (Nat.zero_le _) hb.size
theorem below_box {w w1 : World} {o : Obj} (hb : Below (w.alloc o).heap.size (w.alloc o) w1) : Below w.heap.size w w1 := ((Below.refl _ _).alloc (Nat.le_refl _) _).trans (hb.mono (by simp))
set_option maxHeartbeats 400000 in
theorem idValid_any (n : Int) (w : World) :
    Calls Mo.prog 89 #[.int .i64 n] w fun e w' => e = .returned (.bool (inB n 1 99)) ∧ w = w' := by
  go_enter Mo.func89, Tryz.ntmps89
  go_wp2
  all_goals go_ret
  all_goals exact ⟨ret_bool (by rw [Bool.eq_iff_iff]; simp [inB]; try omega), rfl⟩
def Nod.val (x : Nod) (A : Option Addr) (n c : Nat) : Value := .agg #[.int .i64 x.id, .slice A n c, .int .i64 x.done]
set_option maxHeartbeats 1000000 in
theorem nodeValid_any (x : Nod) (A : Option Addr) (n c : Nat) (w : World) (h : Flat Upd.enc 2 w 0 w.heap.size A n c x.log) (hn : n ≤ 1048576) :
    Calls Mo.prog 62 #[.agg #[.int .i64 x.id, .slice A n c, .int .i64 x.done]] w fun e w' => e = .returned (.bool (nodeOk x)) ∧ Below w.heap.size w w' := by
  have HL := Lib.hid h.len
  have H := Lib.hid h
  clear h
  cases hid : inB x.id 1 99
  · go_enter Mo.func62, Tryz.ntmps62
    go_wp2_with (go_at_call 89; refine (idValid_any _ _).mono ?_; rintro e w' ⟨rfl, rfl⟩)
    go_ret
    exact ⟨ret_bool (by simp [nodeOk, hid]), (Below.refl _ _).alloc (Nat.le_refl _) _⟩
  cases hlog : logOk x.log
  · go_enter Mo.func62, Tryz.ntmps62
    go_wp2_with (first | (go_at_call 89; refine (idValid_any _ _).mono ?_; rintro e w' ⟨rfl, rfl⟩) | (go_at_call 90; refine (logValid_any _ _ _ x.log _ (H.out.box _) hn).mono ?_; rintro e w1 ⟨rfl, hb1⟩; have B1 := Lib.hid hb1; clear hb1))
    go_ret
    exact ⟨ret_bool (by simp [nodeOk, hid, hlog]), below_box B1.out⟩
  by_cases h0 : 0 ≤ x.done
  case neg =>
    go_enter Mo.func62, Tryz.ntmps62
    go_wp2_with (first | (go_at_call 89; refine (idValid_any _ _).mono ?_; rintro e w' ⟨rfl, rfl⟩) | (go_at_call 90; refine (logValid_any _ _ _ x.log _ (H.out.box _) hn).mono ?_; rintro e w1 ⟨rfl, hb1⟩; have B1 := Lib.hid hb1; have q2 := box_cell (i := 2) hb1 rfl; clear hb1))
    go_ret
    exact ⟨ret_bool (by simp [nodeOk, inB]; omega), below_box B1.out⟩
  case pos =>
  go_enter Mo.func62, Tryz.ntmps62
  go_wp2_with (first | (go_at_call 89; refine (idValid_any _ _).mono ?_; rintro e w' ⟨rfl, rfl⟩) | (go_at_call 90; refine (logValid_any _ _ _ x.log _ (H.out.box _) hn).mono ?_; rintro e w1 ⟨rfl, hb1⟩; have B1 := Lib.hid hb1; have q1 := box_cell (i := 1) hb1 rfl; have q2 := box_cell (i := 2) hb1 rfl; clear hb1))
  go_ret
  exact ⟨ret_bool (by rw [nodeOk, hid, hlog, Bool.eq_iff_iff]; have := HL.out; simp [inB]; omega), below_box B1.out⟩
set_option maxHeartbeats 1000000 in
theorem specNodeValid_any (x : Nod) (A : Option Addr) (n c : Nat) (w : World) (h : Flat Upd.enc 2 w 0 w.heap.size A n c x.log) (hn : n ≤ 1048576) :
    Calls Mo.prog 69 #[.agg #[.int .i64 x.id, .slice A n c, .int .i64 x.done]] w fun e w' => e = .returned (.bool (nodeOk x)) ∧ Below w.heap.size w w' := by
  have HL := Lib.hid h.len
  have H := Lib.hid h
  clear h
  cases hid : inB x.id 1 99
  · go_enter Mo.func69, Tryz.ntmps69
    go_wp2_with (go_at_call 72; refine (l6In_any _ _ _ _).mono ?_; rintro e w' ⟨rfl, rfl⟩)
    go_ret
    exact ⟨ret_bool (by simp [nodeOk, hid]), (Below.refl _ _).alloc (Nat.le_refl _) _⟩
  cases hlog : logOk x.log
  · go_enter Mo.func69, Tryz.ntmps69
    go_wp2_with (first | (go_at_call 72; refine (l6In_any _ _ _ _).mono ?_; rintro e w' ⟨rfl, rfl⟩) | (go_at_call 61; refine (specLogValid_any _ _ _ x.log _ (H.out.box _) hn).mono ?_; rintro e w1 ⟨rfl, hb1⟩; have B1 := Lib.hid hb1; clear hb1))
    go_ret
    exact ⟨ret_bool (by simp [nodeOk, hid, hlog]), below_box B1.out⟩
  go_enter Mo.func69, Tryz.ntmps69
  go_wp2_with (first | (go_at_call 72; refine (l6In_any _ _ _ _).mono ?_; rintro e w' ⟨rfl, rfl⟩) | (go_at_call 61; refine (specLogValid_any _ _ _ x.log _ (H.out.box _) hn).mono ?_; rintro e w1 ⟨rfl, hb1⟩; have B1 := Lib.hid hb1; have q1 := box_cell (i := 1) hb1 rfl; have q2 := box_cell (i := 2) hb1 rfl; clear hb1))
  go_ret
  exact ⟨ret_bool (by have := HL.out; simp [nodeOk, hid, hlog, this]), below_box B1.out⟩
def NodeCopied (w : World) (x : Nod) (n : Nat) (e : Ending) (w' : World) : Prop :=
  ∃ g, e = .returned (.agg #[.int .i64 x.id, .slice (some ⟨g, 0, none⟩) n n, .int .i64 x.done]) ∧ w'.ownsRow w.heap.size 28 2 (.slice (some ⟨g, 0, none⟩) n n) n (x.log.flatMap Upd.enc) ∧ Below w.heap.size w w'
set_option maxHeartbeats 2000000 in
theorem copyNode_any (x : Nod) (A : Option Addr) (n c : Nat) (w : World) (h : Flat Upd.enc 2 w 0 w.heap.size A n c x.log) (hn : n ≤ 1048576) :
    Calls Mo.prog 66 #[.agg #[.int .i64 x.id, .slice A n c, .int .i64 x.done]] w (NodeCopied w x n) := by
  have HL := Lib.hid h.len
  have H := Lib.hid h
  clear h
  go_enter Mo.func66, Tryz.ntmps66
  go_wp2_with fail
  have F2 := Lib.hid (((H.out.box (.cells #[.int .i64 x.id, .slice A n c, .int .i64 x.done] 78)).box (.cells #[.int .i64 0, .slice none 0 0, .int .i64 0] 78)).below (Below.refl (w.heap.size + 2) _).drew (by simp))
  go_region_held3 (fun w' => w'.cell? ⟨w.heap.size, 0, none⟩ = some (.int .i64 x.id) ∧ w'.cell? ⟨w.heap.size, 1, none⟩ = some (.slice A n c) ∧ w'.cell? ⟨w.heap.size, 2, none⟩ = some (.int .i64 x.done)) (go_keep)
    ((go_at_call 93; refine (copyLog_any A n c x.log _ F2.out hn).mono ?_; rintro e w1 ⟨rfl, hown1, hb1⟩; have O1 := Lib.hid hown1; have B1 := Lib.hid hb1; have q0 := (hb1.cell (p := ⟨w.heap.size, 0, none⟩) (by simp; omega)).trans (World.cell?_alloc_box w _ _ _ _ 0); have q1 := (hb1.cell (p := ⟨w.heap.size, 1, none⟩) (by simp; omega)).trans (World.cell?_alloc_box w _ _ _ _ 1); have q2 := (hb1.cell (p := ⟨w.heap.size, 2, none⟩) (by simp; omega)).trans (World.cell?_alloc_box w _ _ _ _ 2); have z0 := (hb1.cell (p := ⟨w.heap.size + 1, 0, none⟩) (by simp)).trans (World.cell?_alloc_top w _ _ _ _ 0); have z1 := (hb1.cell (p := ⟨w.heap.size + 1, 1, none⟩) (by simp)).trans (World.cell?_alloc_top w _ _ _ _ 1); have z2 := (hb1.cell (p := ⟨w.heap.size + 1, 2, none⟩) (by simp)).trans (World.cell?_alloc_top w _ _ _ _ 2); have y0 := (hb1.frozen (p := ⟨w.heap.size + 1, 0, none⟩) (by simp)).trans (World.frozen?_alloc_top w _ _ _ _ 0); have y1 := (hb1.frozen (p := ⟨w.heap.size + 1, 1, none⟩) (by simp)).trans (World.frozen?_alloc_top w _ _ _ _ 1); have y2 := (hb1.frozen (p := ⟨w.heap.size + 1, 2, none⟩) (by simp)).trans (World.frozen?_alloc_top w _ _ _ _ 2); clear hown1 hb1))
  go_wp2
  obtain ⟨e0, e1, e2⟩ := three_stores w1 (w.heap.size + 1) z0 z1 z2
  refine bodyPost_ret (v := .agg #[.int .i64 x.id, .slice (some ⟨w.heap.size + 1 + 1, 0, none⟩) n n, .int .i64 x.done]) (by simp [results, Tryz.results66, go_sem, e0, e1, e2]) rfl ⟨w.heap.size + 1 + 1, rfl, ?_, ?_⟩
  · have ho := O1.out
    simp only [World.size_drew, World.size_alloc] at ho
    exact own_keep (ho.mono (by omega)) (fun g hg => by
      have : w.heap.size + 1 + 1 = g := by simpa [Value.ownBlock] using hg
      rw [Below.heap_setCell _ _ _ _ (by show g ≠ w.heap.size + 1; omega), Below.heap_setCell _ _ _ _ (by show g ≠ w.heap.size + 1; omega), Below.heap_setCell _ _ _ _ (by show g ≠ w.heap.size + 1; omega)])
  · exact ((((((Below.refl _ _).alloc (Nat.le_refl _) _).alloc (by simp) _).drew).trans (B1.out.mono (by simp; omega))).setCell (by show w.heap.size ≤ w.heap.size + 1; omega) _ |>.setCell (by show w.heap.size ≤ w.heap.size + 1; omega) _ |>.setCell (by show w.heap.size ≤ w.heap.size + 1; omega) _)
end Go.Proofs.YtemgilofjbnoaaaGreatDoor
namespace Go.Proofs.YtemgilofjbnoaaaGreatDoor
open Go Go.RowKit
theorem brk_nods {W w : World} (hw : w.heap = (brk W).heap) {A : Option Addr} {n c : Nat} {l : List Nod} (h : Nods W 0 W.heap.size A n c l) : Nods w 0 w.heap.size A n c l := by
  obtain ⟨rs, h1, h2, h3⟩ := h
  exact ⟨rs, brk_flat hw h1, h2, fun i r x a b => ⟨(h3 i r x a b).1, (h3 i r x a b).2.1, brk_flat hw (h3 i r x a b).2.2⟩⟩
end Go.Proofs.YtemgilofjbnoaaaGreatDoor
namespace Go.Proofs.YtemgilofjbnoaaaGreatDoor
open Go.RowKit
def Blk (w : World) (b : Nat) (cs : Array Value) (t : TypeId) : Prop := w.heap[b]? = some (.cells cs t (0, 0))
section
variable {w w' : World} {b : Nat} {cs : Array Value} {t : TypeId}
theorem Blk.lt (h : Blk w b cs t) : b < w.heap.size := lt_of_block h
theorem Blk.cell (h : Blk w b cs t) {i : Nat} {v : Value} (hv : cs[i]? = some v) : w.cell? ⟨b, i, none⟩ = some v := by
  have h' : w.heap[b]? = some (.cells cs t (0, 0)) := h
  have e : w.cell? ⟨b, i, none⟩ = cs[i]? := by simp only [World.cell?, h']; rfl
  rw [e, hv]
theorem Blk.free (h : Blk w b cs t) (i : Nat) : w.frozen? ⟨b, i, none⟩ = false := row_free h i
theorem Blk.new (w : World) (cs : Array Value) (t : TypeId) : Blk (w.alloc (.cells cs t)) w.heap.size cs t := heap_alloc_new w _
theorem Blk.alloc (h : Blk w b cs t) (o : Obj) : Blk (w.alloc o) b cs t := (Below.heap_alloc _ _ _ h.lt).trans h
theorem Blk.grown {row : Option Nat} (h : Blk w b cs t) (hg : w.grownBy w' row) (hne : some b ≠ row) : Blk w' b cs t := (hg.block b h.lt hne).trans h
theorem Blk.pick {rb : Nat} (h : Blk w b cs t) (hg : w.grownBy w' (some rb)) (hne : b ≠ rb) : Blk w' b cs t := h.grown hg (fun e => hne (by injection e))
theorem Blk.below (h : Blk w b cs t) (hb : Below w.heap.size w w') : Blk w' b cs t := (hb.block b h.lt).trans h
theorem Blk.set (h : Blk w b cs t) (i : Nat) (v : Value) : Blk (w.setCell ⟨b, i, none⟩ v) b (cs.setIfInBounds i v) t := heap_setCell_at h v
theorem Blk.far (h : Blk w b cs t) {a : Addr} (ha : b ≠ a.block) (v : Value) : Blk (w.setCell a v) b cs t := (Below.heap_setCell _ _ _ _ ha).trans h
theorem Blk.drew (h : Blk w b cs t) : Blk w.drew b cs t := h
end
theorem two_stores (w : World) (g : Nat) {a b : Value} (h0 : w.cell? ⟨g, 0, none⟩ = some a) (h1 : w.cell? ⟨g, 1, none⟩ = some b) :
    (∀ u, (w.setCell ⟨g, 0, none⟩ u).cell? ⟨g, 0, none⟩ = some u) ∧ (∀ u v, ((w.setCell ⟨g, 0, none⟩ u).setCell ⟨g, 1, none⟩ v).cell? ⟨g, 1, none⟩ = some v) := by
  refine ⟨fun u => World.cell?_setCell_same' _ _ _ (by rw [h0]; rfl), fun u v => World.cell?_setCell_same' _ _ _ ?_⟩
  rw [World.cell?_setCell_other _ _ _ _ (by simp), h1]; rfl
theorem Rd.far {w : World} {rb B p : Nat} (h : Rd w rb B p) {a : Addr} (ha : rb < a.block) (v : Value) : Rd (w.setCell a v) rb B p := h.keep fun k hk => Below.heap_setCell _ _ _ _ (by omega)
theorem Rd.alloc {w : World} {rb B p : Nat} (h : Rd w rb B p) (o : Obj) : Rd (w.alloc o) rb B p := h.below ((Below.refl _ _).alloc (Nat.le_refl _) _)
end Go.Proofs.YtemgilofjbnoaaaGreatDoor
namespace Go.Proofs.YtemgilofjbnoaaaGreatDoor
open Go.RowKit
theorem infoNode : (Mo.prog.info? 78).map (fun i => (i.zero, i.size, i.bytes)) = some (some (.agg #[.int .i64 0, .slice none 0 0, .int .i64 0]), 3, 40) := by kernel_rfl
def RowTo (W : World) (lo g n : Nat) (l : List Nod) (k : Nat) : Prop :=
  ∃ (cs : Array Value) (rs : List RN), W.heap[g]? = some (.cells cs 78 (0, 0)) ∧ cs.size = n * 3 ∧ rs.length = k ∧ lo ≤ g ∧
    (∀ (i : Nat) (r : RN), rs[i]? = some r → ∀ j u, r.enc[j]? = some u → cs[i * 3 + j]? = some u) ∧
    (∀ (i : Nat) (r : RN) (x : Nod), rs[i]? = some r → l[i]? = some x → r.id = x.id ∧ r.done = x.done ∧ x.log.length = r.n ∧ W.ownsRow lo 28 2 (.slice r.A r.n r.c) r.n (x.log.flatMap Upd.enc)) ∧
    (∀ (i j : Nat) (r s : RN) (b : Nat), rs[i]? = some r → rs[j]? = some s → i < j → (Value.slice r.A r.n r.c).ownBlock = some b → (Value.slice s.A s.n s.c).ownBlock ≠ some b)
theorem RowTo.zero {W : World} {lo g n : Nat} {l : List Nod} {cs : Array Value} (h : W.heap[g]? = some (.cells cs 78 (0, 0))) (hs : cs.size = n * 3) (hlo : lo ≤ g) : RowTo W lo g n l 0 :=
  ⟨cs, [], h, hs, rfl, hlo, fun i r h => by simp at h, fun i r x h => by simp at h, fun i j r s b h => by simp at h⟩
theorem RowTo.block {W : World} {lo g n : Nat} {l : List Nod} {k : Nat} (h : RowTo W lo g n l k) : ∃ cs : Array Value, W.heap[g]? = some (.cells cs 78 (0, 0)) ∧ cs.size = n * 3 := by
  obtain ⟨cs, rs, h1, h2, _⟩ := h; exact ⟨cs, h1, h2⟩
theorem RowTo.step {W W1 : World} {lo g n : Nat} {l : List Nod} {k : Nat} {x : Nod} {r : RN} (h : RowTo W lo g n l k) (hb : Below W.heap.size W W1) (hx : l[k]? = some x) (hr : r.id = x.id ∧ r.done = x.done ∧ x.log.length = r.n) (hkn : k < n)
    (hlog : W1.ownsRow W.heap.size 28 2 (.slice r.A r.n r.c) r.n (x.log.flatMap Upd.enc)) :
    RowTo (((W1.setCell ⟨g, k * 3, none⟩ (.int .i64 r.id)).setCell ⟨g, k * 3 + 1, none⟩ (.slice r.A r.n r.c)).setCell ⟨g, k * 3 + 2, none⟩ (.int .i64 r.done)) lo g n l (k + 1) := by
  obtain ⟨cs, rs, h1, h2, h3, h4, h5, h6, h7⟩ := h
  have hg1 := (hb.block g (lt_of_block h1)).trans h1
  have hroom : k * 3 + 3 ≤ cs.size := by rw [h2]; omega
  have hgs := lt_of_block h1
  have keep : ∀ q, q ≠ g → ((((W1.setCell ⟨g, k * 3, none⟩ (.int .i64 r.id)).setCell ⟨g, k * 3 + 1, none⟩ (.slice r.A r.n r.c)).setCell ⟨g, k * 3 + 2, none⟩ (.int .i64 r.done))).heap[q]? = W1.heap[q]? := fun q hq => by
    rw [Below.heap_setCell _ _ _ _ hq, Below.heap_setCell _ _ _ _ hq, Below.heap_setCell _ _ _ _ hq]
  have offg : ∀ {A : Option Addr} {m c : Nat} {xs : List Value} {lo' : Nat}, W1.ownsRow lo' 28 2 (.slice A m c) m xs → ∀ q, (Value.slice A m c).ownBlock = some q → q ≠ g := fun ho q hq e => by
    subst e
    obtain ⟨ys, h8⟩ := own_blk ho hq
    rw [hg1] at h8; injection h8 with h8; injection h8 with _ h8; exact absurd h8 (by decide)
  have old : ∀ (i : Nat) (r' : RN) (x' : Nod), rs[i]? = some r' → l[i]? = some x' → W1.ownsRow lo 28 2 (.slice r'.A r'.n r'.c) r'.n (x'.log.flatMap Upd.enc) := fun i r' x' e1 e2 => own_keep (h6 i r' x' e1 e2).2.2.2 (fun q hq => hb.block q ((h6 i r' x' e1 e2).2.2.2.lt q hq).2)
  refine ⟨putRow cs (k * 3) r.enc, rs ++ [r], heap_setCell_at (heap_setCell_at (heap_setCell_at hg1 _) _) _, by rw [size_putRow]; exact h2, by simp [h3], h4, ?_, ?_, ?_⟩
  · intro i r' hi j u hu
    have hj : j < 3 := by have := (List.getElem?_eq_some_iff.1 hu).1; rw [RN.len] at this; exact this
    rw [List.getElem?_append] at hi
    by_cases hik : i < rs.length
    · rw [if_pos hik] at hi
      rw [putRow_out _ _ _ _ (.inl (by omega))]
      exact h5 i r' hi j u hu
    · rw [if_neg hik] at hi
      have e0 : i - rs.length = 0 := by have := (List.getElem?_eq_some_iff.1 hi).1; simp at this; omega
      rw [e0] at hi; simp at hi; subst hi
      have : i = k := by omega
      subst this
      rw [putRow_in _ _ _ _ (by rw [RN.len]; exact hroom) (by rw [RN.len]; exact hj), hu]
  · intro i r' x' hi hxi
    rw [List.getElem?_append] at hi
    by_cases hik : i < rs.length
    · rw [if_pos hik] at hi
      obtain ⟨a, b, c, d⟩ := h6 i r' x' hi hxi
      exact ⟨a, b, c, own_keep (old i r' x' hi hxi) (fun q hq => keep q (offg (old i r' x' hi hxi) q hq))⟩
    · rw [if_neg hik] at hi
      have e0 : i - rs.length = 0 := by have := (List.getElem?_eq_some_iff.1 hi).1; simp at this; omega
      rw [e0] at hi; simp at hi; subst hi
      have : i = k := by omega
      subst this
      rw [hx] at hxi; injection hxi with hxi; subst hxi
      exact ⟨hr.1, hr.2.1, hr.2.2, own_keep (hlog.mono (by omega)) (fun q hq => keep q (offg hlog q hq))⟩
  · intro i j r1 r2 b e1 e2 hij o1 o2
    rw [List.getElem?_append] at e1 e2
    by_cases hj : j < rs.length
    · rw [if_pos (by omega)] at e1
      rw [if_pos hj] at e2
      exact h7 i j r1 r2 b e1 e2 hij o1 o2
    · rw [if_neg hj] at e2
      have e0 : j - rs.length = 0 := by have := (List.getElem?_eq_some_iff.1 e2).1; simp at this; omega
      rw [e0] at e2; simp at e2; subst e2
      rw [if_pos (by omega)] at e1
      have hi' : i < l.length := by have := (List.getElem?_eq_some_iff.1 hx).1; omega
      have := ((h6 i r1 l[i] e1 (List.getElem?_eq_getElem hi')).2.2.2.lt b o1).2
      have := (hlog.lt b o2).1
      omega
theorem RowTo.done {W : World} {lo g n : Nat} {l : List Nod} (h : RowTo W lo g n l n) (hl : l.length = n) (hn : n ≤ maxLen) : NodRow W lo W.heap.size (.slice (some ⟨g, 0, none⟩) n n) l := by
  obtain ⟨cs, rs, h1, h2, h3, h4, h5, h6, h7⟩ := h
  subst hl
  refine ⟨rs, ?_, fun q e => ?_, h3, fun i r x e1 e2 => ?_, h7⟩
  · exact Filled.own RN.len (by omega) ⟨by rw [h2, h3], fun i r _ hr j u hu => h5 i r hr j u hu⟩ h3 h1 h4 hn
  · have : g = q := by simpa [Value.ownBlock] using e
    subst this; exact lt_of_block h1
  · obtain ⟨a, b, c, d⟩ := h6 i r x e1 e2
    exact ⟨a, b, c, d, fun q e => (d.lt q e).2⟩
def ChainLeft (w : World) (view : Int) (l : List Nod) (e : Ending) (w' : World) : Prop :=
  ∃ A n c, e = .returned (.agg #[.int .i64 view, .slice A n c]) ∧ l.length = n ∧ NodRow w' w.heap.size w'.heap.size (.slice A n c) l ∧ Below w.heap.size w w'
end Go.Proofs.YtemgilofjbnoaaaGreatDoor
namespace Go.Proofs.YtemgilofjbnoaaaGreatDoor
open Go.RowKit
def DrewUpd (w : World) (rb B p : Nat) (e : Ending) (w' : World) : Prop :=
  ∃ (u : Upd) (p' : Nat), e = .returned (.agg #[.int .i64 u.key, .int .i64 u.value]) ∧ p' ≤ p + 4 ∧ Rd w' rb B p' ∧ w.grownBy w' (some rb)
abbrev DrU (w0 w : World) (rb B p : Nat) (v : Value) (l : List Upd) : Prop := DrF Upd.enc 2 28 w0 w rb B p v l
def DrewLog (w : World) (rb B p : Nat) (e : Ending) (w' : World) : Prop :=
  ∃ v l p', e = .returned v ∧ l.length ≤ 13 ∧ p' ≤ p + 80 ∧ DrU w w' rb B p' v l
theorem DrF.only {α : Type} {enc : α → List Value} {sz : Nat} {e : TypeId} {w0 w w' : World} {rb B p p' : Nat} {v : Value} {l : List α} (h : DrF enc sz e w0 w rb B p v l) (hr : Rd w' rb B p') (hg : w.grownBy w' (some rb)) : DrF enc sz e w0 w' rb B p' v l := h.picked hr hg
end Go.Proofs.YtemgilofjbnoaaaGreatDoor
namespace Go.Proofs.YtemgilofjbnoaaaGreatDoor
open Go.RowKit
theorem blk_type {W : World} {b : Nat} {cs ds : Array Value} {t u : TypeId} {fr gr : Nat × Nat} (h1 : W.heap[b]? = some (.cells cs t fr)) (h2 : W.heap[b]? = some (.cells ds u gr)) : t = u := by
  rw [h1] at h2; injection h2 with h2; injection h2
section
variable {w w' : World} {lo hi : Nat} {v : Value} {l : List Nod}
theorem NodRow.keepT (h : NodRow w lo hi v l) (hk : ∀ (k : Nat) (cs : Array Value) (t : TypeId), w.heap[k]? = some (.cells cs t (0, 0)) → t = 78 ∨ t = 28 → w'.heap[k]? = w.heap[k]?) : NodRow w' lo hi v l := by
  obtain ⟨rs, ho, hv, hl, hr, hd⟩ := h
  have kp : ∀ {lo' n sz : Nat} {t : TypeId} {u : Value} {xs : List Value}, t = 78 ∨ t = 28 → w.ownsRow lo' t sz u n xs → w'.ownsRow lo' t sz u n xs := fun ht hh => own_keep hh fun g e => by
    obtain ⟨cs, hb⟩ := own_blk hh e
    exact hk g cs _ hb ht
  refine ⟨rs, kp (.inl rfl) ho, hv, hl, fun i r x h1 h2 => ?_, hd⟩
  obtain ⟨a, b, c, d, f⟩ := hr i r x h1 h2
  exact ⟨a, b, c, kp (.inr rfl) d, f⟩
theorem NodRow.setCell {g n c i j : Nat} {x x' : Nod} {u : Value} (h : NodRow w lo hi (.slice (some ⟨g, 0, none⟩) n c) l) (hx : l[i]? = some x) (hj : j < 3)
    (hu : ∀ r : RN, r.id = x.id → r.done = x.done → ∃ r' : RN, r'.enc = r.enc.set j u ∧ r'.A = r.A ∧ r'.n = r.n ∧ r'.c = r.c ∧ r'.id = x'.id ∧ r'.done = x'.done) (hl' : x'.log = x.log) :
    NodRow (w.setCell ⟨g, i * 3 + j, none⟩ u) lo hi (.slice (some ⟨g, 0, none⟩) n c) (l.set i x') := by
  obtain rfl : n = l.length := h.nods'.1
  obtain ⟨rs, ho, hv, hl, hr, hd⟩ := h
  have hi := (List.getElem?_eq_some_iff.1 hx).1
  have hri : rs[i]? = some (rs[i]'(by omega)) := List.getElem?_eq_getElem _
  obtain ⟨a1, a2, a3, a4, a5⟩ := hr i _ x hri hx
  obtain ⟨r', e1, e2, e3, e4, e5, e6⟩ := hu _ a1 a2
  have hst := (ho.stored (i * 3 + j) u).1
  rw [flatMap_set RN.len e1 hj rs i hri] at hst
  have offg : ∀ {A : Option Addr} {m c' : Nat} {xs : List Value} {lo' : Nat}, w.ownsRow lo' 28 2 (.slice A m c') m xs → ∀ q, (Value.slice A m c').ownBlock = some q → q ≠ g := fun hh q hq e => by
    subst e
    exact own_part hh ho (by decide) hq rfl
  refine ⟨rs.set i r', by rw [List.length_set]; exact hst, hv, by simp [hl], fun k r y h1 h2 => ?_, fun p q r s b h1 h2 hpq o1 o2 => ?_⟩
  · by_cases hk : i = k
    · subst hk
      rw [List.getElem?_set_self (by omega)] at h1
      rw [List.getElem?_set_self (by omega)] at h2
      injection h1 with h1; injection h2 with h2
      subst h1; subst h2
      refine ⟨e5, e6, by rw [hl', e3]; exact a3, ?_, by rw [e2, e3, e4]; exact a5⟩
      rw [e2, e3, e4, hl']
      exact own_keep a4 (fun q hq => Below.heap_setCell _ _ _ _ (offg a4 q hq))
    · rw [List.getElem?_set_ne hk] at h1 h2
      obtain ⟨b1, b2, b3, b4, b5⟩ := hr k r y h1 h2
      exact ⟨b1, b2, b3, own_keep b4 (fun q hq => Below.heap_setCell _ _ _ _ (offg b4 q hq)), b5⟩
  · have same : ∀ (k : Nat) (t : RN), (rs.set i r')[k]? = some t → ∃ t0 : RN, rs[k]? = some t0 ∧ t0.A = t.A ∧ t0.n = t.n ∧ t0.c = t.c := fun k t ht => by
      by_cases hk : i = k
      · subst hk
        rw [List.getElem?_set_self (by omega)] at ht
        injection ht with ht; subst ht
        exact ⟨_, hri, e2.symm, e3.symm, e4.symm⟩
      · rw [List.getElem?_set_ne hk] at ht
        exact ⟨t, ht, rfl, rfl, rfl⟩
    obtain ⟨r0, f1, f2, f3, f4⟩ := same p r h1
    obtain ⟨s0, g1, g2, g3, g4⟩ := same q s h2
    rw [← f2, ← f3, ← f4] at o1
    rw [← g2, ← g3, ← g4] at o2
    exact hd p q r0 s0 b f1 g1 hpq o1 o2
theorem NodRow.setDone {g n c i : Nat} {x : Nod} (h : NodRow w lo hi (.slice (some ⟨g, 0, none⟩) n c) l) (hx : l[i]? = some x) (d : Int) :
    NodRow (w.setCell ⟨g, i * 3 + 2, none⟩ (.int .i64 d)) lo hi (.slice (some ⟨g, 0, none⟩) n c) (l.set i { x with done := d }) :=
  h.setCell hx (by omega) (fun r h1 h2 => ⟨{ r with done := d }, rfl, rfl, rfl, rfl, h1, rfl⟩) rfl
theorem NodRow.setId {g n c i : Nat} {x : Nod} (h : NodRow w lo hi (.slice (some ⟨g, 0, none⟩) n c) l) (hx : l[i]? = some x) (d : Int) :
    NodRow (w.setCell ⟨g, i * 3 + 0, none⟩ (.int .i64 d)) lo hi (.slice (some ⟨g, 0, none⟩) n c) (l.set i { x with id := d }) :=
  h.setCell hx (by omega) (fun r h1 h2 => ⟨{ r with id := d }, rfl, rfl, rfl, rfl, rfl, h2⟩) rfl
theorem NodRow.form (h : NodRow w lo hi v l) (hn : 0 < l.length) : ∃ g c, v = .slice (some ⟨g, 0, none⟩) l.length c ∧ lo ≤ g ∧ g < w.heap.size ∧ l.length ≤ c := by
  obtain ⟨rs, ho, _⟩ := h
  exact own_form ho hn
theorem NodRow.at_ {g n c k : Nat} (h : NodRow w lo hi (.slice (some ⟨g, 0, none⟩) n c) l) (hk : k < l.length) :
    ∃ x A' m d, l[k]? = some x ∧ w.cell? ⟨g, k * 3, none⟩ = some (.int .i64 x.id) ∧ w.cell? ⟨g, k * 3 + 1, none⟩ = some (.slice A' m d) ∧ w.cell? ⟨g, k * 3 + 2, none⟩ = some (.int .i64 x.done) ∧ x.log.length = m ∧ m ≤ d ∧
      (∀ j, w.frozen? ⟨g, j, none⟩ = false) := by
  obtain ⟨hn, hN⟩ := h.nods'
  subst hn
  obtain ⟨b, off, x, A', m, d, e, _, _, hx, c0, c1, c2, hf⟩ := hN.nod (k := k) (by omega)
  injection e with e; injection e with e1 e2
  subst e1; subst e2
  obtain ⟨rs, ho, _⟩ := h
  refine ⟨x, A', m, d, hx, by simpa using c0, by simpa using c1, by simpa using c2, hf.len, hf.2.1, fun j => ho.frozenAt j⟩
end
end Go.Proofs.YtemgilofjbnoaaaGreatDoor
namespace Go.Proofs.YtemgilofjbnoaaaGreatDoor
open Go.RowKit
def Oth (w : World) (s : Nat) (L : List (Nat × Array Value × TypeId)) : Prop := ∀ p ∈ L, Blk w p.1 p.2.1 p.2.2 ∧ p.1 < s ∧ p.2.2 ≠ 78 ∧ p.2.2 ≠ 28
theorem Oth.nil (w : World) (s : Nat) : Oth w s [] := fun p h => by cases h
theorem Oth.cons {w : World} {s b : Nat} {cs : Array Value} {t : TypeId} {L : List (Nat × Array Value × TypeId)} (h : Oth w s L) (hb : Blk w b cs t) (hs : b < s) (ht : t ≠ 78 ∧ t ≠ 28) : Oth w s ((b, cs, t) :: L) := by
  intro p hp
  rcases List.mem_cons.1 hp with e | hp
  · subst e; exact ⟨hb, hs, ht⟩
  · exact h p hp
theorem Oth.keep {w w' : World} {s : Nat} {L : List (Nat × Array Value × TypeId)} (h : Oth w s L) (hk : ∀ (k : Nat) (cs : Array Value) (t : TypeId), w.heap[k]? = some (.cells cs t (0, 0)) → k < s → t ≠ 78 → t ≠ 28 → w'.heap[k]? = w.heap[k]?) : Oth w' s L :=
  fun p hp => by obtain ⟨a, b, c, d⟩ := h p hp; exact ⟨(hk _ _ _ a b c d).trans a, b, c, d⟩
structure CB (w0 w : World) (s : Nat) (view : Int) (nv : Value) (l : List Nod) (hi : Nat) (L : List (Nat × Array Value × TypeId)) : Prop where
  bel : Below w0.heap.size w0 w
  chn : Blk w s #[.int .i64 view, nv] 25
  s0 : w0.heap.size ≤ s
  s1 : s < hi
  his : hi ≤ w.heap.size
  row : NodRow w w0.heap.size hi nv l
  oth : Oth w s L
section
variable {w0 w w' : World} {s : Nat} {view : Int} {nv : Value} {l : List Nod} {hi : Nat} {L : List (Nat × Array Value × TypeId)}
theorem Oth.below (h : Oth w s L) (hb : Below w.heap.size w w') : Oth w' s L := h.keep fun k _ _ hk _ _ _ => hb.block k (lt_of_block hk)
theorem CB.new (hb : Below w0.heap.size w0 w) (view : Int) (h : Oth w w.heap.size L) : CB w0 (w.alloc (.cells #[.int .i64 view, .slice none 0 0] 25)) w.heap.size view (.slice none 0 0) [] (w.heap.size + 1) L :=
  ⟨hb.alloc hb.size _, Blk.new w _ _, hb.size, by omega, by simp, NodRow.nil_ _ _ _, h.below ((Below.refl _ _).alloc (Nat.le_refl _) _)⟩
theorem CB.made {view : Int} {A : Option Addr} {n c : Nat} (hb : Below w0.heap.size w0 w) (hrow : NodRow w w0.heap.size w.heap.size (.slice A n c) l) (h : Oth w w.heap.size L) : CB w0 (w.alloc (.cells #[.int .i64 view, .slice A n c] 25)) w.heap.size view (.slice A n c) l (w.heap.size + 1) L :=
  ⟨hb.alloc hb.size _, Blk.new w _ _, hb.size, by omega, by simp, (hrow.keep (fun _ _ h => Below.heap_alloc _ _ _ h)).mono (by omega), h.below ((Below.refl _ _).alloc (Nat.le_refl _) _)⟩
theorem Oth.raise {s' : Nat} (h : Oth w s L) (hs : s ≤ s') : Oth w s' L := fun p hp => by obtain ⟨a, b, c, d⟩ := h p hp; exact ⟨a, Nat.lt_of_lt_of_le b hs, c, d⟩
theorem CB.stored {view : Int} {A : Option Addr} {n c s : Nat} (hb : Below w0.heap.size w0 w) (hrow : NodRow w w0.heap.size w.heap.size (.slice A n c) l) (hres : Blk w s #[.int .i64 0, .slice none 0 0] 25) (hs : w0.heap.size ≤ s) (h : Oth w s L) :
    CB w0 ((w.setCell ⟨s, 0, none⟩ (.int .i64 view)).setCell ⟨s, 1, none⟩ (.slice A n c)) s view (.slice A n c) l w.heap.size L := by
  have hc : w.heap[s]? = some (.cells #[.int .i64 0, .slice none 0 0] 25 (0, 0)) := hres
  have off : ∀ k, k ≠ s → ((w.setCell ⟨s, 0, none⟩ (.int .i64 view)).setCell ⟨s, 1, none⟩ (.slice A n c)).heap[k]? = w.heap[k]? := fun k hk => by rw [Below.heap_setCell _ _ _ _ hk, Below.heap_setCell _ _ _ _ hk]
  exact ⟨(hb.setCell (p := ⟨s, 0, none⟩) hs _).setCell (p := ⟨s, 1, none⟩) hs _, (hres.set 0 _).set 1 _, hs, hres.lt, by simp [World.setCell], hrow.keepT (fun k cs t hk ht => off k (by
      rintro rfl
      have := blk_type hk hc
      rcases ht with rfl | rfl <;> exact absurd this (by decide))), h.keep (fun k _ _ _ hlt _ _ => off k (by omega))⟩
theorem CB.below (h : CB w0 w s view nv l hi L) (hb : Below w.heap.size w w') : CB w0 w' s view nv l hi L :=
  ⟨h.bel.trans (hb.mono h.bel.size), h.chn.below hb, h.s0, h.s1, Nat.le_trans h.his hb.size, h.row.keep (fun k _ hk => hb.block k (Nat.lt_of_lt_of_le hk h.his)), h.oth.below hb⟩
theorem CB.alloc (h : CB w0 w s view nv l hi L) (o : Obj) : CB w0 (w.alloc o) s view nv l hi L := h.below ((Below.refl _ _).alloc (Nat.le_refl _) _)
theorem CB.drew (h : CB w0 w s view nv l hi L) : CB w0 w.drew s view nv l hi L := h.below (Below.refl _ _).drew
theorem CB.raise (h : CB w0 w s view nv l hi L) : CB w0 w s view nv l w.heap.size L := ⟨h.bel, h.chn, h.s0, Nat.lt_of_lt_of_le h.s1 h.his, Nat.le_refl _, h.row.mono h.his, h.oth⟩
theorem CB.beside {row : Option Nat} (h : CB w0 w s view nv l hi L) (hg : w.grownBy w' row) (hr : ∀ g, row = some g → hi ≤ g) : CB w0 w' s view nv l hi L := by
  have hs0 := h.s0
  have hs1 := h.s1
  have blk : ∀ k, k < hi → w'.heap[k]? = w.heap[k]? := fun k hk => hg.block k (Nat.lt_of_lt_of_le hk h.his) (fun e => by have := hr k e.symm; omega)
  exact ⟨h.bel.grown hg h.bel.size (fun k e => by have := hr k e; omega), (blk s hs1).trans h.chn, hs0, hs1, Nat.le_trans h.his hg.size, h.row.keep (fun k _ hk => blk k hk), h.oth.keep (fun k _ _ _ hs _ _ => blk k (by omega))⟩
theorem CB.size (h : CB w0 w s view nv l hi L) : s < w.heap.size := by have := h.s1; have := h.his; omega
theorem CB.nods {A : Option Addr} {n c : Nat} (h : CB w0 w s view (.slice A n c) l hi L) : n = l.length ∧ Nods w 0 w.heap.size A n c l := by
  obtain ⟨e, hn⟩ := h.row.nods'
  exact ⟨e, hn.mono (Nat.zero_le _) h.his⟩
theorem Oth.set {g i : Nat} {u : Value} {cs : Array Value} {t : TypeId} (h : Oth w s L) (hg : w.heap[g]? = some (.cells cs t (0, 0))) (ht : s ≤ g ∨ t = 78 ∨ t = 28) : Oth (w.setCell ⟨g, i, none⟩ u) s L :=
  h.keep fun k ds t' hk hs h1 h2 => Below.heap_setCell _ _ _ _ (by
    rintro rfl
    have := blk_type hk hg
    subst this
    rcases ht with h | h | h
    · omega
    · exact h1 h
    · exact h2 h)
theorem after_blk {w1 : World} {rs : List RN} {o : Obj} {lo hi : Nat} (hat : NodRowAt w lo hi nv l rs) (hg : (w.alloc o).grownBy w1 nv.ownBlock) {k : Nat} {cs : Array Value} {t : TypeId} (hk : w.heap[k]? = some (.cells cs t (0, 0))) (ht : t ≠ 78) : w1.heap[k]? = w.heap[k]? :=
  (hg.block k (by have := lt_of_block hk; simp; omega) (fun e => by
    obtain ⟨ds, hd⟩ := own_blk hat.1 e.symm
    exact ht (blk_type hk hd))).trans (Below.heap_alloc _ _ _ (lt_of_block hk))
theorem CB.chnAfter {w1 : World} {rs : List RN} {o : Obj} (h : CB w0 w s view nv l hi L) (hat : NodRowAt w w0.heap.size hi nv l rs) (hg : (w.alloc o).grownBy w1 nv.ownBlock) : Blk w1 s #[.int .i64 view, nv] 25 :=
  (after_blk hat hg h.chn (by decide)).trans h.chn
theorem CB.appended {w1 : World} {nv' : Value} {x : Nod} {r : RN} {o : Obj} {rs : List RN} (h : CB w0 w s view nv l hi L) (hat : NodRowAt w w0.heap.size hi nv l rs) (hr : r.id = x.id ∧ r.done = x.done ∧ x.log.length = r.n)
    (hlog : w.ownsRow w0.heap.size 28 2 (.slice r.A r.n r.c) r.n (x.log.flatMap Upd.enc)) (hnew : ∀ g, (Value.slice r.A r.n r.c).ownBlock = some g → hi ≤ g)
    (ho' : w1.ownsRow w0.heap.size 78 3 nv' (l.length + 1) (rs.flatMap RN.enc ++ r.enc)) (hg : (w.alloc o).grownBy w1 nv.ownBlock) :
    CB w0 (w1.setCell ⟨s, 1, none⟩ nv') s view nv' (l ++ [x]) w1.heap.size L := by
  have hs := h.s0
  have hs1 := h.s1
  have hhi := h.his
  have hsz : w.heap.size ≤ w1.heap.size := Nat.le_trans (by simp) hg.size
  have hrow := hat.appended (hi' := w1.heap.size) hr hlog hnew (Nat.le_refl _) hhi ho' hg
  have hchn := h.chnAfter hat hg
  have hc : w1.heap[s]? = some (.cells #[.int .i64 view, nv] 25 (0, 0)) := hchn
  have hb1 : Below w0.heap.size w0 w1 := (h.bel.alloc h.bel.size o).grown hg (by have := h.bel.size; simp; omega) (fun k e => (hat.1.lt k e).1)
  exact ⟨hb1.setCell (p := ⟨s, 1, none⟩) hs _, hchn.set 1 _, hs, by omega, by simp [World.setCell],
    (hrow.keepT (fun k cs t hk ht => Below.heap_setCell _ _ _ _ (by
      rintro rfl
      have := blk_type hk hc
      rcases ht with rfl | rfl <;> exact absurd this (by decide)))), (h.oth.keep (fun k cs t hk _ h1 _ => after_blk hat hg hk h1)).set hc (.inl (Nat.le_refl _))⟩
theorem CB.setNode {g n cc i j : Nat} {u : Value} {l' : List Nod} (h : CB w0 w s view (.slice (some ⟨g, 0, none⟩) n cc) l hi L) (hrow : NodRow (w.setCell ⟨g, i * 3 + j, none⟩ u) w0.heap.size hi (.slice (some ⟨g, 0, none⟩) n cc) l') :
    CB w0 (w.setCell ⟨g, i * 3 + j, none⟩ u) s view (.slice (some ⟨g, 0, none⟩) n cc) l' hi L := by
  obtain ⟨rs, ho, _⟩ := h.row
  obtain ⟨cs, hg⟩ := own_blk ho rfl
  have hlo := (ho.lt g rfl).1
  have off : s ≠ g := fun e => by subst e; exact absurd (blk_type h.chn hg) (by decide)
  exact ⟨h.bel.setCell (p := ⟨g, i * 3 + j, none⟩) hlo _, h.chn.far (a := ⟨g, i * 3 + j, none⟩) off _, h.s0, h.s1, by simpa [World.setCell] using h.his, hrow, h.oth.set hg (.inr (.inl rfl))⟩
theorem CB.setDone {g n cc i : Nat} {x : Nod} (h : CB w0 w s view (.slice (some ⟨g, 0, none⟩) n cc) l hi L) (hx : l[i]? = some x) (d : Int) :
    CB w0 (w.setCell ⟨g, i * 3 + 2, none⟩ (.int .i64 d)) s view (.slice (some ⟨g, 0, none⟩) n cc) (l.set i { x with done := d }) hi L := h.setNode (h.row.setDone hx d)
theorem CB.blk (h : CB w0 w s view nv l hi L) {b : Nat} {cs : Array Value} {t : TypeId} (hm : (b, cs, t) ∈ L) : Blk w b cs t := (h.oth _ hm).1
theorem CB.out {b : Nat} {u v : Value} {cs : Array Value} (h : CB w0 w s view nv l hi L) (hb : Blk w b cs 25) (h0 : w0.heap.size ≤ b) :
    NodRow ((w.setCell ⟨b, 0, none⟩ u).setCell ⟨b, 1, none⟩ v) w0.heap.size ((w.setCell ⟨b, 0, none⟩ u).setCell ⟨b, 1, none⟩ v).heap.size nv l ∧ Below w0.heap.size w0 ((w.setCell ⟨b, 0, none⟩ u).setCell ⟨b, 1, none⟩ v) := by
  have hb' : w.heap[b]? = some (.cells cs 25 (0, 0)) := hb
  refine ⟨(h.row.keepT (fun k ds t hk ht => ?_)).mono (by simpa [World.setCell] using h.his), (h.bel.setCell (p := ⟨b, 0, none⟩) h0 _).setCell (p := ⟨b, 1, none⟩) h0 _⟩
  have hne : k ≠ b := by
    rintro rfl
    have := blk_type hk hb'
    rcases ht with rfl | rfl <;> exact absurd this (by decide)
  rw [Below.heap_setCell _ _ _ _ hne, Below.heap_setCell _ _ _ _ hne]
end
def ChainRes (w : World) (o : Option (Int × List Nod)) (e : Ending) (w' : World) : Prop :=
  ∃ (view : Int) (A : Option Addr) (n c : Nat) (l : List Nod), (view, l) = o.getD (0, []) ∧ e = .returned (.tuple #[.agg #[.int .i64 view, .slice A n c], .bool o.isSome]) ∧ l.length = n ∧ NodRow w' w.heap.size w'.heap.size (.slice A n c) l ∧ Below w.heap.size w w'
theorem ChainRes.none_ {w w1 : World} (hb : Below w.heap.size w w1) : ChainRes w none (.returned (.tuple #[.agg #[.int .i64 0, .slice none 0 0], .bool false])) w1 :=
  ⟨0, none, 0, 0, [], rfl, rfl, rfl, NodRow.nil_ _ _ _, hb⟩
def NodeMade (w : World) (x : Nod) (e : Ending) (w' : World) : Prop :=
  ∃ A m c, e = .returned (.agg #[.int .i64 x.id, .slice A m c, .int .i64 x.done]) ∧ x.log.length = m ∧ w'.ownsRow w.heap.size 28 2 (.slice A m c) m (x.log.flatMap Upd.enc) ∧ Below w.heap.size w w'
end Go.Proofs.YtemgilofjbnoaaaGreatDoor
namespace Go.Proofs.YtemgilofjbnoaaaGreatDoor
open Go.RowKit
def StAt (W : World) (g : Nat) (st : List Int) : Prop :=
  g < W.heap.size ∧ (∀ i x, st[i]? = some x → W.cell? ⟨g, i, none⟩ = some (.int .i64 x)) ∧ (∀ i, i < st.length → W.frozen? ⟨g, i, none⟩ = false)
section
variable {W W' : World} {g : Nat} {st : List Int}
theorem StAt.keep (h : StAt W g st) (hk : W'.heap[g]? = W.heap[g]?) (hs : g < W'.heap.size) : StAt W' g st :=
  ⟨hs, fun i x hx => (World.cell?_of_block (w := W) hk).trans (h.2.1 i x hx), fun i hi => (World.frozen?_of_block (w := W) hk).trans (h.2.2 i hi)⟩
theorem StAt.below (h : StAt W g st) (hb : Below W.heap.size W W') : StAt W' g st := h.keep (hb.block g h.1) (Nat.lt_of_lt_of_le h.1 hb.size)
theorem StAt.alloc (h : StAt W g st) (o : Obj) : StAt (W.alloc o) g st := h.below ((Below.refl _ _).alloc (Nat.le_refl _) _)
theorem StAt.kept {row : Option Nat} (h : StAt W g st) (hg : W.grownBy W' row) (hne : some g ≠ row) : StAt W' g st := h.keep (hg.block g h.1 hne) (Nat.lt_of_lt_of_le h.1 hg.size)
theorem StAt.far (h : StAt W g st) {p : Addr} (hp : g ≠ p.block) (u : Value) : StAt (W.setCell p u) g st := h.keep (Below.heap_setCell W p u g hp) (by simpa [World.setCell] using h.1)
theorem StAt.at_ (h : StAt W g st) {k : Nat} (hk : k < st.length) : ∃ x, st[k]? = some x ∧ W.cell? ⟨g, k, none⟩ = some (.int .i64 x) :=
  ⟨st[k], List.getElem?_eq_getElem hk, h.2.1 k _ (List.getElem?_eq_getElem hk)⟩
theorem StAt.put (h : StAt W g st) (k : Nat) (v : Int) : StAt (W.setCell ⟨g, k, none⟩ (.int .i64 v)) g (st.set k v) := by
  refine ⟨by simpa [World.setCell] using h.1, fun i x hx => ?_, fun i hi => ?_⟩
  · by_cases hik : i = k
    · subst hik
      have hi := (List.getElem?_eq_some_iff.1 hx).1
      rw [List.length_set] at hi
      rw [List.getElem?_set_self (by omega)] at hx
      injection hx with hx
      subst hx
      obtain ⟨y, _, hy⟩ := h.at_ hi
      exact World.cell?_setCell_same' _ _ _ (by rw [hy]; rfl)
    · rw [List.getElem?_set_ne (by omega)] at hx
      rw [World.cell?_setCell_other W _ _ _ (by simp only [ne_eq, Addr.mk.injEq]; omega)]
      exact h.2.1 i x hx
  · rw [World.frozen?_setCell]
    exact h.2.2 i (by simpa using hi)
end
def st0 : List Int := [-1, -1, -1, -1, -1]
theorem intInfo : (Mo.prog.info? 3).map (fun i => (i.zero, i.size, i.bytes)) = some (some (.int .i64 0), 1, 8) := by kernel_rfl
def NewState (w : World) (e : Ending) (w' : World) : Prop :=
  e = .returned (.pointer (some ⟨w.heap.size, 0, none⟩)) ∧ StAt w' w.heap.size st0 ∧ Below w.heap.size w w'
end Go.Proofs.YtemgilofjbnoaaaGreatDoor
namespace Go.Proofs.YtemgilofjbnoaaaGreatDoor
open Go.RowKit
def upStep (st : List Int) (u : Upd) : List Int := st.set u.key.toNat u.value
def stAt (l : List Upd) (k : Nat) : List Int := (l.take k).foldl upStep st0
def stateOf (l : List Upd) (many : Int) : List Int := if logOk l && inB many 0 l.length then stAt l many.toNat else []
def StateLeft (w : World) (st : List Int) (e : Ending) (w' : World) : Prop :=
  ∃ g c, e = .returned (.slice (some ⟨g, 0, none⟩) st.length c) ∧ st.length ≤ c ∧ c ≤ maxLen ∧ w.heap.size ≤ g ∧ StAt w' g st ∧ Below w.heap.size w w'
end Go.Proofs.YtemgilofjbnoaaaGreatDoor
namespace Go.Proofs.YtemgilofjbnoaaaGreatDoor
open Go.RowKit
def keyIn (l : List Upd) (key : Int) : Bool := l.any fun u => decide (u.key = key)
def keyWaits (x : Nod) (key : Int) : Bool := keyIn (x.log.drop x.done.toNat) key
def valOf (l : List Upd) (key : Int) (many : Nat) : Int := (stAt l many).getD key.toNat 0
def nodeValueAt (x : Nod) (key many : Int) : Int × Bool :=
  if nodeOk x && inB key 0 4 && inB many 0 x.log.length then (if valOf x.log key many.toNat < 0 then (0, false) else (valOf x.log key many.toNat, true)) else (0, false)
def nodeRead (x : Nod) (key : Int) : Int × Int :=
  if nodeOk x && inB key 0 4 then (if keyWaits x key then (0, 1) else if valOf x.log key x.done.toNat < 0 then (0, 2) else (valOf x.log key x.done.toNat, 0)) else (0, 3)
end Go.Proofs.YtemgilofjbnoaaaGreatDoor
namespace Go.Proofs.YtemgilofjbnoaaaGreatDoor
open Go.RowKit
end Go.Proofs.YtemgilofjbnoaaaGreatDoor
namespace Go.Proofs.YtemgilofjbnoaaaGreatDoor
open Go.RowKit
end Go.Proofs.YtemgilofjbnoaaaGreatDoor
