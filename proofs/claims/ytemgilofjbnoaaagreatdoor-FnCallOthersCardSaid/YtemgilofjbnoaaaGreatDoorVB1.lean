/- Texts of this claim, joined: Mem Leaf Rd RunM Nod Copy Log NodeA Blk Row DrawU RowSet Chn State NodeB NodeC NodeD NodeE NodeF CopyC ChainA ChainB ChainV ChainW AddCost DropRole Lost. -/
import Derived.WalkKit
import Derived.WalkSpells
import Derived.WalkSmall
import Derived.OneCell
import Derived.Lib.Hide
import Derived.Lib.QuietBelow
import Derived.RegionTactic
import Derived.OwnWalk
import Derived.Handy
import Derived.BigQuiet
import Derived.Deep.DeepFit
import Derived.Laws.BitsAllLaws
import Derived.Laws.BitsLemmas
import Derived.Laws.CopyOwn
import Derived.Deep.RegionHeld3
import Derived.Deep.Onto
import Derived.Deep.RegionLaw
import Derived.Deep.DeepCutAuto
import Derived.Deep.CutRange
import Derived.Test.YtemgilofjbnoaaaGreatDoorVA4
import Derived.Test.YtemgilofjbnoaaaGreatDoorVA3
namespace Go.Proofs.YtemgilofjbnoaaaGreatDoor
open Go.RowKit
structure Upd where
  key : Int
  value : Int
structure Stp where
  reads : Bool
  key : Int
  value : Int
structure Cll where
  client : Int
  number : Int
  what : Upd
def Upd.enc (u : Upd) : List Value := [.int .i64 u.key, .int .i64 u.value]
def Stp.enc (s : Stp) : List Value := [.bool s.reads, .int .i64 s.key, .int .i64 s.value]
def Cll.enc (x : Cll) : List Value := [.int .i64 x.client, .int .i64 x.number, .int .i64 x.what.key, .int .i64 x.what.value]
def encInt (x : Int) : List Value := [.int .i64 x]
theorem ret_bool {a b : Bool} (h : a = b) : Ending.returned (.bool a) = .returned (.bool b) := by rw [h]
theorem ret_int {k : IntKind} {a b : Int} (h : a = b) : Ending.returned (.int k a) = .returned (.int k b) := by rw [h]
def Flat {α : Type} (enc : α → List Value) (sz : Nat) (w : World) (lo hi : Nat) (A : Option Addr) (n c : Nat) (l : List α) : Prop :=
  l.length = n ∧ n ≤ c ∧ c ≤ maxLen ∧ (0 < n → ∃ b off, A = some ⟨b, off, none⟩ ∧ lo ≤ b ∧ b < hi ∧
    ∀ i x, l[i]? = some x → ∀ j u, (enc x)[j]? = some u → w.cell? ⟨b, off + i * sz + j, none⟩ = some u)
section
variable {α : Type} {enc : α → List Value} {sz : Nat} {w w' : World} {lo hi n c : Nat} {A : Option Addr} {l : List α}
theorem Flat.len (h : Flat enc sz w lo hi A n c l) : l.length = n := h.1
theorem Flat.keep (h : Flat enc sz w lo hi A n c l) (hk : ∀ k, lo ≤ k → k < hi → w'.heap[k]? = w.heap[k]?) : Flat enc sz w' lo hi A n c l := by
  obtain ⟨h1, h2, h3, h4⟩ := h
  refine ⟨h1, h2, h3, fun hn => ?_⟩
  obtain ⟨b, off, e, hb1, hb2, hc⟩ := h4 hn
  exact ⟨b, off, e, hb1, hb2, fun i x hx j u hu => (World.cell?_of_block (w := w) (hk b hb1 hb2)).trans (hc i x hx j u hu)⟩
theorem Flat.below {B : Nat} (h : Flat enc sz w lo hi A n c l) (hb : Below B w w') (hB : hi ≤ B) : Flat enc sz w' lo hi A n c l :=
  h.keep fun k _ hk => hb.block k (by omega)
theorem Flat.grown {row : Option Nat} (h : Flat enc sz w lo hi A n c l) (hg : w.grownBy w' row) (hhi : hi ≤ w.heap.size) (hr : ∀ g, row = some g → g < lo ∨ hi ≤ g) : Flat enc sz w' lo hi A n c l :=
  h.keep fun k h1 h2 => hg.block k (by omega) (fun e => by have := hr k e.symm; omega)
theorem Flat.mono {lo' hi' : Nat} (h : Flat enc sz w lo hi A n c l) (h1 : lo' ≤ lo) (h2 : hi ≤ hi') : Flat enc sz w lo' hi' A n c l := by
  obtain ⟨a1, a2, a3, a4⟩ := h
  refine ⟨a1, a2, a3, fun hn => ?_⟩
  obtain ⟨b, off, e, hb1, hb2, hc⟩ := a4 hn
  exact ⟨b, off, e, by omega, by omega, hc⟩
theorem Flat.at_ (h : Flat enc sz w lo hi A n c l) {k : Nat} (hk : k < n) :
    ∃ b off x, A = some ⟨b, off, none⟩ ∧ lo ≤ b ∧ b < hi ∧ l[k]? = some x ∧ ∀ j u, (enc x)[j]? = some u → w.cell? ⟨b, off + k * sz + j, none⟩ = some u := by
  obtain ⟨h1, _, _, h4⟩ := h
  obtain ⟨b, off, e, hb1, hb2, hc⟩ := h4 (by omega)
  exact ⟨b, off, l[k]'(by omega), e, hb1, hb2, List.getElem?_eq_getElem (by omega), hc k _ (List.getElem?_eq_getElem (by omega))⟩
theorem Flat.nil_ (enc : α → List Value) (sz : Nat) (w : World) (lo hi : Nat) : Flat enc sz w lo hi none 0 0 [] := ⟨rfl, Nat.le_refl _, Nat.zero_le _, fun h => absurd h (by omega)⟩
theorem Flat.take_ (h : Flat enc sz w lo hi A n c l) {k : Nat} (hk : k ≤ n) : Flat enc sz w lo hi A k c (l.take k) := by
  obtain ⟨h1, h2, h3, h4⟩ := h
  refine ⟨by rw [List.length_take]; omega, by omega, h3, fun hn => ?_⟩
  obtain ⟨b, off, e, hb1, hb2, hc⟩ := h4 (by omega)
  refine ⟨b, off, e, hb1, hb2, fun i x hx j u hu => hc i x ?_ j u hu⟩
  rw [List.getElem?_take] at hx
  split at hx
  · exact hx
  · cases hx
theorem Flat.drop_ (h : Flat enc sz w lo hi A n c l) {k : Nat} (hk : k ≤ n) : Flat enc sz w lo hi (if c = k then A else A.map (·.add (k * sz))) (n - k) (c - k) (l.drop k) := by
  obtain ⟨h1, h2, h3, h4⟩ := h
  refine ⟨by rw [List.length_drop]; omega, by omega, by omega, fun hn => ?_⟩
  obtain ⟨b, off, rfl, hb1, hb2, hc⟩ := h4 (by omega)
  rw [if_neg (by omega)]
  refine ⟨b, off + k * sz, ?_, hb1, hb2, fun i x hx j u hu => ?_⟩
  · simp only [Option.map_some, Addr.add]
    split
    · rename_i h0; rw [h0]; rfl
    · rfl
  · rw [List.getElem?_drop] at hx
    have := hc (k + i) x hx j u hu
    rwa [show off + (k + i) * sz + j = off + k * sz + i * sz + j from by rw [Nat.add_mul]; omega] at this
end
theorem flatMap_get {α : Type} {enc : α → List Value} {sz : Nat} (hs : ∀ x, (enc x).length = sz) : ∀ (l : List α) (i : Nat) (x : α), l[i]? = some x → ∀ j u, (enc x)[j]? = some u → (l.flatMap enc)[i * sz + j]? = some u := by
  intro l
  induction l with
  | nil => intro i x hx; simp at hx
  | cons y l ih =>
    intro i x hx j u hu
    have hj : j < sz := by
      have := (List.getElem?_eq_some_iff.1 hu).1
      rw [hs x] at this; exact this
    cases i with
    | zero =>
      simp only [List.getElem?_cons_zero, Option.some.injEq] at hx
      subst hx
      rw [List.flatMap_cons, List.getElem?_append_left (by rw [hs]; omega)]
      simpa using hu
    | succ i =>
      simp only [List.getElem?_cons_succ] at hx
      rw [List.flatMap_cons, List.getElem?_append_right (by rw [hs, Nat.succ_mul]; omega)]
      have e : (i + 1) * sz + j - (enc y).length = i * sz + j := by rw [hs, Nat.succ_mul]; omega
      rw [e]
      exact ih i x hx j u hu
theorem length_flatMap {α : Type} {enc : α → List Value} {sz : Nat} (hs : ∀ x, (enc x).length = sz) (l : List α) : (l.flatMap enc).length = l.length * sz := by
  induction l with
  | nil => simp
  | cons y l ih => rw [List.flatMap_cons, List.length_append, ih, hs, List.length_cons, Nat.succ_mul]; omega
theorem own_flat {α : Type} {enc : α → List Value} {sz : Nat} (hs : ∀ x, (enc x).length = sz) {w : World} {lo : Nat} {e : TypeId} {v : Value} {n : Nat} {l : List α}
    (h : w.ownsRow lo e sz v n (l.flatMap enc)) (hn : l.length = n) : ∃ A c, v = .slice A n c ∧ Flat enc sz w lo w.heap.size A n c l := by
  rcases h.2 with ⟨rfl, rfl⟩ | ⟨g, cap, cur, rfl, hb, hg, hnc, hcm, hcs, htake⟩
  · exact ⟨none, 0, rfl, by rw [List.eq_nil_of_length_eq_zero hn]; exact Flat.nil_ enc sz w lo _⟩
  · refine ⟨_, _, rfl, hn, hnc, hcm, fun _ => ⟨g, 0, rfl, hb, lt_of_block hg, fun i x hx j u hu => ?_⟩⟩
    have hj : j < sz := by
      have := (List.getElem?_eq_some_iff.1 hu).1
      rw [hs x] at this; exact this
    have hi : i < n := by
      have := (List.getElem?_eq_some_iff.1 hx).1
      omega
    have hlt : i * sz + j < n * sz := by
      have : (i + 1) * sz ≤ n * sz := Nat.mul_le_mul_right _ hi
      rw [Nat.succ_mul] at this; omega
    have h1 := flatMap_get hs l i x hx j u hu
    rw [Nat.zero_add, h.cellAt (i * sz + j) hlt, h1]
theorem own_flat' {α : Type} {enc : α → List Value} {sz : Nat} (hs : ∀ x, (enc x).length = sz) {w : World} {lo : Nat} {e : TypeId} {A : Option Addr} {c n : Nat} {l : List α}
    (h : w.ownsRow lo e sz (.slice A n c) n (l.flatMap enc)) (hn : l.length = n) : Flat enc sz w lo w.heap.size A n c l := by
  obtain ⟨A', c', e', hf⟩ := own_flat hs h hn
  injection e' with e1 e2 e3
  subst e1; subst e3; exact hf
theorem make_rows {P : Program} (t e : TypeId) (i : TypeInfo) (z : Value) (ht : P.underlying t = some (.slice e)) (hi : P.info? e = some i) (hz : i.zero = some z)
    (n : Nat) (hb : i.bytes * n ≤ 281474976710656) (hn : n ≤ 9223372036854775807) (w : World) :
    (Instr.makeSlice t (.int .i64 (n : Int)) (.int .i64 (n : Int))).run P w = .ok (.slice (some ⟨w.heap.size, 0, none⟩) n n) (w.alloc (.cells (madeCells z.cells (n * i.size)) e)) := by
  have hb' : (i.bytes : Int) * (n : Int) ≤ 281474976710656 := by
    have h : ((i.bytes * n : Nat) : Int) ≤ 281474976710656 := by omega
    rwa [Int.natCast_mul] at h
  have hr := run_make (P := P) w t e i z ht hi hz .i64 .i64 n n (by omega) (by omega) hb' (by omega)
  simp only [Int.toNat_natCast] at hr
  exact hr
def putRow (cs : Array Value) (o : Nat) : List Value → Array Value
  | [] => cs
  | u :: us => putRow (cs.setIfInBounds o u) (o + 1) us
theorem size_putRow (us : List Value) : ∀ (cs : Array Value) (o : Nat), (putRow cs o us).size = cs.size := by
  induction us with
  | nil => intro cs o; rfl
  | cons u us ih => intro cs o; rw [putRow, ih]; simp
theorem putRow_out (us : List Value) : ∀ (cs : Array Value) (o m : Nat), m < o ∨ o + us.length ≤ m → (putRow cs o us)[m]? = cs[m]? := by
  induction us with
  | nil => intro cs o m _; rfl
  | cons u us ih =>
    intro cs o m h
    rw [List.length_cons] at h
    rw [putRow, ih _ _ _ (by omega), Array.getElem?_setIfInBounds_ne (by omega)]
theorem putRow_in (us : List Value) : ∀ (cs : Array Value) (o j : Nat), o + us.length ≤ cs.size → j < us.length → (putRow cs o us)[o + j]? = us[j]? := by
  induction us with
  | nil => intro cs o j _ h; simp at h
  | cons u us ih =>
    intro cs o j h hj
    rw [List.length_cons] at h hj
    rw [putRow]
    cases j with
    | zero =>
      show (putRow (cs.setIfInBounds o u) (o + 1) us)[o]? = some u
      rw [putRow_out us _ (o + 1) o (by omega)]
      have : o < cs.size := by omega
      simp [this]
    | succ j =>
      have := ih (cs.setIfInBounds o u) (o + 1) j (by simp; omega) (by omega)
      rw [show o + (j + 1) = o + 1 + j from by omega, this]; simp
theorem heap_setCell_at {w : World} {g i : Nat} {cs : Array Value} {t : TypeId} {fr : Nat × Nat} (h : w.heap[g]? = some (.cells cs t fr)) (u : Value) :
    (w.setCell ⟨g, i, none⟩ u).heap[g]? = some (.cells (cs.setIfInBounds i u) t fr) := by
  simp [World.setCell, Array.getElem?_modify, h]
theorem row_cell {w : World} {g i : Nat} {cs : Array Value} {e : TypeId} {fr : Nat × Nat} (h : w.heap[g]? = some (.cells cs e fr)) (hi : i < cs.size) : ∃ v, w.cell? ⟨g, i, none⟩ = some v :=
  ⟨cs[i], by simp [World.cell?, h, hi]⟩
theorem row_free {w : World} {g : Nat} {cs : Array Value} {e : TypeId} (h : w.heap[g]? = some (.cells cs e (0, 0))) (i : Nat) : w.frozen? ⟨g, i, none⟩ = false := by simp [World.frozen?, h]
def Filled {α : Type} (enc : α → List Value) (sz : Nat) (cs : Array Value) (l : List α) (k : Nat) : Prop :=
  cs.size = l.length * sz ∧ ∀ i x, i < k → l[i]? = some x → ∀ j u, (enc x)[j]? = some u → cs[i * sz + j]? = some u
theorem Filled.zero {α : Type} {enc : α → List Value} {sz : Nat} {cs : Array Value} {l : List α} (h : cs.size = l.length * sz) : Filled enc sz cs l 0 := ⟨h, fun _ _ h => absurd h (by omega)⟩
theorem Filled.step {α : Type} {enc : α → List Value} {sz : Nat} {cs : Array Value} {l : List α} {k : Nat} {x : α} (hs : ∀ x, (enc x).length = sz) (h : Filled enc sz cs l k) (hx : l[k]? = some x) :
    Filled enc sz (putRow cs (k * sz) (enc x)) l (k + 1) := by
  have hk := (List.getElem?_eq_some_iff.1 hx).1
  have hroom : k * sz + sz ≤ l.length * sz := by
    have : (k + 1) * sz ≤ l.length * sz := Nat.mul_le_mul_right _ hk
    rw [Nat.succ_mul] at this; exact this
  refine ⟨by rw [size_putRow]; exact h.1, fun i y hi hy j u hu => ?_⟩
  have hj : j < sz := by
    have := (List.getElem?_eq_some_iff.1 hu).1
    rw [hs y] at this; exact this
  by_cases hik : i = k
  · subst hik
    rw [hx] at hy; injection hy with hy; subst hy
    rw [putRow_in _ _ _ _ (by rw [hs, h.1]; exact hroom) (by rw [hs]; exact hj), hu]
  · have hlt : i * sz + j < k * sz := by
      have : (i + 1) * sz ≤ k * sz := Nat.mul_le_mul_right _ (by omega)
      rw [Nat.succ_mul] at this; omega
    rw [putRow_out _ _ _ _ (.inl hlt)]
    exact h.2 i y (by omega) hy j u hu
theorem Filled.list {α : Type} {enc : α → List Value} {sz : Nat} {cs : Array Value} {l : List α} (hs : ∀ x, (enc x).length = sz) (hsz : 0 < sz) (h : Filled enc sz cs l l.length) : cs.toList = l.flatMap enc := by
  apply List.ext_getElem?
  intro m
  by_cases hm : m < l.length * sz
  · have hi : m / sz < l.length := Nat.div_lt_of_lt_mul (by rw [Nat.mul_comm]; exact hm)
    have hj : m % sz < sz := Nat.mod_lt _ hsz
    have e : m = m / sz * sz + m % sz := by have := Nat.div_add_mod m sz; rw [Nat.mul_comm] at this; omega
    have hu : (enc (l[m / sz]))[m % sz]? = some ((enc (l[m / sz]))[m % sz]'(by rw [hs]; exact hj)) := List.getElem?_eq_getElem _
    have h1 := h.2 (m / sz) _ hi (List.getElem?_eq_getElem hi) (m % sz) _ hu
    have h2 := flatMap_get hs l (m / sz) _ (List.getElem?_eq_getElem hi) (m % sz) _ hu
    rw [← e] at h1 h2
    rw [h2, Array.getElem?_toList, h1]
  · rw [List.getElem?_eq_none (by rw [Array.length_toList, h.1]; omega), List.getElem?_eq_none (by rw [length_flatMap hs]; omega)]
theorem Filled.own {α : Type} {enc : α → List Value} {sz : Nat} {cs : Array Value} {l : List α} (hs : ∀ x, (enc x).length = sz) (hsz : 0 < sz) {w : World} {lo g n : Nat} {e : TypeId} (h : Filled enc sz cs l n) (hn : l.length = n)
    (hg : w.heap[g]? = some (.cells cs e (0, 0))) (hlo : lo ≤ g) (hm : n ≤ maxLen) : w.ownsRow lo e sz (.slice (some ⟨g, 0, none⟩) n n) n (l.flatMap enc) := by
  subst hn
  refine ⟨length_flatMap hs l, .inr ⟨g, _, cs, rfl, hlo, hg, Nat.le_refl _, hm, h.1, ?_⟩⟩
  rw [← h.1, ← Array.length_toList, List.take_length, Filled.list hs hsz h]
theorem flatMap_set {α : Type} {enc : α → List Value} {sz : Nat} (hs : ∀ x, (enc x).length = sz) {x x' : α} {j : Nat} {u : Value} (he : enc x' = (enc x).set j u) (hj : j < sz) :
    ∀ (l : List α) (i : Nat), l[i]? = some x → (l.flatMap enc).set (i * sz + j) u = (l.set i x').flatMap enc := by
  intro l
  induction l with
  | nil => intro i h; simp at h
  | cons y l ih =>
    intro i h
    cases i with
    | zero =>
      simp only [List.getElem?_cons_zero, Option.some.injEq] at h
      subst h
      rw [List.flatMap_cons, List.set_cons_zero, List.flatMap_cons, he, List.set_append_left _ _ (by rw [hs]; omega)]
      simp
    | succ i =>
      simp only [List.getElem?_cons_succ] at h
      rw [List.flatMap_cons, List.set_cons_succ, List.flatMap_cons, ← ih i h, List.set_append_right _ _ (by rw [hs, Nat.succ_mul]; omega)]
      congr 2
      rw [hs, Nat.succ_mul]; omega
theorem own_form {w : World} {lo sz n : Nat} {e : TypeId} {v : Value} {xs : List Value} (h : w.ownsRow lo e sz v n xs) (hn : 0 < n) : ∃ g cap, v = .slice (some ⟨g, 0, none⟩) n cap ∧ lo ≤ g ∧ g < w.heap.size ∧ n ≤ cap := by
  rcases h.2 with ⟨_, h0⟩ | ⟨g, cap, cur, rfl, hb, hg, hc, _⟩
  · omega
  · exact ⟨g, cap, rfl, hb, lt_of_block hg, hc⟩
theorem new_cells (w : World) (cs : Array Value) (t : TypeId) (l : List Value) (h : cs.toList = l) : ∀ j u, l[j]? = some u → (w.alloc (.cells cs t)).cell? ((⟨w.heap.size, 0, none⟩ : Addr).add j) = some u := by
  intro j u hu
  have e : (⟨w.heap.size, 0, none⟩ : Addr).add j = ⟨w.heap.size, j, none⟩ := by unfold Addr.add; split <;> simp_all
  rw [e, World.cell?_alloc_at _ _ _ _ rfl, ← Array.getElem?_toList, h, hu]
theorem one_enc {α : Type} {enc : α → List Value} (h : ∀ x, ∀ u ∈ enc x, u.oneCell' = true) (l : List α) : ∀ u ∈ l.flatMap enc, u.oneCell' = true := by
  intro u hu
  obtain ⟨x, _, hx⟩ := List.mem_flatMap.1 hu
  exact h x u hx
theorem Upd.len (u : Upd) : u.enc.length = 2 := rfl
theorem Stp.len (u : Stp) : u.enc.length = 3 := rfl
theorem Cll.len (u : Cll) : u.enc.length = 4 := rfl
theorem encInt_len (u : Int) : (encInt u).length = 1 := rfl
theorem Upd.one (x : Upd) : ∀ u ∈ x.enc, u.oneCell' = true := by intro u hu; simp [Upd.enc] at hu; rcases hu with rfl | rfl <;> rfl
theorem Stp.one (x : Stp) : ∀ u ∈ x.enc, u.oneCell' = true := by intro u hu; simp [Stp.enc] at hu; rcases hu with rfl | rfl | rfl <;> rfl
theorem Cll.one (x : Cll) : ∀ u ∈ x.enc, u.oneCell' = true := by intro u hu; simp [Cll.enc] at hu; rcases hu with rfl | rfl | rfl | rfl <;> rfl
theorem encInt_one (x : Int) : ∀ u ∈ encInt x, u.oneCell' = true := by intro u hu; simp [encInt] at hu; subst hu; rfl
def Src (w : World) (sz : Nat) (A : Option Addr) (m : Nat) (news : List Value) : Prop :=
  news.length = m * sz ∧ (A = none → m = 0) ∧ ∀ ad, A = some ad → ∀ j u, news[j]? = some u → w.cell? (ad.add j) = some u
theorem flat_src {α : Type} {enc : α → List Value} {sz : Nat} (hs : ∀ x, (enc x).length = sz) (hsz : 0 < sz) {w : World} {lo hi n c : Nat} {A : Option Addr} {l : List α} (h : Flat enc sz w lo hi A n c l) : Src w sz A n (l.flatMap enc) := by
  obtain ⟨h1, _, _, h4⟩ := h
  refine ⟨by rw [length_flatMap hs, h1], fun e => ?_, fun ad e j u hu => ?_⟩
  · rcases Nat.eq_zero_or_pos n with h0 | h0
    · exact h0
    · obtain ⟨b, off, e', _⟩ := h4 h0
      rw [e] at e'; cases e'
  · have hj := (List.getElem?_eq_some_iff.1 hu).1
    rw [length_flatMap hs] at hj
    have hi : j / sz < l.length := Nat.div_lt_of_lt_mul (by rw [Nat.mul_comm]; exact hj)
    have hm : j % sz < sz := Nat.mod_lt _ hsz
    have ej : j = j / sz * sz + j % sz := by have := Nat.div_add_mod j sz; rw [Nat.mul_comm] at this; omega
    obtain ⟨b, off, e', _, _, hc⟩ := h4 (by rw [← h1]; exact Nat.lt_of_le_of_lt (Nat.zero_le _) hi)
    rw [e] at e'; injection e' with e'; subst e'
    have hx := List.getElem?_eq_getElem hi
    have hv : (enc (l[j / sz]))[j % sz]? = some ((enc (l[j / sz]))[j % sz]'(by rw [hs]; exact hm)) := List.getElem?_eq_getElem _
    have h2 := flatMap_get hs l _ _ hx _ _ hv
    rw [← ej, hu] at h2
    injection h2 with h2
    have := hc _ _ hx _ _ hv
    rw [← h2] at this
    have ea : (⟨b, off, none⟩ : Addr).add j = ⟨b, off + j, none⟩ := by
      unfold Addr.add
      split
      · rename_i h0; rw [h0]; rfl
      · rfl
    rw [ea, ← this, show off + j = off + j / sz * sz + j % sz from by omega]
section
variable {P : Program} (w : World)
theorem run_append_src (base : Nat) (t ty e : TypeId) (i : TypeInfo) (z : Value) (size bytes : Nat) (ht : P.underlying t = some (.slice e)) (hi : P.info? e = some i) (hz : i.zero = some z)
    (hsize : i.size = size) (hby : i.bytes = bytes) (hzs : z.cells.size = size) (hsz : 0 < size)
    (v : Value) (n : Nat) (xs : List Value) (hown : w.ownsRow base e size v n xs) (A : Option Addr) (m c : Nat) (news : List Value) (hr : Src w size A m news) (h1 : ∀ u ∈ news, u.oneCell' = true)
    (h63 : n + m ≤ maxLen) (hbytes : (n + m) * bytes ≤ 140737488355328) (hbase : base ≤ w.heap.size) :
    ∃ v' w', (Builtin.append_ #[t, t] ty #[v, .slice A m c]).run P w = .ok v' w' ∧ w'.ownsRow base e size v' (n + m) (xs ++ news) ∧ w.grownBy w' v.ownBlock := by
  obtain ⟨hl, hn, hc⟩ := hr
  rcases A with _ | ad
  · obtain rfl := hn rfl
    have hnil : news = [] := List.eq_nil_of_length_eq_zero (by simpa using hl)
    subst hnil
    refine ⟨v, w, ?_, by simpa using hown, ⟨rfl, rfl, rfl, Nat.le_refl _, fun _ _ _ => rfl⟩⟩
    rcases hown.2 with ⟨rfl, rfl⟩ | ⟨g, cap, cur, rfl, _, _, hnc, _⟩
    · simp [Builtin.append_, run_underlying ht, sizeOf, typeInfo, hi, Builtin.lenOf, Builtin.firstCells]
    · simp [Builtin.append_, run_underlying ht, sizeOf, typeInfo, hi, Builtin.lenOf, Builtin.firstCells, hnc, storeCells]
  · obtain ⟨v', w', hr, h2, h3, _⟩ := run_append_own (P := P) w base t ty e i z size bytes ht hi hz hsize hby hzs hsz v n xs hown ad m c news hl (hc ad rfl) h1 h63 hbytes hbase
    exact ⟨v', w', hr, h2, h3⟩
theorem wp_append_src {o : Oper} {a : Act} {K : Act → World → Prop} {Q : Exit → Act → World → Prop} (s x : Operand) (t : TypeId)
    (ho : o.op = .call { callee := .builtin .append, args := #[s, x], argTypes := #[t, t] })
    (base : Nat) (e : TypeId) (i : TypeInfo) (z : Value) (size bytes : Nat) (ht : P.underlying t = some (.slice e)) (hi : P.info? e = some i) (hz : i.zero = some z)
    (hsize : i.size = size) (hby : i.bytes = bytes) (hzs : z.cells.size = size) (hsz : 0 < size)
    (v : Value) (n : Nat) (xs : List Value) (hs : a.eval s = v) (hown : w.ownsRow base e size v n xs) (A : Option Addr) (m c : Nat) (news : List Value) (hx : a.eval x = .slice A m c) (hr : Src w size A m news) (h1 : ∀ u ∈ news, u.oneCell' = true)
    (h63 : n + m ≤ maxLen) (hbytes : (n + m) * bytes ≤ 140737488355328) (hbase : base ≤ w.heap.size)
    (h : ∀ v' w', w'.ownsRow base e size v' (n + m) (xs ++ news) → w.grownBy w' v.ownBlock → K (a.put o.dst v') w') : o.wp P a w K Q := by
  obtain ⟨v', w', hrun, h2, h3⟩ := run_append_src (P := P) w base t o.type e i z size bytes ht hi hz hsize hby hzs hsz v n xs hown A m c news hr h1 h63 hbytes hbase
  unfold Oper.wp execOp
  simp only [ho, resolve, invoke, builtin, Sem.run_bind, Sem.run_pure, Result.andThen_ok, List.map_toArray, List.map_cons, List.map_nil, hs, hx, hrun]
  exact h v' w' h2 h3
theorem wpList_append_src {ops : Array Oper} {rest : List Oper} {o : Oper} {a : Act} {Q : Exit → Act → World → Prop} (hgd : o.guard = none) (s x : Operand) (t : TypeId)
    (ho : o.op = .call { callee := .builtin .append, args := #[s, x], argTypes := #[t, t] })
    (base : Nat) (e : TypeId) (i : TypeInfo) (z : Value) (size bytes : Nat) (ht : P.underlying t = some (.slice e)) (hi : P.info? e = some i) (hz : i.zero = some z)
    (hsize : i.size = size) (hby : i.bytes = bytes) (hzs : z.cells.size = size) (hsz : 0 < size)
    (v : Value) (n : Nat) (xs : List Value) (hs : a.eval s = v) (hown : w.ownsRow base e size v n xs) (A : Option Addr) (m c : Nat) (news : List Value) (hx : a.eval x = .slice A m c) (hr : Src w size A m news) (h1 : ∀ u ∈ news, u.oneCell' = true)
    (h63 : n + m ≤ maxLen) (hbytes : (n + m) * bytes ≤ 140737488355328) (hbase : base ≤ w.heap.size)
    (h : ∀ v' w', w'.ownsRow base e size v' (n + m) (xs ++ news) → w.grownBy w' v.ownBlock → wpList P ops Q rest (a.put o.dst v') w') : wpList P ops Q (o :: rest) a w :=
  wpList_plain hgd fun _ hK => wp_append_src w s x t ho base e i z size bytes ht hi hz hsize hby hzs hsz v n xs hs hown A m c news hx hr h1 h63 hbytes hbase fun v' w' h2 h3 => hK _ _ (h v' w' h2 h3)
theorem step_append_src {ops : Array Oper} {o : Oper} {a : Act} {K : Act → World → Prop} {Q : Exit → Act → World → Prop} {E : Prop} (hgd : o.guard = none) (s x : Operand) (t : TypeId)
    (ho : o.op = .call { callee := .builtin .append, args := #[s, x], argTypes := #[t, t] })
    (base : Nat) (e : TypeId) (i : TypeInfo) (z : Value) (size bytes : Nat) (ht : P.underlying t = some (.slice e)) (hi : P.info? e = some i) (hz : i.zero = some z)
    (hsize : i.size = size) (hby : i.bytes = bytes) (hzs : z.cells.size = size) (hsz : 0 < size)
    (v : Value) (n : Nat) (xs : List Value) (hs : a.eval s = v) (hown : w.ownsRow base e size v n xs) (A : Option Addr) (m c : Nat) (news : List Value) (hx : a.eval x = .slice A m c) (hr : Src w size A m news) (h1 : ∀ u ∈ news, u.oneCell' = true)
    (h63 : n + m ≤ maxLen) (hbytes : (n + m) * bytes ≤ 140737488355328) (hbase : base ≤ w.heap.size)
    (h : ∀ v' w', w'.ownsRow base e size v' (n + m) (xs ++ news) → w.grownBy w' v.ownBlock → K (a.put o.dst v') w') :
    if Region.wanted o (yielded ops a.tmps) = true then Oper.wp P o a w K Q else E := by
  have hw : Region.wanted o (yielded ops a.tmps) = true := by simp [Region.wanted, hgd]
  rw [if_pos hw]
  exact wp_append_src w s x t ho base e i z size bytes ht hi hz hsize hby hzs hsz v n xs hs hown A m c news hx hr h1 h63 hbytes hbase h
end
theorem Flat.upd {w : World} {lo hi n c k : Nat} {A : Option Addr} {l : List Upd} (h : Flat Upd.enc 2 w lo hi A n c l) (hk : k < n) :
    ∃ b off x, A = some ⟨b, off, none⟩ ∧ lo ≤ b ∧ b < hi ∧ l[k]? = some x ∧ w.cell? ⟨b, off + k * 2, none⟩ = some (.int .i64 x.key) ∧ w.cell? ⟨b, off + k * 2 + 1, none⟩ = some (.int .i64 x.value) := by
  obtain ⟨b, off, x, e, h1, h2, hx, hc⟩ := h.at_ hk
  exact ⟨b, off, x, e, h1, h2, hx, hc 0 _ rfl, hc 1 _ rfl⟩
theorem Flat.cll {w : World} {lo hi n c k : Nat} {A : Option Addr} {l : List Cll} (h : Flat Cll.enc 4 w lo hi A n c l) (hk : k < n) :
    ∃ b off x, A = some ⟨b, off, none⟩ ∧ lo ≤ b ∧ b < hi ∧ l[k]? = some x ∧ w.cell? ⟨b, off + k * 4, none⟩ = some (.int .i64 x.client) ∧ w.cell? ⟨b, off + k * 4 + 1, none⟩ = some (.int .i64 x.number) ∧
      w.cell? ⟨b, off + k * 4 + 2, none⟩ = some (.int .i64 x.what.key) ∧ w.cell? ⟨b, off + k * 4 + 3, none⟩ = some (.int .i64 x.what.value) := by
  obtain ⟨b, off, x, e, h1, h2, hx, hc⟩ := h.at_ hk
  exact ⟨b, off, x, e, h1, h2, hx, hc 0 _ rfl, hc 1 _ rfl, hc 2 _ rfl, hc 3 _ rfl⟩
theorem Flat.int_ {w : World} {lo hi n c k : Nat} {A : Option Addr} {l : List Int} (h : Flat encInt 1 w lo hi A n c l) (hk : k < n) :
    ∃ b off x, A = some ⟨b, off, none⟩ ∧ lo ≤ b ∧ b < hi ∧ l[k]? = some x ∧ w.cell? ⟨b, off + k, none⟩ = some (.int .i64 x) := by
  obtain ⟨b, off, x, e, h1, h2, hx, hc⟩ := h.at_ hk
  exact ⟨b, off, x, e, h1, h2, hx, by have := hc 0 _ rfl; rwa [Nat.mul_one] at this⟩
theorem below_of_regrown {w w' : World} (h : ∃ p : Regrown, w' = Sort.grow (redrawn w p.d) p.os) : Below w.heap.size w w' := by obtain ⟨p, rfl⟩ := h; exact below_regrown w p.d p.os
end Go.Proofs.YtemgilofjbnoaaaGreatDoor
namespace Go.Proofs.YtemgilofjbnoaaaGreatDoor
open Go.RowKit
def inB (n lo hi : Int) : Bool := decide (lo ≤ n) && decide (n ≤ hi)
def updOk (k v : Int) : Bool := inB k 0 4 && inB v 0 99
def callIn (c n : Int) : Bool := inB c 0 99 && inB n 1 9999
def cllOk (c n k v : Int) : Bool := callIn c n && updOk k v
def stpOk (r : Bool) (k v : Int) : Bool := inB k 0 4 && inB v (if r then -1 else 0) 99
set_option maxHeartbeats 400000 in
theorem l6In_any (n lo hi : Int) (w : World) :
    Calls Mo.prog 72 #[.int .i64 n, .int .i64 lo, .int .i64 hi] w fun e w' => e = .returned (.bool (inB n lo hi)) ∧ w = w' := by
  go_enter Mo.func72, Tryz.ntmps72
  go_wp2
  all_goals go_ret
  all_goals exact ⟨ret_bool (by simp [inB]; try omega), rfl⟩
set_option maxHeartbeats 400000 in
theorem keyValid_any (n : Int) (w : World) :
    Calls Mo.prog 47 #[.int .i64 n] w fun e w' => e = .returned (.bool (inB n 0 4)) ∧ w = w' := by
  go_enter Mo.func47, Tryz.ntmps47
  go_wp2
  all_goals go_ret
  all_goals exact ⟨ret_bool (by rw [Bool.eq_iff_iff]; simp [inB]; try omega), rfl⟩
set_option maxHeartbeats 400000 in
theorem updValid_any (k v : Int) (w : World) :
    Calls Mo.prog 92 #[.agg #[.int .i64 k, .int .i64 v]] w fun e w' => e = .returned (.bool (updOk k v)) ∧ Below w.heap.size w w' := by
  cases hk : inB k 0 4
  all_goals
    go_enter Mo.func92, Tryz.ntmps92
    go_wp2_with (go_at_call 47; refine (keyValid_any _ _).mono ?_; rintro e w' ⟨rfl, rfl⟩)
  all_goals go_ret
  all_goals exact ⟨ret_bool (by simp [updOk, hk]; try (rw [Bool.eq_iff_iff]; simp [inB]; omega)), (Below.refl _ _).alloc (Nat.le_refl _) _⟩
set_option maxHeartbeats 400000 in
theorem updateValid_any (k v : Int) (w : World) :
    Calls Mo.prog 65 #[.agg #[.int .i64 k, .int .i64 v]] w fun e w' => e = .returned (.bool (updOk k v)) ∧ Below w.heap.size w w' := by
  go_enter Mo.func65, Tryz.ntmps65
  go_wp2_with (go_at_call 92; refine (updValid_any _ _ _).mono ?_; rintro e w1 ⟨rfl, hb⟩)
  go_ret
  exact ⟨rfl, ((Below.refl _ _).alloc (Nat.le_refl _) _).trans (hb.mono (by simp))⟩
set_option maxHeartbeats 400000 in
theorem specUpdateValid_any (k v : Int) (w : World) :
    Calls Mo.prog 73 #[.agg #[.int .i64 k, .int .i64 v]] w fun e w' => e = .returned (.bool (updOk k v)) ∧ Below w.heap.size w w' := by
  cases hk : inB k 0 4
  all_goals
    go_enter Mo.func73, Tryz.ntmps73
    go_wp2_with (go_at_call 72; refine (l6In_any _ _ _ _).mono ?_; rintro e w' ⟨rfl, rfl⟩)
  all_goals go_ret
  all_goals exact ⟨ret_bool (by simp [updOk, hk]), (Below.refl _ _).alloc (Nat.le_refl _) _⟩
set_option maxHeartbeats 400000 in
theorem callInRange_any (c n : Int) (w : World) :
    Calls Mo.prog 50 #[.int .i64 c, .int .i64 n] w fun e w' => e = .returned (.bool (callIn c n)) ∧ w = w' := by
  go_enter Mo.func50, Tryz.ntmps50
  go_wp2
  all_goals go_ret
  all_goals exact ⟨ret_bool (by rw [Bool.eq_iff_iff]; simp [callIn, inB]; try omega), rfl⟩
set_option maxHeartbeats 400000 in
theorem callValid_any (c n k v : Int) (w : World) :
    Calls Mo.prog 35 #[.agg #[.int .i64 c, .int .i64 n, .int .i64 k, .int .i64 v]] w fun e w' => e = .returned (.bool (cllOk c n k v)) ∧ Below w.heap.size w w' := by
  cases hk : callIn c n
  all_goals
    go_enter Mo.func35, Tryz.ntmps35
    go_wp2_with (first | (go_at_call 50; refine (callInRange_any _ _ _).mono ?_; rintro e w' ⟨rfl, rfl⟩) | (go_at_call 65; refine (updateValid_any _ _ _).mono ?_; rintro e w1 ⟨rfl, hb⟩))
  all_goals go_ret
  · exact ⟨ret_bool (by simp [cllOk, hk]), (Below.refl _ _).alloc (Nat.le_refl _) _⟩
  · exact ⟨ret_bool (by simp [cllOk, hk]), ((Below.refl _ _).alloc (Nat.le_refl _) _).trans (hb.mono (by simp))⟩
set_option maxHeartbeats 400000 in
theorem l15Call_any (c n k v : Int) (w : World) :
    Calls Mo.prog 41 #[.agg #[.int .i64 c, .int .i64 n, .int .i64 k, .int .i64 v]] w fun e w' => e = .returned (.bool (cllOk c n k v)) ∧ Below w.heap.size w w' := by
  cases hk : inB c 0 99
  all_goals cases hn : inB n 1 9999
  all_goals
    go_enter Mo.func41, Tryz.ntmps41
    go_wp2_with (first | (go_at_call 72; refine (l6In_any _ _ _ _).mono ?_; rintro e w' ⟨rfl, rfl⟩) | (go_at_call 73; refine (specUpdateValid_any _ _ _).mono ?_; rintro e w1 ⟨rfl, hb⟩))
  all_goals go_ret
  · exact ⟨ret_bool (by simp [cllOk, callIn, hk]), (Below.refl _ _).alloc (Nat.le_refl _) _⟩
  · exact ⟨ret_bool (by simp [cllOk, callIn, hk]), (Below.refl _ _).alloc (Nat.le_refl _) _⟩
  · exact ⟨ret_bool (by simp [cllOk, callIn, hn]), (Below.refl _ _).alloc (Nat.le_refl _) _⟩
  · exact ⟨ret_bool (by simp [cllOk, callIn, hk, hn]), ((Below.refl _ _).alloc (Nat.le_refl _) _).trans (hb.mono (by simp))⟩
end Go.Proofs.YtemgilofjbnoaaaGreatDoor
namespace Go.Proofs.YtemgilofjbnoaaaGreatDoor
open Go.RowKit
def encU8 (x : Int) : List Value := [.int .u8 x]
theorem encU8_len (u : Int) : (encU8 u).length = 1 := rfl
def Rd (w : World) (rb B p : Nat) : Prop :=
  B ≤ rb ∧ ∃ A n c l, w.heap[rb]? = some (.cells #[.slice A n c, .int .i64 (p : Int)] 90 (0, 0)) ∧ Flat encU8 1 w 0 B A n c l ∧ (∀ x ∈ l, 0 ≤ x ∧ x ≤ 255) ∧ n ≤ 2000
theorem Flat.u8 {w : World} {lo hi n c k : Nat} {A : Option Addr} {l : List Int} (h : Flat encU8 1 w lo hi A n c l) (hk : k < n) :
    ∃ b off x, A = some ⟨b, off, none⟩ ∧ lo ≤ b ∧ b < hi ∧ l[k]? = some x ∧ w.cell? ⟨b, off + k, none⟩ = some (.int .u8 x) := by
  obtain ⟨b, off, x, e, h1, h2, hx, hc⟩ := h.at_ hk
  exact ⟨b, off, x, e, h1, h2, hx, by have := hc 0 _ rfl; rwa [Nat.mul_one] at this⟩
theorem Rd.lt {w : World} {rb B p : Nat} (h : Rd w rb B p) : rb < w.heap.size := by
  obtain ⟨_, A, n, c, l, hg, _⟩ := h; exact lt_of_block hg
theorem Rd.keep {w w' : World} {rb B p : Nat} (h : Rd w rb B p) (hk : ∀ k, k ≤ rb → w'.heap[k]? = w.heap[k]?) : Rd w' rb B p := by
  obtain ⟨hB, A, n, c, l, hg, hf, hb, hn⟩ := h
  exact ⟨hB, A, n, c, l, (hk rb (Nat.le_refl _)).trans hg, hf.keep (fun k _ h2 => hk k (by omega)), hb, hn⟩
theorem Rd.below {w w' : World} {rb B p : Nat} (h : Rd w rb B p) (hb : Below w.heap.size w w') : Rd w' rb B p :=
  h.keep fun k hk => hb.block k (by have := h.lt; omega)
theorem only_refl (w : World) (rb : Nat) : w.grownBy w (some rb) := ⟨rfl, rfl, rfl, Nat.le_refl _, fun _ _ _ => rfl⟩
theorem only_trans {a b c : World} {rb : Nat} (h : a.grownBy b (some rb)) (k : b.grownBy c (some rb)) : a.grownBy c (some rb) :=
  ⟨k.os.trans h.os, k.tape.trans h.tape, k.output.trans h.output, Nat.le_trans h.size k.size, fun i hi hn => (k.block i (Nat.lt_of_lt_of_le hi h.size) hn).trans (h.block i hi hn)⟩
theorem only_of_below {a b : World} {rb : Nat} (h : Below a.heap.size a b) : a.grownBy b (some rb) := ⟨h.os, h.tape, h.output, h.size, fun i hi _ => h.block i hi⟩
def Picked (w : World) (rb B p : Nat) (n : Int) (e : Ending) (w' : World) : Prop :=
  ∃ v : Int, e = .returned (.int .i64 v) ∧ 0 ≤ v ∧ (1 ≤ n → v < n) ∧ (n < 1 → v = 0) ∧ Rd w' rb B (p + 1) ∧ w.grownBy w' (some rb)
theorem rd_step {w : World} {rb B p n c : Nat} {A : Option Addr} {l : List Int} (hB : B ≤ rb) (hg : w.heap[rb]? = some (.cells #[.slice A n c, .int .i64 (p : Int)] 90 (0, 0))) (hf : Flat encU8 1 w 0 B A n c l) (hb : ∀ x ∈ l, 0 ≤ x ∧ x ≤ 255) (hn : n ≤ 2000) :
    Rd (w.setCell ⟨rb, 1, none⟩ (.int .i64 ((p : Int) + 1))) rb B (p + 1) ∧ w.grownBy (w.setCell ⟨rb, 1, none⟩ (.int .i64 ((p : Int) + 1))) (some rb) := by
  refine ⟨⟨hB, A, n, c, l, ?_, hf.keep (fun k _ h2 => Below.heap_setCell _ _ _ _ (by show k ≠ rb; omega)), hb, hn⟩, rfl, rfl, rfl, by simp [World.setCell], fun k _ hk => Below.heap_setCell _ _ _ _ (fun e => hk (by rw [e]))⟩
  rw [heap_setCell_at hg]; rfl
theorem ofInt64 (a : Nat) (ha : a < 9223372036854775808) : (BitVec.ofInt 64 (a : Int)).toNat = a := by
  rw [BitVec.ofInt_natCast, BitVec.toNat_ofNat]; exact Nat.mod_eq_of_lt (by omega)
theorem xor64 (a b : Nat) (ha : a < 9223372036854775808) (hb : b < 9223372036854775808) : bits .xor .i64 (a : Int) (b : Int) = ((a ^^^ b : Nat) : Int) := by
  have hx : a ^^^ b < 2 ^ 63 := Nat.xor_lt_two_pow (by omega) (by omega)
  show IntKind.i64.wrap ((BitVec.ofInt 64 (a : Int) ^^^ BitVec.ofInt 64 (b : Int)).toNat : Int) = _
  rw [BitVec.toNat_xor, ofInt64 a ha, ofInt64 b hb, IntKind.wrap_i64]
  omega
set_option maxHeartbeats 1000000 in
theorem pick_any (rb B p : Nat) (n : Int) (w : World) (h : Rd w rb B p) (hp : p ≤ 1099511627776) :
    Calls Mo.prog 32 #[.pointer (some ⟨rb, 0, none⟩), .int .i64 n] w (Picked w rb B p n) := by
  obtain ⟨hB, A, m, c, l, hg, hf, hl, hm⟩ := h
  obtain ⟨hrd, hgr⟩ := rd_step hB hg hf hl hm
  have q0 : w.cell? ⟨rb, 0, none⟩ = some (.slice A m c) := by simp [World.cell?, hg]
  have q1 : w.cell? ⟨rb, 1, none⟩ = some (.int .i64 (p : Int)) := by simp [World.cell?, hg]
  have f1 := row_free hg 1
  have HR := Lib.hid hrd
  have HG := Lib.hid hgr
  clear hrd hgr hg
  by_cases hn : n < 1
  · go_enter Mo.func32, Tryz.ntmps32
    go_wp2
    go_ret
    exact ⟨0, rfl, by omega, by omega, by omega, HR.out, HG.out⟩
  · by_cases hm0 : m = 0
    · have hz : ((m : Int) == 0) = true := by simp; omega
      go_enter Mo.func32, Tryz.ntmps32
      go_wp2
      go_ret
      exact ⟨0, rfl, by omega, by omega, by omega, HR.out, HG.out⟩
    · have hz : ((m : Int) == 0) = false := by simp; omega
      by_cases hlt : p < m
      · obtain ⟨b, off, x, rfl, _, hb, hx, hc⟩ := hf.u8 hlt
        have hxr := hl x (List.mem_of_getElem? hx)
        have hne : b ≠ rb := by omega
        go_enter Mo.func32, Tryz.ntmps32
        go_wp2
        go_ret
        exact ⟨x % n, rfl, Int.emod_nonneg _ (by omega), fun _ => Int.emod_lt_of_pos _ (by omega), fun h => absurd hn (by omega), HR.out, HG.out⟩
      · obtain ⟨b, off, x, rfl, _, hb, hx, hc⟩ := hf.u8 (show p % m < m from Nat.mod_lt _ (by omega))
        obtain ⟨b', off', y, e', _, _, hy, hc'⟩ := hf.u8 (show (p * 7 + 3) % m < m from Nat.mod_lt _ (by omega))
        obtain ⟨rfl, rfl⟩ : b = b' ∧ off = off' := by injection e' with e'; injection e' with e1 e2; exact ⟨e1, e2⟩
        have hxr := hl x (List.mem_of_getElem? hx)
        have hyr := hl y (List.mem_of_getElem? hy)
        clear hx hy e' hl hf
        have hne : b ≠ rb := by omega
        have hd1 : p / m ≤ p := Nat.div_le_self _ _
        have hq1 : p % m < m := Nat.mod_lt _ (by omega)
        have hq2 : (p * 7 + 3) % m < m := Nat.mod_lt _ (by omega)
        have e1 : ((p : Int) / (m : Int)) = ((p / m : Nat) : Int) := by simp
        have e2 : (Int.tdiv (p : Int) (m : Int)) = ((p / m : Nat) : Int) := rfl
        have e3 : ((p : Int) % (m : Int)) = ((p % m : Nat) : Int) := by simp
        have e4 : (Int.tmod (p : Int) (m : Int)) = ((p % m : Nat) : Int) := rfl
        have e5 : (((p : Int) * 7 + 3) % (m : Int)) = (((p * 7 + 3) % m : Nat) : Int) := by simp
        have e6 : (Int.tmod ((p : Int) * 7 + 3) (m : Int)) = (((p * 7 + 3) % m : Nat) : Int) := rfl
        obtain ⟨d, hd⟩ : ∃ d, d = p / m := ⟨_, rfl⟩
        obtain ⟨q, hq⟩ : ∃ q, q = p % m := ⟨_, rfl⟩
        obtain ⟨q', hq'⟩ : ∃ q', q' = (p * 7 + 3) % m := ⟨_, rfl⟩
        rw [← hd] at hd1 e1 e2
        rw [← hq] at hq1 e3 e4 hc
        rw [← hq'] at hq2 e5 e6 hc'
        clear hd hq hq'
        obtain ⟨W, hW⟩ : ∃ W, W = w.setCell ⟨rb, 1, none⟩ (.int .i64 ((p : Int) + 1)) := ⟨_, rfl⟩
        have r0 : W.cell? ⟨rb, 0, none⟩ = some (.slice (some ⟨b, off, none⟩) m c) := by rw [hW, World.cell?_setCell_other w _ _ _ (by simp)]; exact q0
        have r1 : W.cell? ⟨b, off + q, none⟩ = some (.int .u8 x) := by rw [hW, World.cell?_setCell_other w _ _ _ (by simp only [ne_eq, Addr.mk.injEq]; omega)]; exact hc
        have r2 : W.cell? ⟨b, off + q', none⟩ = some (.int .u8 y) := by rw [hW, World.cell?_setCell_other w _ _ _ (by simp only [ne_eq, Addr.mk.injEq]; omega)]; exact hc'
        have HW := Lib.hid hW
        clear hW
        go_enter Mo.func32, Tryz.ntmps32
        go_wp2
        rw [← HW.out]
        clear q0 q1 f1 hc hc'
        refine wp_region_quiet_lit (by kernel_rfl) (by kernel_rfl) ?_
        repeat (go_big_quiet_step (fail))
        refine wpQuiet_nil ?_
        intro W' hW'
        obtain ⟨nq, rfl⟩ := hW'
        clear r0 r1 r2 e1 e2 e3 e4 e5 e6
        obtain ⟨N, hN, hNb⟩ : ∃ N : Nat, x * 131 + y * 1117 + (p : Int) * 29 + (d : Int) * 53 = (N : Int) ∧ N < 4611686018427387904 := ⟨(x * 131 + y * 1117 + (p : Int) * 29 + (d : Int) * 53).toNat, by omega, by omega⟩
        rw [hN]
        clear hN
        have hx1 := xor64 N (N / 64) (by omega) (by omega)
        have hx2 : ((N / 64 : Nat) : Int) = (N : Int) / 64 := by simp
        rw [hx2] at hx1
        clear hx2
        obtain ⟨z, hz'⟩ : ∃ z, z = N ^^^ (N / 64) := ⟨_, rfl⟩
        rw [← hz'] at hx1
        clear hz'
        go_wp2
        go_ret
        rw [HW.out]
        exact ⟨(z : Int) % n, rfl, Int.emod_nonneg _ (by omega), fun _ => Int.emod_lt_of_pos _ (by omega), fun h => absurd hn (by omega), HR.out.keep (fun _ _ => rfl), HG.out.os, HG.out.tape, HG.out.output, HG.out.size, HG.out.block⟩
def DrF {α : Type} (enc : α → List Value) (sz : Nat) (e : TypeId) (w0 w : World) (rb B p : Nat) (v : Value) (l : List α) : Prop :=
  Rd w rb B p ∧ w.ownsRow w0.heap.size e sz v l.length (l.flatMap enc) ∧ w0.grownBy w (some rb) ∧ rb < w0.heap.size
section
variable {α : Type} {enc : α → List Value} {sz : Nat} {e : TypeId} {w0 w w' : World} {rb B p p' : Nat} {v v' : Value} {l : List α}
theorem DrF.picked (h : DrF enc sz e w0 w rb B p v l) (hr : Rd w' rb B p') (hg : w.grownBy w' (some rb)) : DrF enc sz e w0 w' rb B p' v l := by
  obtain ⟨_, h2, h3, h4⟩ := h
  refine ⟨hr, h2.kept hg ?_, only_trans h3 hg, h4⟩
  cases hv : v.ownBlock with
  | none => exact .inl rfl
  | some k => exact .inr (fun e => by injection e with e; have := (h2.lt k hv).1; omega)
theorem DrF.alloc (h : DrF enc sz e w0 w rb B p v l) (o : Obj) : DrF enc sz e w0 (w.alloc o) rb B p v l :=
  ⟨h.1.below ((Below.refl _ _).alloc (Nat.le_refl _) _), h.2.1.alloc o, only_trans h.2.2.1 (only_of_below ((Below.refl _ _).alloc (Nat.le_refl _) _)), h.2.2.2⟩
theorem DrF.appended {x : α} (h : DrF enc sz e w0 w rb B p v l) {o : Obj} (hown : w'.ownsRow w0.heap.size e sz v' (l.length + 1) (l.flatMap enc ++ enc x)) (hg : (w.alloc o).grownBy w' v.ownBlock) :
    DrF enc sz e w0 w' rb B p v' (l ++ [x]) := by
  obtain ⟨h1, h2, h3, h4⟩ := h
  have hblk : ∀ k, k < w.heap.size → some k ≠ v.ownBlock → w'.heap[k]? = w.heap[k]? := fun k hk hne => (hg.block k (by simp; omega) hne).trans (Below.heap_alloc _ _ _ hk)
  have hlt : rb < w.heap.size := h1.lt
  have hold : ∀ k, k < w0.heap.size → some k ≠ v.ownBlock := fun k hk e => by have := (h2.lt k e.symm).1; omega
  refine ⟨h1.keep (fun k hk => hblk k (by omega) (hold k (by omega))), ?_, ⟨hg.os.trans h3.os, hg.tape.trans h3.tape, hg.output.trans h3.output, Nat.le_trans h3.size (Nat.le_trans (by simp) hg.size), fun k hk hn => (hblk k (Nat.lt_of_lt_of_le hk h3.size) (hold k hk)).trans (h3.block k hk hn)⟩, h4⟩
  rw [List.length_append, List.flatMap_append]
  simpa using hown
theorem DrF.stored {x x' : α} {i j : Nat} {u : Value} {g cap : Nat} (hs : ∀ x, (enc x).length = sz) (he : enc x' = (enc x).set j u) (hj : j < sz) (hi : l[i]? = some x)
    (h : DrF enc sz e w0 w rb B p (.slice (some ⟨g, 0, none⟩) l.length cap) l) :
    DrF enc sz e w0 (w.setCell ⟨g, i * sz + j, none⟩ u) rb B p (.slice (some ⟨g, 0, none⟩) l.length cap) (l.set i x') := by
  obtain ⟨h1, h2, h3, h4⟩ := h
  have hg : w0.heap.size ≤ g := (h2.lt g rfl).1
  refine ⟨h1.keep (fun k hk => Below.heap_setCell _ _ _ _ (by show k ≠ g; omega)), ?_, ⟨h3.os, h3.tape, h3.output, by simpa [World.setCell] using h3.size, fun k hk hn => (Below.heap_setCell _ _ _ _ (by show k ≠ g; omega)).trans (h3.block k hk hn)⟩, h4⟩
  have := h2.stored (i * sz + j) u
  rw [flatMap_set hs he hj l i hi] at this
  rw [List.length_set]
  exact this.1
end
end Go.Proofs.YtemgilofjbnoaaaGreatDoor
namespace Go.Proofs.YtemgilofjbnoaaaGreatDoor
open Go Go.Conc Go.RowKit
structure BelowT (W w' : World) : Prop where
  os : w'.os = W.os
  output : w'.output = W.output
  size : W.heap.size ≤ w'.heap.size
  block : ∀ k, k < W.heap.size → w'.heap[k]? = W.heap[k]?
theorem BelowT.below {W w' : World} (h : BelowT W w') : Below W.heap.size W { w' with tape := W.tape } := ⟨h.os, rfl, h.output, h.size, h.block⟩
theorem BelowT.frame {W w' : World} (h : BelowT W w') (may : MemPlace → Prop) : W.keptBut w' may := h.below.frame may
theorem BelowT.trod {H : Type} {enc : TypeId × Value → H} {P : Program} {t : TypeId} (hl : laidOutB P = true) (hr : P.readableRec t = true) (hrow : t < P.types.size) {W W' : World} {v : Value} {d : DataW H} {ps : List MemPlace}
    (h : DataW.Trod enc P W 0 (fun _ => true) true t v d ps) (hb : BelowT W W') (hlt : ∀ x ∈ ps, x.block < W.heap.size) :
    DataW.Trod enc P W' 0 (fun b => decide (b < W.heap.size)) true t v d ps :=
  WideElems.Trod_stays hl hr hrow h (fun x hx => hb.below.same (hlt x hx)) (fun x hx => by simpa using hlt x hx)
theorem brk_cell {W w : World} (hw : w.heap = (brk W).heap) {a : Addr} {v : Value} (h : W.cell? a = some v) : w.cell? a = some v := by
  have hb : w.heap[a.block]? = W.heap[a.block]? := by
    rw [hw]
    refine brk_at W _ ?_
    rintro ⟨o, e, hb⟩
    simp only [World.cell?, e] at h
    cases o <;> first | exact absurd rfl hb | (cases hs : a.spot <;> simp at h)
  exact (World.cell?_of_block (w := W) hb).trans h
theorem brk_size {W w : World} (hw : w.heap = (brk W).heap) : w.heap.size = W.heap.size := by rw [hw]; simp [brk]
theorem brk_flat {α : Type} {enc : α → List Value} {sz : Nat} {W w : World} (hw : w.heap = (brk W).heap) {A : Option Addr} {n c : Nat} {l : List α} (h : Flat enc sz W 0 W.heap.size A n c l) : Flat enc sz w 0 w.heap.size A n c l := by
  obtain ⟨h1, h2, h3, h4⟩ := h
  refine ⟨h1, h2, h3, fun hn => ?_⟩
  obtain ⟨b, off, e, hb1, hb2, hc⟩ := h4 hn
  exact ⟨b, off, e, hb1, by rw [brk_size hw]; exact hb2, fun i x hx j u hu => brk_cell hw (hc i x hx j u hu)⟩
theorem mo_run {f : FuncId} {g : Func} (hF : FM[f]? = some g) (hb : g.body.isNone = false) (hne : f ≠ kp) (hi : Tryz.prog.inits.idxOf? f = none) (args : Array Value) (W : World)
    (H : ∀ w : World, w.heap = (brk W).heap → Calls Mo.prog f args w fun e w' => e = .returned (.bool true) ∧ Below w.heap.size w w') :
    ∃ M last o w' t', runNT Tryz.prog (M + 1) (solo (G (Frame.enter Tryz.prog f args .normal) []) W) #[] = (.ended o w', t') ∧ runN Tryz.prog M (solo (G (Frame.enter Tryz.prog f args .normal) []) W) = .next last ∧
      step Tryz.prog last = .ended o w' ∧ Go.Conc.Good Tryz.prog (fun v w' => v = .bool true ∧ BelowT W w') last o w' t' := by
  obtain ⟨he, h0⟩ := enter_ok (args := args) fitsK hF hb hne
  have hk : f ≠ k1 := fun e => by rw [e, fm_k1] at hF; cases hF
  obtain ⟨_, h1⟩ := enter_ok (args := args) fitsU hF hb hk
  refine law_run (Post := fun v w' => v = .bool true ∧ BelowT (brk W) w') fitsK fitsU fm_k1 h1 h0 he hi (fun τ => ?_) (passOk fun fr stk u h => ⟨fun e => hne (h.2.1 ▸ e), h.1⟩) ?_
  · refine (H (re (brk W) τ 0) rfl).mono ?_
    rintro e w' ⟨rfl, hb⟩
    exact ⟨rfl, hb.os, hb.output, hb.size, hb.block⟩
  · rintro u w S K v τ d ⟨rfl, hp⟩ hs hk
    refine ⟨rfl, hs.os.trans hp.os, hs.output.trans hp.output, ?_, fun k hlt => old_same hs hk (fun k hk => ?_) hlt⟩
    · have := hp.size
      have := hs.size
      have e1 : (re u τ d).heap.size = u.heap.size := rfl
      have e2 : (brk W).heap.size = W.heap.size := by simp [brk]
      omega
    · exact hp.block k (by simpa [brk] using hk)
end Go.Proofs.YtemgilofjbnoaaaGreatDoor
namespace Go.Proofs.YtemgilofjbnoaaaGreatDoor
open Go.RowKit
structure Nod where
  id : Int
  log : List Upd
  done : Int
theorem Upd.ext' {a b : Upd} (h1 : a.key = b.key) (h2 : a.value = b.value) : a = b := by cases a; cases b; simp_all
def Upd.same (a b : Upd) : Bool := decide (a.key = b.key) && decide (a.value = b.value)
theorem Upd.same_iff {a b : Upd} : a.same b = true ↔ a = b := by
  constructor
  · intro h; simp [Upd.same] at h; exact Upd.ext' h.1 h.2
  · rintro rfl; simp [Upd.same]
def logOk (l : List Upd) : Bool := decide (l.length ≤ 12) && l.all fun u => updOk u.key u.value
def common : List Upd → List Upd → Nat
  | x :: xs, y :: ys => if x.same y then common xs ys + 1 else 0
  | _, _ => 0
theorem common_step {a b : List Upd} {k : Nat} {x y : Upd} (hx : a[k]? = some x) (hy : b[k]? = some y) (h : x.same y = true) : common (a.drop k) (b.drop k) = common (a.drop (k + 1)) (b.drop (k + 1)) + 1 := by
  obtain ⟨ha, ea⟩ := List.getElem?_eq_some_iff.1 hx
  obtain ⟨hb, eb⟩ := List.getElem?_eq_some_iff.1 hy
  rw [List.drop_eq_getElem_cons ha, List.drop_eq_getElem_cons hb, ea, eb, common, h]; rfl
theorem common_part {a b : List Upd} {k : Nat} {x y : Upd} (hx : a[k]? = some x) (hy : b[k]? = some y) (h : x.same y = false) : common (a.drop k) (b.drop k) = 0 := by
  obtain ⟨ha, ea⟩ := List.getElem?_eq_some_iff.1 hx
  obtain ⟨hb, eb⟩ := List.getElem?_eq_some_iff.1 hy
  rw [List.drop_eq_getElem_cons ha, List.drop_eq_getElem_cons hb, ea, eb, common, h]; rfl
theorem common_end {a b : List Upd} {k : Nat} (h : a.length ≤ k ∨ b.length ≤ k) : common (a.drop k) (b.drop k) = 0 := by
  rcases h with h | h
  · rw [List.drop_eq_nil_of_le h]; rfl
  · rw [List.drop_eq_nil_of_le h]; cases a.drop k <;> rfl
theorem common_le (a : List Upd) : ∀ b : List Upd, common a b ≤ a.length ∧ common a b ≤ b.length := by
  induction a with
  | nil => intro b; cases b <;> exact ⟨Nat.zero_le _, Nat.zero_le _⟩
  | cons x a ih =>
    intro b
    cases b with
    | nil => exact ⟨Nat.zero_le _, Nat.zero_le _⟩
    | cons y b =>
      unfold common
      have := ih b
      split
      · simp only [List.length_cons]; omega
      · exact ⟨Nat.zero_le _, Nat.zero_le _⟩
theorem common_all {a : List Upd} : ∀ {b : List Upd}, common a b = a.length ↔ a <+: b := by
  induction a with
  | nil => intro b; simp [common]
  | cons x a ih =>
    intro b
    cases b with
    | nil => simp [common]
    | cons y b =>
      unfold common
      rw [List.cons_prefix_cons]
      split
      · rename_i h
        rw [Upd.same_iff] at h
        simp [h, ih]
      · rename_i h
        rw [Upd.same_iff] at h
        simp [h]
def logCommon (a b : List Upd) : Int := if logOk a && logOk b then (common a b : Int) else -1
def logBegins (a b : List Upd) : Bool := logOk a && logOk b && decide (common a b = a.length)
theorem logBegins_iff {a b : List Upd} : logBegins a b = true ↔ logOk a = true ∧ logOk b = true ∧ a <+: b := by
  unfold logBegins; simp [common_all, and_assoc]
def nodeOk (x : Nod) : Bool := inB x.id 1 99 && logOk x.log && inB x.done 0 x.log.length
def placeOf (l : List Nod) (id : Int) : Option Nat := l.findIdx? fun x => decide (x.id = id)
def placeI (p : Option Nat) : Int := match p with | some k => (k : Int) | none => -1
def nodAt (l : List Nod) (i : Nat) : Bool :=
  match l[i]? with
  | none => true
  | some x => nodeOk x && decide (placeOf l x.id = some i) && (match i with
    | 0 => true
    | j + 1 => match l[j]? with
      | none => true
      | some y => logBegins x.log y.log && decide (y.done ≤ x.done))
def tailOk (l : List Nod) : Bool := match l[l.length - 1]? with | some x => decide (x.done = x.log.length) | none => true
def chainOk (v : Int) (l : List Nod) : Bool := inB v 0 999 && decide (1 ≤ l.length) && decide (l.length ≤ 5) && (List.range l.length).all (nodAt l) && tailOk l
theorem placeOf_none {l : List Nod} {id : Int} (h : ∀ (i : Nat) (x : Nod), l[i]? = some x → x.id ≠ id) : placeOf l id = none := by
  unfold placeOf
  rw [List.findIdx?_eq_none_iff]
  intro x hx
  obtain ⟨i, hi⟩ := List.getElem?_of_mem hx
  simp [h i x hi]
theorem placeOf_at {l : List Nod} {id : Int} {k : Nat} {x : Nod} (hx : l[k]? = some x) (he : x.id = id) (h : ∀ (i : Nat) (y : Nod), i < k → l[i]? = some y → y.id ≠ id) : placeOf l id = some k := by
  unfold placeOf
  rw [List.findIdx?_eq_some_iff_getElem]
  obtain ⟨hk, e⟩ := List.getElem?_eq_some_iff.1 hx
  refine ⟨hk, by rw [e]; simp [he], fun j hj => ?_⟩
  have := h j l[j] hj (List.getElem?_eq_getElem _)
  simp [this]
theorem placeOf_some {l : List Nod} {id : Int} {k : Nat} (h : placeOf l id = some k) : ∃ x, l[k]? = some x ∧ x.id = id ∧ ∀ (i : Nat) (y : Nod), i < k → l[i]? = some y → y.id ≠ id := by
  unfold placeOf at h
  rw [List.findIdx?_eq_some_iff_getElem] at h
  obtain ⟨hk, he, hb⟩ := h
  refine ⟨l[k], List.getElem?_eq_getElem hk, by simpa using he, fun i y hi hy => ?_⟩
  obtain ⟨hi', e⟩ := List.getElem?_eq_some_iff.1 hy
  have := hb i hi
  rw [← e]; simpa using this
theorem placeOf_lt {l : List Nod} {id : Int} {k : Nat} (h : placeOf l id = some k) : k < l.length := by
  obtain ⟨x, hx, _⟩ := placeOf_some h
  exact (List.getElem?_eq_some_iff.1 hx).1
theorem all_range_false {p : Nat → Bool} {k n : Nat} (hk : p k = false) (h : k < n) : (List.range n).all p = false := by
  rw [List.all_eq_false]
  exact ⟨k, by simpa using h, by simp [hk]⟩
theorem all_range_succ {p : Nat → Bool} {k : Nat} (h : (List.range k).all p = true) (hk : p k = true) : (List.range (k + 1)).all p = true := by
  rw [List.range_succ, List.all_append, h]; simp [hk]
theorem all_range_at {p : Nat → Bool} {k n : Nat} (h : (List.range n).all p = true) (hk : k < n) : p k = true := by
  rw [List.all_eq_true] at h
  exact h k (by simpa using hk)
theorem chainOk_bad {v : Int} {l : List Nod} {k : Nat} (hk : nodAt l k = false) (h : k < l.length) : chainOk v l = false := by
  unfold chainOk; rw [all_range_false hk h]; simp
theorem nodAt_node {l : List Nod} {i : Nat} {x : Nod} (hx : l[i]? = some x) (h : nodeOk x = false) : nodAt l i = false := by simp [nodAt, hx, h]
theorem nodAt_place {l : List Nod} {i : Nat} {x : Nod} (hx : l[i]? = some x) (h : placeOf l x.id ≠ some i) : nodAt l i = false := by simp [nodAt, hx, h]
theorem nodAt_zero {l : List Nod} {x : Nod} (hx : l[0]? = some x) : nodAt l 0 = (nodeOk x && decide (placeOf l x.id = some 0)) := by simp [nodAt, hx]
theorem nodAt_succ {l : List Nod} {j : Nat} {x y : Nod} (hx : l[j + 1]? = some x) (hy : l[j]? = some y) :
    nodAt l (j + 1) = (nodeOk x && decide (placeOf l x.id = some (j + 1)) && (logBegins x.log y.log && decide (y.done ≤ x.done))) := by simp [nodAt, hx, hy]
structure RN where
  id : Int
  A : Option Addr
  n : Nat
  c : Nat
  done : Int
def RN.enc (r : RN) : List Value := [.int .i64 r.id, .slice r.A r.n r.c, .int .i64 r.done]
theorem RN.len (r : RN) : r.enc.length = 3 := rfl
theorem RN.one (x : RN) : ∀ u ∈ x.enc, u.oneCell' = true := by intro u hu; simp [RN.enc] at hu; rcases hu with rfl | rfl | rfl <;> rfl
def Nods (w : World) (lo hi : Nat) (A : Option Addr) (n c : Nat) (l : List Nod) : Prop :=
  ∃ rs : List RN, Flat RN.enc 3 w lo hi A n c rs ∧ rs.length = l.length ∧ ∀ (i : Nat) (r : RN) (x : Nod), rs[i]? = some r → l[i]? = some x → r.id = x.id ∧ r.done = x.done ∧ Flat Upd.enc 2 w lo hi r.A r.n r.c x.log
section
variable {w w' : World} {lo hi n c : Nat} {A : Option Addr} {l : List Nod}
theorem Nods.len (h : Nods w lo hi A n c l) : l.length = n := by obtain ⟨rs, hf, hl, _⟩ := h; rw [← hl]; exact hf.len
theorem Nods.cap (h : Nods w lo hi A n c l) : n ≤ c ∧ c ≤ maxLen := by obtain ⟨rs, hf, _⟩ := h; exact ⟨hf.2.1, hf.2.2.1⟩
theorem Nods.keep (h : Nods w lo hi A n c l) (hk : ∀ k, lo ≤ k → k < hi → w'.heap[k]? = w.heap[k]?) : Nods w' lo hi A n c l := by
  obtain ⟨rs, hf, hl, hr⟩ := h
  exact ⟨rs, hf.keep hk, hl, fun i r x h1 h2 => by obtain ⟨a, b, c⟩ := hr i r x h1 h2; exact ⟨a, b, c.keep hk⟩⟩
theorem Nods.below {B : Nat} (h : Nods w lo hi A n c l) (hb : Below B w w') (hB : hi ≤ B) : Nods w' lo hi A n c l := h.keep fun k _ hk => hb.block k (by omega)
theorem Nods.mono {lo' hi' : Nat} (h : Nods w lo hi A n c l) (h1 : lo' ≤ lo) (h2 : hi ≤ hi') : Nods w lo' hi' A n c l := by
  obtain ⟨rs, hf, hl, hr⟩ := h
  exact ⟨rs, hf.mono h1 h2, hl, fun i r x h3 h4 => by obtain ⟨a, b, c⟩ := hr i r x h3 h4; exact ⟨a, b, c.mono h1 h2⟩⟩
theorem Nods.wide (h : Nods w lo hi A n c l) (h2 : hi ≤ w.heap.size) : Nods w 0 w.heap.size A n c l := h.mono (Nat.zero_le _) h2
theorem Nods.take_ (h : Nods w lo hi A n c l) {k : Nat} (hk : k ≤ n) : Nods w lo hi A k c (l.take k) := by
  obtain ⟨rs, hf, hl, hr⟩ := h
  refine ⟨rs.take k, hf.take_ hk, by simp [hl], fun i r x h1 h2 => ?_⟩
  rw [List.getElem?_take] at h1 h2
  split at h1
  · rename_i hi; rw [if_pos hi] at h2; exact hr i r x h1 h2
  · cases h1
theorem Nods.nil_ (w : World) (lo hi : Nat) : Nods w lo hi none 0 0 [] := ⟨[], Flat.nil_ _ _ _ _ _, rfl, fun i r x h => by simp at h⟩
theorem Nods.nod (h : Nods w lo hi A n c l) {k : Nat} (hk : k < n) :
    ∃ b off x A' m d, A = some ⟨b, off, none⟩ ∧ lo ≤ b ∧ b < hi ∧ l[k]? = some x ∧ w.cell? ⟨b, off + k * 3, none⟩ = some (.int .i64 x.id) ∧ w.cell? ⟨b, off + k * 3 + 1, none⟩ = some (.slice A' m d) ∧
      w.cell? ⟨b, off + k * 3 + 2, none⟩ = some (.int .i64 x.done) ∧ Flat Upd.enc 2 w lo hi A' m d x.log := by
  have hlen := h.len
  obtain ⟨rs, hf, hl, hr⟩ := h
  obtain ⟨b, off, r, e, h1, h2, hx, hc⟩ := hf.at_ hk
  have hx' : l[k]? = some (l[k]'(by omega)) := List.getElem?_eq_getElem _
  obtain ⟨ei, ed, fl⟩ := hr k r _ hx hx'
  refine ⟨b, off, _, r.A, r.n, r.c, e, h1, h2, hx', ?_, hc 1 _ rfl, ?_, fl⟩
  · rw [← ei]; exact hc 0 _ rfl
  · rw [← ed]; exact hc 2 _ rfl
end
def ChnIn (w : World) (A : Option Addr) (n c : Nat) (l : List Nod) : Prop := Nods w 0 w.heap.size A n c l ∧ n ≤ 1048576 ∧ ∀ x ∈ l, x.log.length ≤ 1048576
theorem ChnIn.below {w w' : World} {n c : Nat} {A : Option Addr} {l : List Nod} (h : ChnIn w A n c l) (hb : Below w.heap.size w w') : ChnIn w' A n c l :=
  ⟨(h.1.below hb (Nat.le_refl _)).mono (Nat.zero_le _) hb.size, h.2⟩
def NodRowAt (w : World) (lo hi : Nat) (v : Value) (l : List Nod) (rs : List RN) : Prop :=
  w.ownsRow lo 78 3 v l.length (rs.flatMap RN.enc) ∧ (∀ g, v.ownBlock = some g → g < hi) ∧ rs.length = l.length ∧
    (∀ (i : Nat) (r : RN) (x : Nod), rs[i]? = some r → l[i]? = some x → r.id = x.id ∧ r.done = x.done ∧ x.log.length = r.n ∧ w.ownsRow lo 28 2 (.slice r.A r.n r.c) r.n (x.log.flatMap Upd.enc) ∧ ∀ g, (Value.slice r.A r.n r.c).ownBlock = some g → g < hi) ∧
    (∀ (i j : Nat) (r s : RN) (g : Nat), rs[i]? = some r → rs[j]? = some s → i < j → (Value.slice r.A r.n r.c).ownBlock = some g → (Value.slice s.A s.n s.c).ownBlock ≠ some g)
def NodRow (w : World) (lo hi : Nat) (v : Value) (l : List Nod) : Prop := ∃ rs : List RN, NodRowAt w lo hi v l rs
theorem own_blk {W : World} {lo n sz : Nat} {e : TypeId} {v : Value} {xs : List Value} {g : Nat} (h : W.ownsRow lo e sz v n xs) (hg : v.ownBlock = some g) : ∃ cs, W.heap[g]? = some (.cells cs e (0, 0)) := by
  rcases h.2 with ⟨hv, _⟩ | ⟨g', cap, cur, hv, _, hb, _⟩
  · subst hv; cases hg
  · subst hv
    have : g' = g := by simpa [Value.ownBlock] using hg
    subst this; exact ⟨cur, hb⟩
theorem own_part {W : World} {lo lo' n n' sz sz' : Nat} {e e' : TypeId} {v v' : Value} {xs xs' : List Value} (h : W.ownsRow lo e sz v n xs) (h' : W.ownsRow lo' e' sz' v' n' xs') (he : e ≠ e') {g : Nat} (hg : v.ownBlock = some g) : v'.ownBlock ≠ some g := by
  intro hg'
  obtain ⟨cs, h1⟩ := own_blk h hg
  obtain ⟨cs', h2⟩ := own_blk h' hg'
  rw [h1] at h2; injection h2 with h2; injection h2 with _ h2; exact he h2
theorem own_keep {W W' : World} {lo n sz : Nat} {e : TypeId} {v : Value} {xs : List Value} (h : W.ownsRow lo e sz v n xs) (hk : ∀ g, v.ownBlock = some g → W'.heap[g]? = W.heap[g]?) : W'.ownsRow lo e sz v n xs := by
  refine ⟨h.1, ?_⟩
  rcases h.2 with hn | ⟨g, cap, cur, rfl, hb, hgg, rest⟩
  · exact .inl hn
  · exact .inr ⟨g, cap, cur, rfl, hb, by rw [hk g rfl]; exact hgg, rest⟩
theorem own_read {α : Type} {enc : α → List Value} {sz : Nat} (hs : ∀ x, (enc x).length = sz) {w : World} {lo hi : Nat} {e : TypeId} {A : Option Addr} {c n : Nat} {l : List α}
    (h : w.ownsRow lo e sz (.slice A n c) n (l.flatMap enc)) (hn : l.length = n) (hhi : ∀ g, (Value.slice A n c).ownBlock = some g → g < hi) : Flat enc sz w lo hi A n c l := by
  obtain ⟨h1, h2, h3, h4⟩ := own_flat' hs h hn
  refine ⟨h1, h2, h3, fun hn => ?_⟩
  obtain ⟨b, off, e, hb1, hb2, hc⟩ := h4 hn
  exact ⟨b, off, e, hb1, hhi b (by rw [e]; rfl), hc⟩
section
variable {w w' : World} {lo hi : Nat} {v : Value} {l : List Nod}
theorem NodRow.keep (h : NodRow w lo hi v l) (hk : ∀ k, lo ≤ k → k < hi → w'.heap[k]? = w.heap[k]?) : NodRow w' lo hi v l := by
  obtain ⟨rs, ho, hv, hl, hr, hd⟩ := h
  refine ⟨rs, own_keep ho (fun g e => hk g (ho.lt g e).1 (hv g e)), hv, hl, fun i r x h1 h2 => ?_, hd⟩
  obtain ⟨a, b, c, d, f⟩ := hr i r x h1 h2
  exact ⟨a, b, c, own_keep d (fun g e => hk g (d.lt g e).1 (f g e)), f⟩
theorem NodRow.below {B : Nat} (h : NodRow w lo hi v l) (hb : Below B w w') (hB : hi ≤ B) : NodRow w' lo hi v l := h.keep fun k _ hk => hb.block k (by omega)
theorem NodRow.mono {hi' : Nat} (h : NodRow w lo hi v l) (h2 : hi ≤ hi') : NodRow w lo hi' v l := by
  obtain ⟨rs, ho, hv, hl, hr, hd⟩ := h
  exact ⟨rs, ho, fun g e => Nat.lt_of_lt_of_le (hv g e) h2, hl, fun i r x h1 h2 => by obtain ⟨a, b, c, d, f⟩ := hr i r x h1 h2; exact ⟨a, b, c, d, fun g e => Nat.lt_of_lt_of_le (f g e) (by assumption)⟩, hd⟩
theorem NodRow.lower {lo' : Nat} (h : NodRow w lo hi v l) (hl' : lo' ≤ lo) : NodRow w lo' hi v l := by
  obtain ⟨rs, ho, hv, hl, hr, hd⟩ := h
  have low : ∀ {e : TypeId} {sz n : Nat} {v : Value} {xs : List Value}, w.ownsRow lo e sz v n xs → w.ownsRow lo' e sz v n xs := fun hh => by
    refine ⟨hh.1, ?_⟩
    rcases hh.2 with h1 | ⟨g, cap, cur, e1, hb, rest⟩
    · exact .inl h1
    · exact .inr ⟨g, cap, cur, e1, Nat.le_trans hl' hb, rest⟩
  exact ⟨rs, low ho, hv, hl, fun i r x h1 h2 => by obtain ⟨a, b, c, d, f⟩ := hr i r x h1 h2; exact ⟨a, b, c, low d, f⟩, hd⟩
theorem NodRow.nods (h : NodRow w lo hi v l) : ∃ A c, v = .slice A l.length c ∧ Nods w lo hi A l.length c l := by
  obtain ⟨rs, ho, hv, hl, hr, hd⟩ := h
  obtain ⟨A, c, rfl, _⟩ := own_flat RN.len ho hl
  refine ⟨A, c, rfl, rs, own_read RN.len ho hl hv, hl, fun i r x h1 h2 => ?_⟩
  obtain ⟨a, b, c, d, f⟩ := hr i r x h1 h2
  exact ⟨a, b, own_read Upd.len d c f⟩
theorem NodRow.nods' {A : Option Addr} {n c : Nat} (h : NodRow w lo hi (.slice A n c) l) : n = l.length ∧ Nods w lo hi A n c l := by
  obtain ⟨A', c', e, hn⟩ := h.nods
  injection e with e1 e2 e3
  subst e1; subst e2; subst e3; exact ⟨rfl, hn⟩
theorem NodRow.nil_ (w : World) (lo hi : Nat) : NodRow w lo hi (.slice none 0 0) [] :=
  ⟨[], World.ownsRow_nil w lo _ _, fun g e => by simp [Value.ownBlock] at e, rfl, fun i r x h => by simp at h, fun i j r s g h => by simp at h⟩
theorem NodRow.block (h : NodRow w lo hi v l) {g : Nat} (hg : v.ownBlock = some g) : lo ≤ g ∧ g < w.heap.size := by obtain ⟨rs, ho, _⟩ := h; exact ho.lt g hg
theorem NodRowAt.appended {hi' : Nat} {v' : Value} {x : Nod} {r : RN} {o : Obj} {rs : List RN} (h : NodRowAt w lo hi v l rs) (hr : r.id = x.id ∧ r.done = x.done ∧ x.log.length = r.n)
    (hlog : w.ownsRow lo 28 2 (.slice r.A r.n r.c) r.n (x.log.flatMap Upd.enc)) (hnew : ∀ g, (Value.slice r.A r.n r.c).ownBlock = some g → hi ≤ g) (hhi : w'.heap.size ≤ hi') (hsz : hi ≤ w.heap.size)
    (ho' : w'.ownsRow lo 78 3 v' (l.length + 1) (rs.flatMap RN.enc ++ r.enc)) (hg : (w.alloc o).grownBy w' v.ownBlock) :
    NodRow w' lo hi' v' (l ++ [x]) := by
  obtain ⟨ho, hv, hl, hrs, hd⟩ := h
  have hgs : w.heap.size ≤ w'.heap.size := Nat.le_trans (by simp) hg.size
  have hk : ∀ g, g < w.heap.size → v.ownBlock ≠ some g → w'.heap[g]? = w.heap[g]? := fun g h1 h2 => (hg.block g (by simp; omega) (fun e => h2 e.symm)).trans (Below.heap_alloc _ _ _ h1)
  have keepLog : ∀ {A : Option Addr} {n c : Nat} {xs : List Value}, w.ownsRow lo 28 2 (.slice A n c) n xs → w'.ownsRow lo 28 2 (.slice A n c) n xs := fun hh =>
    own_keep hh fun g e => hk g (hh.lt g e).2 (own_part hh ho (by decide) e)
  refine ⟨rs ++ [r], ?_, fun g e => ?_, by simp [hl], ?_, ?_⟩
  · rw [List.length_append, List.flatMap_append]; simpa using ho'
  · have := (ho'.lt g e).2; omega
  · intro i r' x' h1 h2
    rw [List.getElem?_append] at h1 h2
    by_cases hi1 : i < rs.length
    · rw [if_pos hi1] at h1
      rw [if_pos (by omega)] at h2
      obtain ⟨a, b, c, d, f⟩ := hrs i r' x' h1 h2
      exact ⟨a, b, c, keepLog d, fun g e => by have := f g e; omega⟩
    · rw [if_neg hi1] at h1
      rw [if_neg (by omega)] at h2
      have e0 : i - rs.length = 0 := by
        have := (List.getElem?_eq_some_iff.1 h1).1
        simp at this; omega
      rw [e0] at h1
      rw [← hl, e0] at h2
      simp at h1 h2
      subst h1; subst h2
      exact ⟨hr.1, hr.2.1, hr.2.2, keepLog hlog, fun g e => by have := (hlog.lt g e).2; omega⟩
  · intro i j r1 r2 g h1 h2 hij e1 e2
    rw [List.getElem?_append] at h1 h2
    by_cases hj : j < rs.length
    · rw [if_pos (by omega)] at h1
      rw [if_pos hj] at h2
      exact hd i j r1 r2 g h1 h2 hij e1 e2
    · rw [if_neg hj] at h2
      have e0 : j - rs.length = 0 := by
        have := (List.getElem?_eq_some_iff.1 h2).1
        simp at this; omega
      rw [e0] at h2
      simp at h2
      subst h2
      rw [if_pos (by omega)] at h1
      have hx : ∃ x', l[i]? = some x' := ⟨l[i]'(by omega), List.getElem?_eq_getElem _⟩
      obtain ⟨x', hx'⟩ := hx
      have := (hrs i r1 x' h1 hx').2.2.2.2 g e1
      have := hnew g e2
      omega
end
end Go.Proofs.YtemgilofjbnoaaaGreatDoor
namespace Go.Proofs.YtemgilofjbnoaaaGreatDoor
open Go.RowKit
theorem copy_rows {P : Program} (w : World) (dT sT ty elem : TypeId) (g n dc sc sz : Nat) (A : Option Addr) (cur : Array Value) (t : TypeId) (news : List Value)
    (hu : P.underlying dT = some (.slice elem)) (hs : (P.info? elem).map (·.size) = some sz) (hg : w.heap[g]? = some (.cells cur t (0, 0))) (hcs : cur.size = n * sz) (hsrc : Src w sz A n news) (h1 : ∀ v ∈ news, v.oneCell' = true) :
    (Builtin.copy_ #[dT, sT] ty #[.slice (some ⟨g, 0, none⟩) n dc, .slice A n sc]).run P w = .ok (goInt n) (w.setRow g news.toArray) := by
  obtain ⟨hl, hn, hc⟩ := hsrc
  cases hq : P.info? elem with
  | none => simp [hq] at hs
  | some i =>
    have hi : i.size = sz := by simpa [hq] using hs
    have hst := run_storeCells_at P g 0 t news 0 cur w hg (by simp; omega) h1
    have he : (cur.toList.take (0 + 0) ++ news ++ cur.toList.drop (0 + 0 + news.length)).toArray = news.toArray := by
      have hd : cur.toList.drop (0 + 0 + news.length) = [] := List.drop_eq_nil_of_le (by simp; omega)
      rw [hd]; simp
    rw [he] at hst
    rcases A with _ | ad
    · obtain rfl := hn rfl
      have hnil : news = [] := List.eq_nil_of_length_eq_zero (by simpa using hl)
      subst hnil
      simp [Builtin.copy_, run_underlying hu, Builtin.lenOf, Builtin.firstCells, sizeOf, typeInfo, hq, hst]
    · have hld := run_loadCells_list (P := P) w ad news (hc ad rfl)
      rw [hl] at hld
      simp [Builtin.copy_, run_underlying hu, Builtin.lenOf, Builtin.firstCells, sizeOf, typeInfo, hq, hi, hld, hst]
theorem wpList_copy_rows {P : Program} {w : World} {ops : Array Oper} {rest : List Oper} {o : Oper} {a : Act} {Q : Exit → Act → World → Prop} (hgd : o.guard = none) (d s : Operand) (dT sT : TypeId)
    (ho : o.op = .call { callee := .builtin .copy, args := #[d, s], argTypes := #[dT, sT] }) (elem : TypeId) (hu : P.underlying dT = some (.slice elem)) (sz : Nat) (hs : (P.info? elem).map (·.size) = some sz)
    (g n dc sc : Nat) (A : Option Addr) (hd : a.eval d = .slice (some ⟨g, 0, none⟩) n dc) (hx : a.eval s = .slice A n sc) (cur : Array Value) (hg : w.heap[g]? = some (.cells cur elem (0, 0))) (hcs : cur.size = n * sz)
    (news : List Value) (hsrc : Src w sz A n news) (h1 : ∀ v ∈ news, v.oneCell' = true) (hn : n ≤ maxLen) (B lo : Nat) (w0 : World) (hb : Below B w0 w) (hBg : B ≤ g) (hlo : lo ≤ g)
    (h : ∀ w', Hid (w'.ownsRow lo elem sz (.slice (some ⟨g, 0, none⟩) n n) n news) → Below B w0 w' → wpList P ops Q rest (a.put o.dst (goInt n)) w') : wpList P ops Q (o :: rest) a w := by
  refine wpList_plain hgd fun K hK => ?_
  have hrun := copy_rows (P := P) w dT sT o.type elem g n dc sc sz A cur elem news hu hs hg hcs hsrc h1
  unfold Oper.wp
  simp only [execOp, ho, resolve, invoke, builtin, Sem.run_bind, Sem.run_pure, Result.andThen_ok, List.map_toArray, List.map_cons, List.map_nil, hd, hx, hrun]
  refine hK _ _ (h _ ?_ (below_setRow hb hBg _))
  have hl : news.length = n * sz := hsrc.1
  refine ⟨hl, .inr ⟨g, n, news.toArray, rfl, hlo, setRow_heap w g cur _ elem _ hg, Nat.le_refl _, hn, by simp [hl], ?_⟩⟩
  rw [← hl]; simp
end Go.Proofs.YtemgilofjbnoaaaGreatDoor
namespace Go.Proofs.YtemgilofjbnoaaaGreatDoor
open Go.RowKit
theorem infoUpd : (Mo.prog.info? 28).map (fun i => (i.zero, i.size, i.bytes)) = some (some (.agg #[.int .i64 0, .int .i64 0]), 2, 16) := by kernel_rfl
theorem sizeUpd : (Mo.prog.info? 28).map (·.size) = some 2 := by kernel_rfl
theorem all_upd_succ {l : List Upd} {k : Nat} {u : Upd} (h : (l.take k).all (fun u => updOk u.key u.value) = true) (hu : l[k]? = some u) (ho : updOk u.key u.value = true) : (l.take (k + 1)).all (fun u => updOk u.key u.value) = true := by
  have hk := (List.getElem?_eq_some_iff.1 hu).1
  have e : l[k] = u := by rw [List.getElem?_eq_getElem hk] at hu; injection hu
  rw [List.take_succ_eq_append_getElem hk, List.all_append, h, e]; simp [ho]
theorem all_upd_false {l : List Upd} {k : Nat} {u : Upd} (hu : l[k]? = some u) (ho : updOk u.key u.value = false) : logOk l = false := by
  have : (l.all fun u => updOk u.key u.value) = false := by rw [List.all_eq_false]; exact ⟨u, List.mem_of_getElem? hu, by simp [ho]⟩
  unfold logOk; rw [this]; simp
theorem all_upd_end {l : List Upd} {n : Nat} (hl : l.length = n) (h : (l.take n).all (fun u => updOk u.key u.value) = true) : logOk l = decide (n ≤ 12) := by
  rw [List.take_of_length_le (by omega)] at h
  unfold logOk; rw [h, hl]; simp
def LogCopied (w : World) (n : Nat) (l : List Upd) (e : Ending) (w' : World) : Prop :=
  e = .returned (.slice (some ⟨w.heap.size, 0, none⟩) n n) ∧ w'.ownsRow w.heap.size 28 2 (.slice (some ⟨w.heap.size, 0, none⟩) n n) n (l.flatMap Upd.enc) ∧ Below w.heap.size w w'
set_option maxHeartbeats 1000000 in
theorem copyLog_any (A : Option Addr) (n c : Nat) (l : List Upd) (w : World) (h : Flat Upd.enc 2 w 0 w.heap.size A n c l) (hn : n ≤ 1048576) :
    Calls Mo.prog 93 #[.slice A n c] w (LogCopied w n l) := by
  have hlen := h.len
  obtain ⟨i0, hi, hz0, hz1, hz2⟩ := info_parts infoUpd
  have hmk := fun W => make_rows (P := Mo.prog) 76 28 i0 _ Mo.underlying76 hi hz0 n (by rw [hz2]; omega) (by omega) W
  rw [hz1] at hmk
  have H := Lib.hid h
  have HL := Lib.hid hlen
  clear h hlen hi hz0 hz1 hz2
  obtain ⟨Z, hZ⟩ : ∃ Z, Z = madeCells (Value.agg #[.int .i64 0, .int .i64 0]).cells (n * 2) := ⟨_, rfl⟩
  rw [← hZ] at hmk
  have hZs : Z.size = n * 2 := by rw [hZ]; exact size_madeCells _ _
  have HZ := Lib.hid hZs
  clear hZs hZ
  have hb0 : Below w.heap.size w (w.alloc (.cells Z 28)) := (Below.refl _ _).alloc (Nat.le_refl _) _
  have S := Lib.hid (flat_src Upd.len (by omega) (H.out.below hb0 (Nat.le_refl _)))
  have HB0 := Lib.hid hb0
  clear hb0
  go_enter Mo.func93, Tryz.ntmps93
  go_wp2_with (with_reducible refine wpList_copy_rows rfl _ _ 76 76 rfl 28 Mo.underlying76 2 sizeUpd w.heap.size n n c A rfl rfl Z (heap_alloc_new _ _) HZ.out _ S.out (one_enc Upd.one _) (by unfold maxLen; omega) w.heap.size w.heap.size w HB0.out (Nat.le_refl _) (Nat.le_refl _) ?_; intro w2 hown2 hb2; have B2 := Lib.hid hb2; clear hb2)
  go_ret
  exact ⟨rfl, hown2.out, B2.out⟩
set_option maxHeartbeats 1000000 in
theorem logValid_any (A : Option Addr) (n c : Nat) (l : List Upd) (w : World) (h : Flat Upd.enc 2 w 0 w.heap.size A n c l) (hn : n ≤ 1048576) :
    Calls Mo.prog 90 #[.slice A n c] w fun e w' => e = .returned (.bool (logOk l)) ∧ Below w.heap.size w w' := by
  have HL := Lib.hid h.len
  have H := Lib.hid h
  clear h
  by_cases h12 : n ≤ 12
  case neg =>
    go_enter Mo.func90, Tryz.ntmps90
    go_wp2
    go_ret
    exact ⟨ret_bool (by unfold logOk; rw [HL.out]; simp [h12]), Below.refl _ _⟩
  case pos =>
  go_enter Mo.func90, Tryz.ntmps90
  go_wp2
  go_loopw [10] (fun i wr => ∃ k : Nat, k ≤ n ∧ i = .int .i64 k ∧ Hid ((l.take k).all (fun u => updOk u.key u.value) = true) ∧ Below w.heap.size w wr)
    (fun i _ => n - (intOf i).toNat)
  case atStart => exact ⟨0, Nat.zero_le _, rfl, rfl, Below.refl _ _⟩
  case round =>
    obtain ⟨k, hk, rfl, hall, hB⟩ := hrel
    have HW := Lib.hid (H.out.below hB (Nat.le_refl _))
    have HB := Lib.hid hB
    have hsz := hB.size
    clear hB H
    by_cases hlt : k < n
    · obtain ⟨b, off, u, rfl, _, hbB, hu, c0, c1⟩ := HW.out.upd hlt
      have Hu := Lib.hid hu
      clear hu
      cases hok : updOk u.key u.value
      all_goals
        go_wp2_with (go_at_call 92; refine (updValid_any _ _ _).mono ?_; rintro e w1 ⟨rfl, hb1⟩; have B1 := Lib.hid hb1; clear hb1)
      · go_ret
        exact ⟨ret_bool (all_upd_false Hu.out hok).symm, (HB.out.alloc hsz _).trans (B1.out.mono (by simp; omega))⟩
      · go_roundw
        case rel => exact ⟨k + 1, by omega, by go_num, all_upd_succ hall.out Hu.out hok, (HB.out.alloc hsz _).trans (B1.out.mono (by simp; omega))⟩
        case measure => simp [intOf]; omega
    · obtain rfl : n = k := by omega
      go_wp2
      go_ret
      exact ⟨ret_bool (by rw [all_upd_end HL.out hall.out]; simp [h12]), HB.out⟩
set_option maxHeartbeats 1000000 in
theorem specLogValid_any (A : Option Addr) (n c : Nat) (l : List Upd) (w : World) (h : Flat Upd.enc 2 w 0 w.heap.size A n c l) (hn : n ≤ 1048576) :
    Calls Mo.prog 61 #[.slice A n c] w fun e w' => e = .returned (.bool (logOk l)) ∧ Below w.heap.size w w' := by
  have HL := Lib.hid h.len
  have H := Lib.hid h
  clear h
  go_enter Mo.func61, Tryz.ntmps61
  go_wp2
  go_loopw [3] (fun i wr => ∃ k : Nat, k ≤ n ∧ i = .int .i64 k ∧ Hid ((l.take k).all (fun u => updOk u.key u.value) = true) ∧ Below w.heap.size w wr)
    (fun i _ => n - (intOf i).toNat)
  case atStart => exact ⟨0, Nat.zero_le _, rfl, rfl, Below.refl _ _⟩
  case round =>
    obtain ⟨k, hk, rfl, hall, hB⟩ := hrel
    have HW := Lib.hid (H.out.below hB (Nat.le_refl _))
    have HB := Lib.hid hB
    have hsz := hB.size
    clear hB H
    by_cases hlt : k < n
    · obtain ⟨b, off, u, rfl, _, hbB, hu, c0, c1⟩ := HW.out.upd hlt
      have Hu := Lib.hid hu
      clear hu
      cases hok : updOk u.key u.value
      all_goals
        go_wp2_with (go_at_call 73; refine (specUpdateValid_any _ _ _).mono ?_; rintro e w1 ⟨rfl, hb1⟩; have B1 := Lib.hid hb1; clear hb1)
      · go_ret
        exact ⟨ret_bool (all_upd_false Hu.out hok).symm, HB.out.trans (B1.out.mono hsz)⟩
      · go_roundw
        case rel => exact ⟨k + 1, by omega, by go_num, all_upd_succ hall.out Hu.out hok, HB.out.trans (B1.out.mono hsz)⟩
        case measure => simp [intOf]; omega
    · obtain rfl : n = k := by omega
      go_wp2
      go_ret
      exact ⟨ret_bool (by rw [all_upd_end HL.out hall.out, Bool.eq_iff_iff]; simp; omega), HB.out⟩
end Go.Proofs.YtemgilofjbnoaaaGreatDoor
namespace Go.Proofs.YtemgilofjbnoaaaGreatDoor
open Go.RowKit
theorem World.cell?_alloc_new' (w : World) (cs : Array Value) (t : TypeId) (fr : Nat × Nat) (i : Nat) : (w.alloc (.cells cs t fr)).cell? ⟨w.heap.size, i, none⟩ = cs[i]? := by
  have h := heap_alloc_new w (.cells cs t fr)
  simp only [World.cell?, h]; rfl
theorem World.cell?_alloc_box (w : World) (cs ds : Array Value) (t u : TypeId) (i : Nat) : ((w.alloc (.cells cs t)).alloc (.cells ds u)).drew.cell? ⟨w.heap.size, i, none⟩ = cs[i]? :=
  (World.cell?_of_block (w := w.alloc (.cells cs t)) (a := ⟨w.heap.size, i, none⟩) (Below.heap_alloc _ _ _ (by simp))).trans (World.cell?_alloc_new' w cs t _ i)
theorem World.cell?_alloc_top (w : World) (cs ds : Array Value) (t u : TypeId) (i : Nat) : ((w.alloc (.cells cs t)).alloc (.cells ds u)).drew.cell? ⟨w.heap.size + 1, i, none⟩ = ds[i]? := by
  have := World.cell?_alloc_new' (w.alloc (.cells cs t)) ds u (0, 0) i
  rwa [show (w.alloc (.cells cs t)).heap.size = w.heap.size + 1 from by simp] at this
theorem World.frozen?_alloc_top (w : World) (cs ds : Array Value) (t u : TypeId) (i : Nat) : ((w.alloc (.cells cs t)).alloc (.cells ds u)).drew.frozen? ⟨w.heap.size + 1, i, none⟩ = false := by
  have h := heap_alloc_new (w.alloc (.cells cs t)) (.cells ds u)
  rw [show (w.alloc (.cells cs t)).heap.size = w.heap.size + 1 from by simp] at h
  exact row_free (w := ((w.alloc (.cells cs t)).alloc (.cells ds u)).drew) h i
theorem three_stores (w : World) (g : Nat) {a b c : Value} (h0 : w.cell? ⟨g, 0, none⟩ = some a) (h1 : w.cell? ⟨g, 1, none⟩ = some b) (h2 : w.cell? ⟨g, 2, none⟩ = some c) :
    (∀ u, (w.setCell ⟨g, 0, none⟩ u).cell? ⟨g, 0, none⟩ = some u) ∧ (∀ u v, ((w.setCell ⟨g, 0, none⟩ u).setCell ⟨g, 1, none⟩ v).cell? ⟨g, 1, none⟩ = some v) ∧
    (∀ u v x, (((w.setCell ⟨g, 0, none⟩ u).setCell ⟨g, 1, none⟩ v).setCell ⟨g, 2, none⟩ x).cell? ⟨g, 2, none⟩ = some x) := by
  refine ⟨fun u => World.cell?_setCell_same' _ _ _ (by rw [h0]; rfl), fun u v => World.cell?_setCell_same' _ _ _ ?_, fun u v x => World.cell?_setCell_same' _ _ _ ?_⟩
  · rw [World.cell?_setCell_other _ _ _ _ (by simp), h1]; rfl
  · rw [World.cell?_setCell_other _ _ _ _ (by simp), World.cell?_setCell_other _ _ _ _ (by simp), h2]; rfl
theorem box_cell {w w1 : World} {cs : Array Value} {t : TypeId} {fr : Nat × Nat} (hb : Below (w.alloc (.cells cs t fr)).heap.size (w.alloc (.cells cs t fr)) w1) {i : Nat} {v : Value} (h : cs[i]? = some v) : w1.cell? ⟨w.heap.size, i, none⟩ = some v :=
  (hb.cell (p := ⟨w.heap.size, i, none⟩) (by simp)).trans ((World.cell?_alloc_new' w cs t fr i).trans h)
theorem Flat.box {α : Type} {enc : α → List Value} {sz : Nat} {w : World} {n c : Nat} {A : Option Addr} {l : List α} (h : Flat enc sz w 0 w.heap.size A n c l) (o : Obj) : Flat enc sz (w.alloc o) 0 (w.alloc o).heap.size A n c l :=
  (h.below ((Below.refl _ _).alloc (Nat.le_refl _) _) (Nat.le_refl _)).mono (Nat.zero_le _) (by simp)
theorem Flat.on {α : Type} {enc : α → List Value} {sz : Nat} {w w' : World} {n c : Nat} {A : Option Addr} {l : List α} (h : Flat enc sz w 0 w.heap.size A n c l) (hb : Below w.heap.size w w') : Flat enc sz w' 0 w'.heap.size A n c l :=
  (h.below hb (Nat.le_refl _)).mono (Nat.zero_le _) hb.size
theorem below_box {w w1 : World} {o : Obj} (hb : Below (w.alloc o).heap.size (w.alloc o) w1) : Below w.heap.size w w1 := ((Below.refl _ _).alloc (Nat.le_refl _) _).trans (hb.mono (by simp))
set_option maxHeartbeats 400000 in
theorem idValid_any (n : Int) (w : World) :
    Calls Mo.prog 89 #[.int .i64 n] w fun e w' => e = .returned (.bool (inB n 1 99)) ∧ w = w' := by
  go_enter Mo.func89, Tryz.ntmps89
  go_wp2
  all_goals go_ret
  all_goals exact ⟨ret_bool (by rw [Bool.eq_iff_iff]; simp [inB]; try omega), rfl⟩
def Nod.val (x : Nod) (A : Option Addr) (n c : Nat) : Value := .agg #[.int .i64 x.id, .slice A n c, .int .i64 x.done]
set_option maxHeartbeats 1000000 in
theorem nodeValid_any (x : Nod) (A : Option Addr) (n c : Nat) (w : World) (h : Flat Upd.enc 2 w 0 w.heap.size A n c x.log) (hn : n ≤ 1048576) :
    Calls Mo.prog 62 #[.agg #[.int .i64 x.id, .slice A n c, .int .i64 x.done]] w fun e w' => e = .returned (.bool (nodeOk x)) ∧ Below w.heap.size w w' := by
  have HL := Lib.hid h.len
  have H := Lib.hid h
  clear h
  cases hid : inB x.id 1 99
  · go_enter Mo.func62, Tryz.ntmps62
    go_wp2_with (go_at_call 89; refine (idValid_any _ _).mono ?_; rintro e w' ⟨rfl, rfl⟩)
    go_ret
    exact ⟨ret_bool (by simp [nodeOk, hid]), (Below.refl _ _).alloc (Nat.le_refl _) _⟩
  cases hlog : logOk x.log
  · go_enter Mo.func62, Tryz.ntmps62
    go_wp2_with (first | (go_at_call 89; refine (idValid_any _ _).mono ?_; rintro e w' ⟨rfl, rfl⟩) | (go_at_call 90; refine (logValid_any _ _ _ x.log _ (H.out.box _) hn).mono ?_; rintro e w1 ⟨rfl, hb1⟩; have B1 := Lib.hid hb1; clear hb1))
    go_ret
    exact ⟨ret_bool (by simp [nodeOk, hid, hlog]), below_box B1.out⟩
  by_cases h0 : 0 ≤ x.done
  case neg =>
    go_enter Mo.func62, Tryz.ntmps62
    go_wp2_with (first | (go_at_call 89; refine (idValid_any _ _).mono ?_; rintro e w' ⟨rfl, rfl⟩) | (go_at_call 90; refine (logValid_any _ _ _ x.log _ (H.out.box _) hn).mono ?_; rintro e w1 ⟨rfl, hb1⟩; have B1 := Lib.hid hb1; have q2 := box_cell (i := 2) hb1 rfl; clear hb1))
    go_ret
    exact ⟨ret_bool (by simp [nodeOk, inB]; omega), below_box B1.out⟩
  case pos =>
  go_enter Mo.func62, Tryz.ntmps62
  go_wp2_with (first | (go_at_call 89; refine (idValid_any _ _).mono ?_; rintro e w' ⟨rfl, rfl⟩) | (go_at_call 90; refine (logValid_any _ _ _ x.log _ (H.out.box _) hn).mono ?_; rintro e w1 ⟨rfl, hb1⟩; have B1 := Lib.hid hb1; have q1 := box_cell (i := 1) hb1 rfl; have q2 := box_cell (i := 2) hb1 rfl; clear hb1))
  go_ret
  exact ⟨ret_bool (by rw [nodeOk, hid, hlog, Bool.eq_iff_iff]; have := HL.out; simp [inB]; omega), below_box B1.out⟩
set_option maxHeartbeats 1000000 in
theorem specNodeValid_any (x : Nod) (A : Option Addr) (n c : Nat) (w : World) (h : Flat Upd.enc 2 w 0 w.heap.size A n c x.log) (hn : n ≤ 1048576) :
    Calls Mo.prog 69 #[.agg #[.int .i64 x.id, .slice A n c, .int .i64 x.done]] w fun e w' => e = .returned (.bool (nodeOk x)) ∧ Below w.heap.size w w' := by
  have HL := Lib.hid h.len
  have H := Lib.hid h
  clear h
  cases hid : inB x.id 1 99
  · go_enter Mo.func69, Tryz.ntmps69
    go_wp2_with (go_at_call 72; refine (l6In_any _ _ _ _).mono ?_; rintro e w' ⟨rfl, rfl⟩)
    go_ret
    exact ⟨ret_bool (by simp [nodeOk, hid]), (Below.refl _ _).alloc (Nat.le_refl _) _⟩
  cases hlog : logOk x.log
  · go_enter Mo.func69, Tryz.ntmps69
    go_wp2_with (first | (go_at_call 72; refine (l6In_any _ _ _ _).mono ?_; rintro e w' ⟨rfl, rfl⟩) | (go_at_call 61; refine (specLogValid_any _ _ _ x.log _ (H.out.box _) hn).mono ?_; rintro e w1 ⟨rfl, hb1⟩; have B1 := Lib.hid hb1; clear hb1))
    go_ret
    exact ⟨ret_bool (by simp [nodeOk, hid, hlog]), below_box B1.out⟩
  go_enter Mo.func69, Tryz.ntmps69
  go_wp2_with (first | (go_at_call 72; refine (l6In_any _ _ _ _).mono ?_; rintro e w' ⟨rfl, rfl⟩) | (go_at_call 61; refine (specLogValid_any _ _ _ x.log _ (H.out.box _) hn).mono ?_; rintro e w1 ⟨rfl, hb1⟩; have B1 := Lib.hid hb1; have q1 := box_cell (i := 1) hb1 rfl; have q2 := box_cell (i := 2) hb1 rfl; clear hb1))
  go_ret
  exact ⟨ret_bool (by have := HL.out; simp [nodeOk, hid, hlog, this]), below_box B1.out⟩
def NodeCopied (w : World) (x : Nod) (n : Nat) (e : Ending) (w' : World) : Prop :=
  ∃ g, e = .returned (.agg #[.int .i64 x.id, .slice (some ⟨g, 0, none⟩) n n, .int .i64 x.done]) ∧ w'.ownsRow w.heap.size 28 2 (.slice (some ⟨g, 0, none⟩) n n) n (x.log.flatMap Upd.enc) ∧ Below w.heap.size w w'
set_option maxHeartbeats 2000000 in
theorem copyNode_any (x : Nod) (A : Option Addr) (n c : Nat) (w : World) (h : Flat Upd.enc 2 w 0 w.heap.size A n c x.log) (hn : n ≤ 1048576) :
    Calls Mo.prog 66 #[.agg #[.int .i64 x.id, .slice A n c, .int .i64 x.done]] w (NodeCopied w x n) := by
  have HL := Lib.hid h.len
  have H := Lib.hid h
  clear h
  go_enter Mo.func66, Tryz.ntmps66
  go_wp2_with fail
  have F2 := Lib.hid (((H.out.box (.cells #[.int .i64 x.id, .slice A n c, .int .i64 x.done] 78)).box (.cells #[.int .i64 0, .slice none 0 0, .int .i64 0] 78)).below (Below.refl (w.heap.size + 2) _).drew (by simp))
  go_region_held3 (fun w' => w'.cell? ⟨w.heap.size, 0, none⟩ = some (.int .i64 x.id) ∧ w'.cell? ⟨w.heap.size, 1, none⟩ = some (.slice A n c) ∧ w'.cell? ⟨w.heap.size, 2, none⟩ = some (.int .i64 x.done)) (go_keep)
    ((go_at_call 93; refine (copyLog_any A n c x.log _ F2.out hn).mono ?_; rintro e w1 ⟨rfl, hown1, hb1⟩; have O1 := Lib.hid hown1; have B1 := Lib.hid hb1; have q0 := (hb1.cell (p := ⟨w.heap.size, 0, none⟩) (by simp; omega)).trans (World.cell?_alloc_box w _ _ _ _ 0); have q1 := (hb1.cell (p := ⟨w.heap.size, 1, none⟩) (by simp; omega)).trans (World.cell?_alloc_box w _ _ _ _ 1); have q2 := (hb1.cell (p := ⟨w.heap.size, 2, none⟩) (by simp; omega)).trans (World.cell?_alloc_box w _ _ _ _ 2); have z0 := (hb1.cell (p := ⟨w.heap.size + 1, 0, none⟩) (by simp)).trans (World.cell?_alloc_top w _ _ _ _ 0); have z1 := (hb1.cell (p := ⟨w.heap.size + 1, 1, none⟩) (by simp)).trans (World.cell?_alloc_top w _ _ _ _ 1); have z2 := (hb1.cell (p := ⟨w.heap.size + 1, 2, none⟩) (by simp)).trans (World.cell?_alloc_top w _ _ _ _ 2); have y0 := (hb1.frozen (p := ⟨w.heap.size + 1, 0, none⟩) (by simp)).trans (World.frozen?_alloc_top w _ _ _ _ 0); have y1 := (hb1.frozen (p := ⟨w.heap.size + 1, 1, none⟩) (by simp)).trans (World.frozen?_alloc_top w _ _ _ _ 1); have y2 := (hb1.frozen (p := ⟨w.heap.size + 1, 2, none⟩) (by simp)).trans (World.frozen?_alloc_top w _ _ _ _ 2); clear hown1 hb1))
  go_wp2
  obtain ⟨e0, e1, e2⟩ := three_stores w1 (w.heap.size + 1) z0 z1 z2
  refine bodyPost_ret (v := .agg #[.int .i64 x.id, .slice (some ⟨w.heap.size + 1 + 1, 0, none⟩) n n, .int .i64 x.done]) (by simp [results, Tryz.results66, go_sem, e0, e1, e2]) rfl ⟨w.heap.size + 1 + 1, rfl, ?_, ?_⟩
  · have ho := O1.out
    simp only [World.size_drew, World.size_alloc] at ho
    exact own_keep (ho.mono (by omega)) (fun g hg => by
      have : w.heap.size + 1 + 1 = g := by simpa [Value.ownBlock] using hg
      rw [Below.heap_setCell _ _ _ _ (by show g ≠ w.heap.size + 1; omega), Below.heap_setCell _ _ _ _ (by show g ≠ w.heap.size + 1; omega), Below.heap_setCell _ _ _ _ (by show g ≠ w.heap.size + 1; omega)])
  · exact ((((((Below.refl _ _).alloc (Nat.le_refl _) _).alloc (by simp) _).drew).trans (B1.out.mono (by simp; omega))).setCell (by show w.heap.size ≤ w.heap.size + 1; omega) _ |>.setCell (by show w.heap.size ≤ w.heap.size + 1; omega) _ |>.setCell (by show w.heap.size ≤ w.heap.size + 1; omega) _)
end Go.Proofs.YtemgilofjbnoaaaGreatDoor
namespace Go.Proofs.YtemgilofjbnoaaaGreatDoor
open Go.RowKit
def Blk (w : World) (b : Nat) (cs : Array Value) (t : TypeId) : Prop := w.heap[b]? = some (.cells cs t (0, 0))
section
variable {w w' : World} {b : Nat} {cs : Array Value} {t : TypeId}
theorem Blk.lt (h : Blk w b cs t) : b < w.heap.size := lt_of_block h
theorem Blk.cell (h : Blk w b cs t) {i : Nat} {v : Value} (hv : cs[i]? = some v) : w.cell? ⟨b, i, none⟩ = some v := by
  have h' : w.heap[b]? = some (.cells cs t (0, 0)) := h
  have e : w.cell? ⟨b, i, none⟩ = cs[i]? := by simp only [World.cell?, h']; rfl
  rw [e, hv]
theorem Blk.free (h : Blk w b cs t) (i : Nat) : w.frozen? ⟨b, i, none⟩ = false := row_free h i
theorem Blk.new (w : World) (cs : Array Value) (t : TypeId) : Blk (w.alloc (.cells cs t)) w.heap.size cs t := heap_alloc_new w _
theorem Blk.alloc (h : Blk w b cs t) (o : Obj) : Blk (w.alloc o) b cs t := (Below.heap_alloc _ _ _ h.lt).trans h
theorem Blk.grown {row : Option Nat} (h : Blk w b cs t) (hg : w.grownBy w' row) (hne : some b ≠ row) : Blk w' b cs t := (hg.block b h.lt hne).trans h
theorem Blk.pick {rb : Nat} (h : Blk w b cs t) (hg : w.grownBy w' (some rb)) (hne : b ≠ rb) : Blk w' b cs t := h.grown hg (fun e => hne (by injection e))
theorem Blk.below (h : Blk w b cs t) (hb : Below w.heap.size w w') : Blk w' b cs t := (hb.block b h.lt).trans h
theorem Blk.set (h : Blk w b cs t) (i : Nat) (v : Value) : Blk (w.setCell ⟨b, i, none⟩ v) b (cs.setIfInBounds i v) t := heap_setCell_at h v
theorem Blk.far (h : Blk w b cs t) {a : Addr} (ha : b ≠ a.block) (v : Value) : Blk (w.setCell a v) b cs t := (Below.heap_setCell _ _ _ _ ha).trans h
theorem Blk.drew (h : Blk w b cs t) : Blk w.drew b cs t := h
end
theorem two_stores (w : World) (g : Nat) {a b : Value} (h0 : w.cell? ⟨g, 0, none⟩ = some a) (h1 : w.cell? ⟨g, 1, none⟩ = some b) :
    (∀ u, (w.setCell ⟨g, 0, none⟩ u).cell? ⟨g, 0, none⟩ = some u) ∧ (∀ u v, ((w.setCell ⟨g, 0, none⟩ u).setCell ⟨g, 1, none⟩ v).cell? ⟨g, 1, none⟩ = some v) := by
  refine ⟨fun u => World.cell?_setCell_same' _ _ _ (by rw [h0]; rfl), fun u v => World.cell?_setCell_same' _ _ _ ?_⟩
  rw [World.cell?_setCell_other _ _ _ _ (by simp), h1]; rfl
theorem Rd.far {w : World} {rb B p : Nat} (h : Rd w rb B p) {a : Addr} (ha : rb < a.block) (v : Value) : Rd (w.setCell a v) rb B p := h.keep fun k hk => Below.heap_setCell _ _ _ _ (by omega)
theorem Rd.alloc {w : World} {rb B p : Nat} (h : Rd w rb B p) (o : Obj) : Rd (w.alloc o) rb B p := h.below ((Below.refl _ _).alloc (Nat.le_refl _) _)
theorem only_set {w0 w : World} {rb : Nat} (h : w0.grownBy w (some rb)) {a : Addr} (ha : w0.heap.size ≤ a.block) (v : Value) : w0.grownBy (w.setCell a v) (some rb) :=
  ⟨h.os, h.tape, h.output, by simpa [World.setCell] using h.size, fun k hk hn => (Below.heap_setCell _ _ _ _ (by omega)).trans (h.block k hk hn)⟩
theorem only_alloc {w0 w : World} {rb : Nat} (h : w0.grownBy w (some rb)) (o : Obj) : w0.grownBy (w.alloc o) (some rb) :=
  only_trans h (only_of_below ((Below.refl _ _).alloc (Nat.le_refl _) _))
end Go.Proofs.YtemgilofjbnoaaaGreatDoor
namespace Go.Proofs.YtemgilofjbnoaaaGreatDoor
open Go.RowKit
theorem infoNode : (Mo.prog.info? 78).map (fun i => (i.zero, i.size, i.bytes)) = some (some (.agg #[.int .i64 0, .slice none 0 0, .int .i64 0]), 3, 40) := by kernel_rfl
def RowTo (W : World) (lo g n : Nat) (l : List Nod) (k : Nat) : Prop :=
  ∃ (cs : Array Value) (rs : List RN), W.heap[g]? = some (.cells cs 78 (0, 0)) ∧ cs.size = n * 3 ∧ rs.length = k ∧ lo ≤ g ∧
    (∀ (i : Nat) (r : RN), rs[i]? = some r → ∀ j u, r.enc[j]? = some u → cs[i * 3 + j]? = some u) ∧
    (∀ (i : Nat) (r : RN) (x : Nod), rs[i]? = some r → l[i]? = some x → r.id = x.id ∧ r.done = x.done ∧ x.log.length = r.n ∧ W.ownsRow lo 28 2 (.slice r.A r.n r.c) r.n (x.log.flatMap Upd.enc)) ∧
    (∀ (i j : Nat) (r s : RN) (b : Nat), rs[i]? = some r → rs[j]? = some s → i < j → (Value.slice r.A r.n r.c).ownBlock = some b → (Value.slice s.A s.n s.c).ownBlock ≠ some b)
theorem RowTo.zero {W : World} {lo g n : Nat} {l : List Nod} {cs : Array Value} (h : W.heap[g]? = some (.cells cs 78 (0, 0))) (hs : cs.size = n * 3) (hlo : lo ≤ g) : RowTo W lo g n l 0 :=
  ⟨cs, [], h, hs, rfl, hlo, fun i r h => by simp at h, fun i r x h => by simp at h, fun i j r s b h => by simp at h⟩
theorem RowTo.block {W : World} {lo g n : Nat} {l : List Nod} {k : Nat} (h : RowTo W lo g n l k) : ∃ cs : Array Value, W.heap[g]? = some (.cells cs 78 (0, 0)) ∧ cs.size = n * 3 := by
  obtain ⟨cs, rs, h1, h2, _⟩ := h; exact ⟨cs, h1, h2⟩
theorem RowTo.step {W W1 : World} {lo g n : Nat} {l : List Nod} {k : Nat} {x : Nod} {r : RN} (h : RowTo W lo g n l k) (hb : Below W.heap.size W W1) (hx : l[k]? = some x) (hr : r.id = x.id ∧ r.done = x.done ∧ x.log.length = r.n) (hkn : k < n)
    (hlog : W1.ownsRow W.heap.size 28 2 (.slice r.A r.n r.c) r.n (x.log.flatMap Upd.enc)) :
    RowTo (((W1.setCell ⟨g, k * 3, none⟩ (.int .i64 r.id)).setCell ⟨g, k * 3 + 1, none⟩ (.slice r.A r.n r.c)).setCell ⟨g, k * 3 + 2, none⟩ (.int .i64 r.done)) lo g n l (k + 1) := by
  obtain ⟨cs, rs, h1, h2, h3, h4, h5, h6, h7⟩ := h
  have hg1 := (hb.block g (lt_of_block h1)).trans h1
  have hroom : k * 3 + 3 ≤ cs.size := by rw [h2]; omega
  have hgs := lt_of_block h1
  have keep : ∀ q, q ≠ g → ((((W1.setCell ⟨g, k * 3, none⟩ (.int .i64 r.id)).setCell ⟨g, k * 3 + 1, none⟩ (.slice r.A r.n r.c)).setCell ⟨g, k * 3 + 2, none⟩ (.int .i64 r.done))).heap[q]? = W1.heap[q]? := fun q hq => by
    rw [Below.heap_setCell _ _ _ _ hq, Below.heap_setCell _ _ _ _ hq, Below.heap_setCell _ _ _ _ hq]
  have offg : ∀ {A : Option Addr} {m c : Nat} {xs : List Value} {lo' : Nat}, W1.ownsRow lo' 28 2 (.slice A m c) m xs → ∀ q, (Value.slice A m c).ownBlock = some q → q ≠ g := fun ho q hq e => by
    subst e
    obtain ⟨ys, h8⟩ := own_blk ho hq
    rw [hg1] at h8; injection h8 with h8; injection h8 with _ h8; exact absurd h8 (by decide)
  have old : ∀ (i : Nat) (r' : RN) (x' : Nod), rs[i]? = some r' → l[i]? = some x' → W1.ownsRow lo 28 2 (.slice r'.A r'.n r'.c) r'.n (x'.log.flatMap Upd.enc) := fun i r' x' e1 e2 => own_keep (h6 i r' x' e1 e2).2.2.2 (fun q hq => hb.block q ((h6 i r' x' e1 e2).2.2.2.lt q hq).2)
  refine ⟨putRow cs (k * 3) r.enc, rs ++ [r], heap_setCell_at (heap_setCell_at (heap_setCell_at hg1 _) _) _, by rw [size_putRow]; exact h2, by simp [h3], h4, ?_, ?_, ?_⟩
  · intro i r' hi j u hu
    have hj : j < 3 := by have := (List.getElem?_eq_some_iff.1 hu).1; rw [RN.len] at this; exact this
    rw [List.getElem?_append] at hi
    by_cases hik : i < rs.length
    · rw [if_pos hik] at hi
      rw [putRow_out _ _ _ _ (.inl (by omega))]
      exact h5 i r' hi j u hu
    · rw [if_neg hik] at hi
      have e0 : i - rs.length = 0 := by have := (List.getElem?_eq_some_iff.1 hi).1; simp at this; omega
      rw [e0] at hi; simp at hi; subst hi
      have : i = k := by omega
      subst this
      rw [putRow_in _ _ _ _ (by rw [RN.len]; exact hroom) (by rw [RN.len]; exact hj), hu]
  · intro i r' x' hi hxi
    rw [List.getElem?_append] at hi
    by_cases hik : i < rs.length
    · rw [if_pos hik] at hi
      obtain ⟨a, b, c, d⟩ := h6 i r' x' hi hxi
      exact ⟨a, b, c, own_keep (old i r' x' hi hxi) (fun q hq => keep q (offg (old i r' x' hi hxi) q hq))⟩
    · rw [if_neg hik] at hi
      have e0 : i - rs.length = 0 := by have := (List.getElem?_eq_some_iff.1 hi).1; simp at this; omega
      rw [e0] at hi; simp at hi; subst hi
      have : i = k := by omega
      subst this
      rw [hx] at hxi; injection hxi with hxi; subst hxi
      exact ⟨hr.1, hr.2.1, hr.2.2, own_keep (hlog.mono (by omega)) (fun q hq => keep q (offg hlog q hq))⟩
  · intro i j r1 r2 b e1 e2 hij o1 o2
    rw [List.getElem?_append] at e1 e2
    by_cases hj : j < rs.length
    · rw [if_pos (by omega)] at e1
      rw [if_pos hj] at e2
      exact h7 i j r1 r2 b e1 e2 hij o1 o2
    · rw [if_neg hj] at e2
      have e0 : j - rs.length = 0 := by have := (List.getElem?_eq_some_iff.1 e2).1; simp at this; omega
      rw [e0] at e2; simp at e2; subst e2
      rw [if_pos (by omega)] at e1
      have hi' : i < l.length := by have := (List.getElem?_eq_some_iff.1 hx).1; omega
      have := ((h6 i r1 l[i] e1 (List.getElem?_eq_getElem hi')).2.2.2.lt b o1).2
      have := (hlog.lt b o2).1
      omega
theorem RowTo.done {W : World} {lo g n : Nat} {l : List Nod} (h : RowTo W lo g n l n) (hl : l.length = n) (hn : n ≤ maxLen) : NodRow W lo W.heap.size (.slice (some ⟨g, 0, none⟩) n n) l := by
  obtain ⟨cs, rs, h1, h2, h3, h4, h5, h6, h7⟩ := h
  subst hl
  refine ⟨rs, ?_, fun q e => ?_, h3, fun i r x e1 e2 => ?_, h7⟩
  · exact Filled.own RN.len (by omega) ⟨by rw [h2, h3], fun i r _ hr j u hu => h5 i r hr j u hu⟩ h3 h1 h4 hn
  · have : g = q := by simpa [Value.ownBlock] using e
    subst this; exact lt_of_block h1
  · obtain ⟨a, b, c, d⟩ := h6 i r x e1 e2
    exact ⟨a, b, c, d, fun q e => (d.lt q e).2⟩
def ChainLeft (w : World) (view : Int) (l : List Nod) (e : Ending) (w' : World) : Prop :=
  ∃ A n c, e = .returned (.agg #[.int .i64 view, .slice A n c]) ∧ l.length = n ∧ NodRow w' w.heap.size w'.heap.size (.slice A n c) l ∧ Below w.heap.size w w'
end Go.Proofs.YtemgilofjbnoaaaGreatDoor
namespace Go.Proofs.YtemgilofjbnoaaaGreatDoor
open Go.RowKit
def DrewUpd (w : World) (rb B p : Nat) (e : Ending) (w' : World) : Prop :=
  ∃ (u : Upd) (p' : Nat), e = .returned (.agg #[.int .i64 u.key, .int .i64 u.value]) ∧ p' ≤ p + 4 ∧ Rd w' rb B p' ∧ w.grownBy w' (some rb)
set_option maxHeartbeats 2000000 in
theorem l91Update_any (rb B p : Nat) (w : World) (h : Rd w rb B p) (hp : p ≤ 549755813888) :
    Calls Mo.prog 33 #[.pointer (some ⟨rb, 0, none⟩)] w (DrewUpd w rb B p) := by
  have hrb := h.lt
  have R0 := Lib.hid (h.alloc (.cells #[.int .i64 0, .int .i64 0] 28))
  have K0 := Lib.hid (Blk.new w #[.int .i64 0, .int .i64 0] 28)
  have G0 := Lib.hid (only_alloc (only_refl w rb) (.cells #[.int .i64 0, .int .i64 0] 28))
  clear h
  go_enter Mo.func33, Tryz.ntmps33
  go_wp2_with fail
  refine (pick_any rb B p _ _ R0.out (by omega)).mono ?_
  rintro e w1 ⟨v1, rfl, _, _, _, hr1, hg1⟩
  have R1 := Lib.hid hr1
  have K1 := Lib.hid (K0.out.pick hg1 (by omega))
  have G1 := Lib.hid (only_trans G0.out hg1)
  clear hr1 hg1 R0 K0 G0
  go_wp2_with fail
  refine (pick_any rb B _ _ _ R1.out (by omega)).mono ?_
  rintro e w2 ⟨v2, rfl, _, _, _, hr2, hg2⟩
  have K2 := Lib.hid ((K1.out.pick hg2 (by omega)).alloc (.cells #[.int .i64 v1, .int .i64 v2] 28))
  have R2 := Lib.hid (hr2.alloc (.cells #[.int .i64 v1, .int .i64 v2] 28))
  have L2 := Lib.hid (Blk.new w2 #[.int .i64 v1, .int .i64 v2] 28)
  have G2 := Lib.hid (only_alloc (only_trans G1.out hg2) (.cells #[.int .i64 v1, .int .i64 v2] 28))
  have s2 : w.heap.size + 1 ≤ w2.heap.size := by have := K2.out.lt; have := (only_trans G1.out hg2).size; have := K1.out.lt; have := hg2.size; omega
  clear hr2 hg2 R1 K1 G1
  go_wp2_with fail
  refine (pick_any rb B _ _ _ R2.out (by omega)).mono ?_
  rintro e w3 ⟨v3, rfl, _, _, _, hr3, hg3⟩
  have K3 := Lib.hid (K2.out.pick hg3 (by omega))
  have L3 := Lib.hid (L2.out.pick hg3 (by omega))
  have R3 := Lib.hid hr3
  have G3 := Lib.hid (only_trans G2.out hg3)
  have s3 : w2.heap.size + 1 ≤ w3.heap.size := by have := hg3.size; simp at this; omega
  clear hr3 hg3 R2 K2 L2 G2
  have hne : w2.heap.size ≠ w.heap.size := by omega
  have hne' : w.heap.size ≠ w2.heap.size := by omega
  have hnr : w2.heap.size ≠ rb := by omega
  have hnr' : w.heap.size ≠ rb := by omega
  by_cases h0 : v3 = 0
  · subst h0
    go_wp2_with fail
    refine (pick_any rb B _ _ _ (R3.out.alloc _) (by omega)).mono ?_
    rintro e w4 ⟨v4, rfl, hi0, hi1, _, hr4, hg4⟩
    obtain ⟨ix, rfl⟩ := Int.eq_ofNat_of_zero_le hi0
    have hix := hi1 (by omega)
    have hq : Blk w4 w3.heap.size #[.int .i64 (-1), .int .i64 4, .int .i64 5] 3 := (Blk.new w3 _ _).pick hg4 (by omega)
    obtain ⟨x, hx⟩ : ∃ x, w4.cell? ⟨w3.heap.size, ix, none⟩ = some (.int .i64 x) := by
      have : ix = 0 ∨ ix = 1 ∨ ix = 2 := by omega
      rcases this with rfl | rfl | rfl <;> exact ⟨_, hq.cell rfl⟩
    have K4 := (K3.out.alloc (.cells #[.int .i64 (-1), .int .i64 4, .int .i64 5] 3)).pick hg4 (by omega)
    have L4 := (L3.out.alloc (.cells #[.int .i64 (-1), .int .i64 4, .int .i64 5] 3)).pick hg4 (by omega)
    have z0 := K4.cell (i := 0) rfl
    have z1 := K4.cell (i := 1) rfl
    have y0 := K4.free 0
    have y1 := K4.free 1
    have d0 := L4.cell (i := 0) rfl
    have d1 := L4.cell (i := 1) rfl
    have f0 := L4.free 0
    have R4 := Lib.hid hr4
    have G4 := Lib.hid (only_trans (only_alloc G3.out (.cells #[.int .i64 (-1), .int .i64 4, .int .i64 5] 3)) hg4)
    have hM := ((L4.set 0 (.int .i64 x)))
    have hN := K4.far (a := ⟨w2.heap.size, 0, none⟩) hne' (.int .i64 x)
    obtain ⟨e0, e1⟩ := two_stores _ w.heap.size (hN.cell (i := 0) rfl) (hN.cell (i := 1) rfl)
    clear hi1 hq hr4 hg4 K4 L4 hM hN R3 K3 L3 G3
    go_wp2
    refine bodyPost_ret (v := .agg #[.int .i64 x, .int .i64 v2]) (by simp [results, Tryz.results33, go_sem, e0, e1]) rfl ⟨⟨x, v2⟩, p + 1 + 1 + 1 + 1, rfl, (by omega), ?_, ?_⟩
    · exact ((R4.out.far (a := ⟨w2.heap.size, 0, none⟩) (by show rb < w2.heap.size; omega) _).far (a := ⟨w.heap.size, 0, none⟩) hrb _).far (a := ⟨w.heap.size, 1, none⟩) hrb _
    · exact only_set (a := ⟨w.heap.size, 1, none⟩) (only_set (a := ⟨w.heap.size, 0, none⟩) (only_set (a := ⟨w2.heap.size, 0, none⟩) G4.out (by show w.heap.size ≤ w2.heap.size; omega) _) (Nat.le_refl _) _) (Nat.le_refl _) _
  by_cases h1 : v3 = 1
  · subst h1
    go_wp2_with fail
    refine (pick_any rb B _ _ _ (R3.out.alloc _) (by omega)).mono ?_
    rintro e w4 ⟨v4, rfl, hi0, hi1, _, hr4, hg4⟩
    obtain ⟨ix, rfl⟩ := Int.eq_ofNat_of_zero_le hi0
    have hix := hi1 (by omega)
    have hq : Blk w4 w3.heap.size #[.int .i64 (-1), .int .i64 99, .int .i64 100] 3 := (Blk.new w3 _ _).pick hg4 (by omega)
    obtain ⟨x, hx⟩ : ∃ x, w4.cell? ⟨w3.heap.size, ix, none⟩ = some (.int .i64 x) := by
      have : ix = 0 ∨ ix = 1 ∨ ix = 2 := by omega
      rcases this with rfl | rfl | rfl <;> exact ⟨_, hq.cell rfl⟩
    have K4 := (K3.out.alloc (.cells #[.int .i64 (-1), .int .i64 99, .int .i64 100] 3)).pick hg4 (by omega)
    have L4 := (L3.out.alloc (.cells #[.int .i64 (-1), .int .i64 99, .int .i64 100] 3)).pick hg4 (by omega)
    have z0 := K4.cell (i := 0) rfl
    have z1 := K4.cell (i := 1) rfl
    have y0 := K4.free 0
    have y1 := K4.free 1
    have d0 := L4.cell (i := 0) rfl
    have d1 := L4.cell (i := 1) rfl
    have f1 := L4.free 1
    have R4 := Lib.hid hr4
    have G4 := Lib.hid (only_trans (only_alloc G3.out (.cells #[.int .i64 (-1), .int .i64 99, .int .i64 100] 3)) hg4)
    have hN := K4.far (a := ⟨w2.heap.size, 1, none⟩) hne' (.int .i64 x)
    obtain ⟨e0, e1⟩ := two_stores _ w.heap.size (hN.cell (i := 0) rfl) (hN.cell (i := 1) rfl)
    clear hi1 hq hr4 hg4 K4 L4 hN R3 K3 L3 G3
    go_wp2
    refine bodyPost_ret (v := .agg #[.int .i64 v1, .int .i64 x]) (by simp [results, Tryz.results33, go_sem, e0, e1]) rfl ⟨⟨v1, x⟩, p + 1 + 1 + 1 + 1, rfl, (by omega), ?_, ?_⟩
    · exact ((R4.out.far (a := ⟨w2.heap.size, 1, none⟩) (by show rb < w2.heap.size; omega) _).far (a := ⟨w.heap.size, 0, none⟩) hrb _).far (a := ⟨w.heap.size, 1, none⟩) hrb _
    · exact only_set (a := ⟨w.heap.size, 1, none⟩) (only_set (a := ⟨w.heap.size, 0, none⟩) (only_set (a := ⟨w2.heap.size, 1, none⟩) G4.out (by show w.heap.size ≤ w2.heap.size; omega) _) (Nat.le_refl _) _) (Nat.le_refl _) _
  · have hz0 : (v3 == 0) = false := by simp [h0]
    have hz1 : (v3 == 1) = false := by simp [h1]
    have z0 := K3.out.cell (i := 0) rfl
    have z1 := K3.out.cell (i := 1) rfl
    have y0 := K3.out.free 0
    have y1 := K3.out.free 1
    have d0 := L3.out.cell (i := 0) rfl
    have d1 := L3.out.cell (i := 1) rfl
    obtain ⟨e0, e1⟩ := two_stores _ w.heap.size z0 z1
    clear h0 h1 K3 L3
    go_wp2
    refine bodyPost_ret (v := .agg #[.int .i64 v1, .int .i64 v2]) (by simp [results, Tryz.results33, go_sem, e0, e1]) rfl ⟨⟨v1, v2⟩, p + 1 + 1 + 1, rfl, (by omega), ?_, ?_⟩
    · exact (R3.out.far (a := ⟨w.heap.size, 0, none⟩) hrb _).far (a := ⟨w.heap.size, 1, none⟩) hrb _
    · exact only_set (a := ⟨w.heap.size, 1, none⟩) (only_set (a := ⟨w.heap.size, 0, none⟩) G3.out (Nat.le_refl _) _) (Nat.le_refl _) _
abbrev DrU (w0 w : World) (rb B p : Nat) (v : Value) (l : List Upd) : Prop := DrF Upd.enc 2 28 w0 w rb B p v l
def DrewLog (w : World) (rb B p : Nat) (e : Ending) (w' : World) : Prop :=
  ∃ v l p', e = .returned v ∧ l.length ≤ 13 ∧ p' ≤ p + 80 ∧ DrU w w' rb B p' v l
theorem DrF.only {α : Type} {enc : α → List Value} {sz : Nat} {e : TypeId} {w0 w w' : World} {rb B p p' : Nat} {v : Value} {l : List α} (h : DrF enc sz e w0 w rb B p v l) (hr : Rd w' rb B p') (hg : w.grownBy w' (some rb)) : DrF enc sz e w0 w' rb B p' v l := h.picked hr hg
set_option maxHeartbeats 2000000 in
theorem l91Log_any (rb B p : Nat) (w : World) (h : Rd w rb B p) (hp : p ≤ 274877906944) :
    Calls Mo.prog 60 #[.pointer (some ⟨rb, 0, none⟩)] w (DrewLog w rb B p) := by
  obtain ⟨i0, hi, hz0, hz1, hz2⟩ := info_parts infoUpd
  have h0 : DrU w (w.alloc (.cells #[] 28)) rb B p (.slice (some ⟨w.heap.size, 0, none⟩) 0 0) [] :=
    ⟨h.below ((Below.refl _ _).alloc (Nat.le_refl _) _), World.ownsRow_made w #[] 0 (Nat.le_refl _) (Nat.zero_le _) (by simp), only_of_below ((Below.refl _ _).alloc (Nat.le_refl _) _), h.lt⟩
  have H0 := Lib.hid h0
  clear h0 h
  go_enter Mo.func60, Tryz.ntmps60
  go_wp2_with fail
  refine (pick_any rb B p _ _ H0.out.1 (by omega)).mono ?_
  rintro e w1 ⟨n, rfl, hn0, hn1, _, hr1, hg1⟩
  have H1 := Lib.hid (H0.out.picked hr1 hg1)
  clear hr1 hg1 H0
  have hn5 := hn1 (by omega)
  clear hn1
  go_wp2_with fail
  refine (pick_any rb B _ _ _ H1.out.1 (by omega)).mono ?_
  rintro e w2 ⟨n16, rfl, _, _, _, hr2, hg2⟩
  have H2 := Lib.hid (H1.out.picked hr2 hg2)
  clear hr2 hg2 H1
  by_cases hz : n16 = 0
  case' pos =>
    have hz' : (n16 == 0) = true := by simp [hz]
    clear hz
    go_wp2_with fail
    refine (pick_any rb B _ _ _ H2.out.1 (by omega)).mono ?_
    rintro e w3 ⟨n3, rfl, hn3, hn4, _, hr3, hg3⟩
    have H4 := Lib.hid (H2.out.picked hr3 hg3)
    have hn5 := hn4 (by omega)
    clear hr3 hg3 H2 hn4
    go_wp2_with fail
    obtain ⟨m, hm, hm0, hm6⟩ : ∃ m : Int, 11 + n3 = m ∧ 0 ≤ m ∧ m ≤ 13 := ⟨11 + n3, rfl, by omega, by omega⟩
    try rw [hm]
  case' neg =>
    have hz' : (n16 == 0) = false := by simp [hz]
    clear hz
    have H4 := H2
    clear H2
    go_wp2_with fail
    obtain ⟨m, hm, hm0, hm6⟩ : ∃ m : Int, n = m ∧ 0 ≤ m ∧ m ≤ 13 := ⟨n, rfl, by omega, by omega⟩
    rw [hm]
  all_goals
    clear hm
    go_loopw [3, 5] (fun v i wr => ∃ (k : Nat) (l : List Upd) (p' : Nat), i = .int .i64 k ∧ (k : Int) ≤ m ∧ Hid (l.length = k) ∧ p' ≤ p + 3 + 4 * k ∧ DrU w wr rb B p' v l)
      (fun _ i _ => 13 - (intOf i).toNat)
    case atStart => exact ⟨0, [], _, rfl, by omega, rfl, (by have : p + 1 + 1 + 1 ≤ p + 3 + 4 * 0 := by omega
                                                             first | exact this | omega), H4.out⟩
    case round =>
      obtain ⟨k, l, p', rfl, hkm, hlen, hpp, hdr⟩ := hrel
      have HD := Lib.hid hdr
      clear hdr H4
      have hl1 : l.length ≤ k := Nat.le_of_eq hlen.out
      have hl2 : k ≤ l.length := Nat.le_of_eq hlen.out.symm
      by_cases hlt : (k : Int) < m
      · go_wp2_with fail
        refine (l91Update_any rb B _ _ HD.out.1 (by omega)).mono ?_
        rintro e w4 ⟨u, p4, rfl, hp4, hr4, hg4⟩
        have H5 := Lib.hid (HD.out.picked hr4 hg4)
        have hsz6 : w.heap.size ≤ w4.heap.size := H5.out.2.2.1.size
        clear hr4 hg4 HD
        go_wp2_with (at_builtin; refine wpList_append_own _ rfl _ _ 76 rfl w.heap.size 28 i0 _ 2 16 Mo.underlying76 hi hz0 hz1 hz2 rfl (by decide) _ l.length (l.flatMap Upd.enc) rfl (H5.out.2.1.alloc _) ⟨w4.heap.size, 0, none⟩ 1 1 (Upd.enc u) rfl rfl (new_cells _ _ _ _ rfl) (Upd.one _) (by unfold maxLen; omega) (by omega) (by simp; omega) ?_; intro v7 w7 hown7 hg7 _; have H7 := Lib.hid (H5.out.appended hown7 hg7); clear hown7 hg7 H5)
        go_roundw
        case rel => exact ⟨k + 1, l ++ [u], p4, by go_num, by omega, by simp [Hid]; omega, by omega, H7.out⟩
        case measure => simp [intOf]; omega
      · go_wp2
        go_ret
        exact ⟨_, l, p', rfl, by omega, by omega, HD.out⟩
end Go.Proofs.YtemgilofjbnoaaaGreatDoor
namespace Go.Proofs.YtemgilofjbnoaaaGreatDoor
open Go.RowKit
theorem blk_type {W : World} {b : Nat} {cs ds : Array Value} {t u : TypeId} {fr gr : Nat × Nat} (h1 : W.heap[b]? = some (.cells cs t fr)) (h2 : W.heap[b]? = some (.cells ds u gr)) : t = u := by
  rw [h1] at h2; injection h2 with h2; injection h2
section
variable {w w' : World} {lo hi : Nat} {v : Value} {l : List Nod}
theorem NodRow.keepT (h : NodRow w lo hi v l) (hk : ∀ (k : Nat) (cs : Array Value) (t : TypeId), w.heap[k]? = some (.cells cs t (0, 0)) → t = 78 ∨ t = 28 → w'.heap[k]? = w.heap[k]?) : NodRow w' lo hi v l := by
  obtain ⟨rs, ho, hv, hl, hr, hd⟩ := h
  have kp : ∀ {lo' n sz : Nat} {t : TypeId} {u : Value} {xs : List Value}, t = 78 ∨ t = 28 → w.ownsRow lo' t sz u n xs → w'.ownsRow lo' t sz u n xs := fun ht hh => own_keep hh fun g e => by
    obtain ⟨cs, hb⟩ := own_blk hh e
    exact hk g cs _ hb ht
  refine ⟨rs, kp (.inl rfl) ho, hv, hl, fun i r x h1 h2 => ?_, hd⟩
  obtain ⟨a, b, c, d, f⟩ := hr i r x h1 h2
  exact ⟨a, b, c, kp (.inr rfl) d, f⟩
theorem NodRow.setCell {g n c i j : Nat} {x x' : Nod} {u : Value} (h : NodRow w lo hi (.slice (some ⟨g, 0, none⟩) n c) l) (hx : l[i]? = some x) (hj : j < 3)
    (hu : ∀ r : RN, r.id = x.id → r.done = x.done → ∃ r' : RN, r'.enc = r.enc.set j u ∧ r'.A = r.A ∧ r'.n = r.n ∧ r'.c = r.c ∧ r'.id = x'.id ∧ r'.done = x'.done) (hl' : x'.log = x.log) :
    NodRow (w.setCell ⟨g, i * 3 + j, none⟩ u) lo hi (.slice (some ⟨g, 0, none⟩) n c) (l.set i x') := by
  obtain rfl : n = l.length := h.nods'.1
  obtain ⟨rs, ho, hv, hl, hr, hd⟩ := h
  have hi := (List.getElem?_eq_some_iff.1 hx).1
  have hri : rs[i]? = some (rs[i]'(by omega)) := List.getElem?_eq_getElem _
  obtain ⟨a1, a2, a3, a4, a5⟩ := hr i _ x hri hx
  obtain ⟨r', e1, e2, e3, e4, e5, e6⟩ := hu _ a1 a2
  have hst := (ho.stored (i * 3 + j) u).1
  rw [flatMap_set RN.len e1 hj rs i hri] at hst
  have offg : ∀ {A : Option Addr} {m c' : Nat} {xs : List Value} {lo' : Nat}, w.ownsRow lo' 28 2 (.slice A m c') m xs → ∀ q, (Value.slice A m c').ownBlock = some q → q ≠ g := fun hh q hq e => by
    subst e
    exact own_part hh ho (by decide) hq rfl
  refine ⟨rs.set i r', by rw [List.length_set]; exact hst, hv, by simp [hl], fun k r y h1 h2 => ?_, fun p q r s b h1 h2 hpq o1 o2 => ?_⟩
  · by_cases hk : i = k
    · subst hk
      rw [List.getElem?_set_self (by omega)] at h1
      rw [List.getElem?_set_self (by omega)] at h2
      injection h1 with h1; injection h2 with h2
      subst h1; subst h2
      refine ⟨e5, e6, by rw [hl', e3]; exact a3, ?_, by rw [e2, e3, e4]; exact a5⟩
      rw [e2, e3, e4, hl']
      exact own_keep a4 (fun q hq => Below.heap_setCell _ _ _ _ (offg a4 q hq))
    · rw [List.getElem?_set_ne hk] at h1 h2
      obtain ⟨b1, b2, b3, b4, b5⟩ := hr k r y h1 h2
      exact ⟨b1, b2, b3, own_keep b4 (fun q hq => Below.heap_setCell _ _ _ _ (offg b4 q hq)), b5⟩
  · have same : ∀ (k : Nat) (t : RN), (rs.set i r')[k]? = some t → ∃ t0 : RN, rs[k]? = some t0 ∧ t0.A = t.A ∧ t0.n = t.n ∧ t0.c = t.c := fun k t ht => by
      by_cases hk : i = k
      · subst hk
        rw [List.getElem?_set_self (by omega)] at ht
        injection ht with ht; subst ht
        exact ⟨_, hri, e2.symm, e3.symm, e4.symm⟩
      · rw [List.getElem?_set_ne hk] at ht
        exact ⟨t, ht, rfl, rfl, rfl⟩
    obtain ⟨r0, f1, f2, f3, f4⟩ := same p r h1
    obtain ⟨s0, g1, g2, g3, g4⟩ := same q s h2
    rw [← f2, ← f3, ← f4] at o1
    rw [← g2, ← g3, ← g4] at o2
    exact hd p q r0 s0 b f1 g1 hpq o1 o2
theorem NodRow.setDone {g n c i : Nat} {x : Nod} (h : NodRow w lo hi (.slice (some ⟨g, 0, none⟩) n c) l) (hx : l[i]? = some x) (d : Int) :
    NodRow (w.setCell ⟨g, i * 3 + 2, none⟩ (.int .i64 d)) lo hi (.slice (some ⟨g, 0, none⟩) n c) (l.set i { x with done := d }) :=
  h.setCell hx (by omega) (fun r h1 h2 => ⟨{ r with done := d }, rfl, rfl, rfl, rfl, h1, rfl⟩) rfl
theorem NodRow.setId {g n c i : Nat} {x : Nod} (h : NodRow w lo hi (.slice (some ⟨g, 0, none⟩) n c) l) (hx : l[i]? = some x) (d : Int) :
    NodRow (w.setCell ⟨g, i * 3 + 0, none⟩ (.int .i64 d)) lo hi (.slice (some ⟨g, 0, none⟩) n c) (l.set i { x with id := d }) :=
  h.setCell hx (by omega) (fun r h1 h2 => ⟨{ r with id := d }, rfl, rfl, rfl, rfl, rfl, h2⟩) rfl
theorem NodRow.form (h : NodRow w lo hi v l) (hn : 0 < l.length) : ∃ g c, v = .slice (some ⟨g, 0, none⟩) l.length c ∧ lo ≤ g ∧ g < w.heap.size ∧ l.length ≤ c := by
  obtain ⟨rs, ho, _⟩ := h
  exact own_form ho hn
theorem NodRow.at_ {g n c k : Nat} (h : NodRow w lo hi (.slice (some ⟨g, 0, none⟩) n c) l) (hk : k < l.length) :
    ∃ x A' m d, l[k]? = some x ∧ w.cell? ⟨g, k * 3, none⟩ = some (.int .i64 x.id) ∧ w.cell? ⟨g, k * 3 + 1, none⟩ = some (.slice A' m d) ∧ w.cell? ⟨g, k * 3 + 2, none⟩ = some (.int .i64 x.done) ∧ x.log.length = m ∧ m ≤ d ∧
      (∀ j, w.frozen? ⟨g, j, none⟩ = false) := by
  obtain ⟨hn, hN⟩ := h.nods'
  subst hn
  obtain ⟨b, off, x, A', m, d, e, _, _, hx, c0, c1, c2, hf⟩ := hN.nod (k := k) (by omega)
  injection e with e; injection e with e1 e2
  subst e1; subst e2
  obtain ⟨rs, ho, _⟩ := h
  refine ⟨x, A', m, d, hx, by simpa using c0, by simpa using c1, by simpa using c2, hf.len, hf.2.1, fun j => ho.frozenAt j⟩
end
end Go.Proofs.YtemgilofjbnoaaaGreatDoor
namespace Go.Proofs.YtemgilofjbnoaaaGreatDoor
open Go.RowKit
def Oth (w : World) (s : Nat) (L : List (Nat × Array Value × TypeId)) : Prop := ∀ p ∈ L, Blk w p.1 p.2.1 p.2.2 ∧ p.1 < s ∧ p.2.2 ≠ 78 ∧ p.2.2 ≠ 28
theorem Oth.nil (w : World) (s : Nat) : Oth w s [] := fun p h => by cases h
theorem Oth.cons {w : World} {s b : Nat} {cs : Array Value} {t : TypeId} {L : List (Nat × Array Value × TypeId)} (h : Oth w s L) (hb : Blk w b cs t) (hs : b < s) (ht : t ≠ 78 ∧ t ≠ 28) : Oth w s ((b, cs, t) :: L) := by
  intro p hp
  rcases List.mem_cons.1 hp with e | hp
  · subst e; exact ⟨hb, hs, ht⟩
  · exact h p hp
theorem Oth.keep {w w' : World} {s : Nat} {L : List (Nat × Array Value × TypeId)} (h : Oth w s L) (hk : ∀ (k : Nat) (cs : Array Value) (t : TypeId), w.heap[k]? = some (.cells cs t (0, 0)) → k < s → t ≠ 78 → t ≠ 28 → w'.heap[k]? = w.heap[k]?) : Oth w' s L :=
  fun p hp => by obtain ⟨a, b, c, d⟩ := h p hp; exact ⟨(hk _ _ _ a b c d).trans a, b, c, d⟩
structure CB (w0 w : World) (s : Nat) (view : Int) (nv : Value) (l : List Nod) (hi : Nat) (L : List (Nat × Array Value × TypeId)) : Prop where
  bel : Below w0.heap.size w0 w
  chn : Blk w s #[.int .i64 view, nv] 25
  s0 : w0.heap.size ≤ s
  s1 : s < hi
  his : hi ≤ w.heap.size
  row : NodRow w w0.heap.size hi nv l
  oth : Oth w s L
section
variable {w0 w w' : World} {s : Nat} {view : Int} {nv : Value} {l : List Nod} {hi : Nat} {L : List (Nat × Array Value × TypeId)}
theorem Oth.below (h : Oth w s L) (hb : Below w.heap.size w w') : Oth w' s L := h.keep fun k _ _ hk _ _ _ => hb.block k (lt_of_block hk)
theorem CB.new (hb : Below w0.heap.size w0 w) (view : Int) (h : Oth w w.heap.size L) : CB w0 (w.alloc (.cells #[.int .i64 view, .slice none 0 0] 25)) w.heap.size view (.slice none 0 0) [] (w.heap.size + 1) L :=
  ⟨hb.alloc hb.size _, Blk.new w _ _, hb.size, by omega, by simp, NodRow.nil_ _ _ _, h.below ((Below.refl _ _).alloc (Nat.le_refl _) _)⟩
theorem CB.made {view : Int} {A : Option Addr} {n c : Nat} (hb : Below w0.heap.size w0 w) (hrow : NodRow w w0.heap.size w.heap.size (.slice A n c) l) (h : Oth w w.heap.size L) : CB w0 (w.alloc (.cells #[.int .i64 view, .slice A n c] 25)) w.heap.size view (.slice A n c) l (w.heap.size + 1) L :=
  ⟨hb.alloc hb.size _, Blk.new w _ _, hb.size, by omega, by simp, (hrow.keep (fun _ _ h => Below.heap_alloc _ _ _ h)).mono (by omega), h.below ((Below.refl _ _).alloc (Nat.le_refl _) _)⟩
theorem Oth.raise {s' : Nat} (h : Oth w s L) (hs : s ≤ s') : Oth w s' L := fun p hp => by obtain ⟨a, b, c, d⟩ := h p hp; exact ⟨a, Nat.lt_of_lt_of_le b hs, c, d⟩
theorem CB.stored {view : Int} {A : Option Addr} {n c s : Nat} (hb : Below w0.heap.size w0 w) (hrow : NodRow w w0.heap.size w.heap.size (.slice A n c) l) (hres : Blk w s #[.int .i64 0, .slice none 0 0] 25) (hs : w0.heap.size ≤ s) (h : Oth w s L) :
    CB w0 ((w.setCell ⟨s, 0, none⟩ (.int .i64 view)).setCell ⟨s, 1, none⟩ (.slice A n c)) s view (.slice A n c) l w.heap.size L := by
  have hc : w.heap[s]? = some (.cells #[.int .i64 0, .slice none 0 0] 25 (0, 0)) := hres
  have off : ∀ k, k ≠ s → ((w.setCell ⟨s, 0, none⟩ (.int .i64 view)).setCell ⟨s, 1, none⟩ (.slice A n c)).heap[k]? = w.heap[k]? := fun k hk => by rw [Below.heap_setCell _ _ _ _ hk, Below.heap_setCell _ _ _ _ hk]
  exact ⟨(hb.setCell (p := ⟨s, 0, none⟩) hs _).setCell (p := ⟨s, 1, none⟩) hs _, (hres.set 0 _).set 1 _, hs, hres.lt, by simp [World.setCell], hrow.keepT (fun k cs t hk ht => off k (by
      rintro rfl
      have := blk_type hk hc
      rcases ht with rfl | rfl <;> exact absurd this (by decide))), h.keep (fun k _ _ _ hlt _ _ => off k (by omega))⟩
theorem CB.below (h : CB w0 w s view nv l hi L) (hb : Below w.heap.size w w') : CB w0 w' s view nv l hi L :=
  ⟨h.bel.trans (hb.mono h.bel.size), h.chn.below hb, h.s0, h.s1, Nat.le_trans h.his hb.size, h.row.keep (fun k _ hk => hb.block k (Nat.lt_of_lt_of_le hk h.his)), h.oth.below hb⟩
theorem CB.alloc (h : CB w0 w s view nv l hi L) (o : Obj) : CB w0 (w.alloc o) s view nv l hi L := h.below ((Below.refl _ _).alloc (Nat.le_refl _) _)
theorem CB.drew (h : CB w0 w s view nv l hi L) : CB w0 w.drew s view nv l hi L := h.below (Below.refl _ _).drew
theorem CB.raise (h : CB w0 w s view nv l hi L) : CB w0 w s view nv l w.heap.size L := ⟨h.bel, h.chn, h.s0, Nat.lt_of_lt_of_le h.s1 h.his, Nat.le_refl _, h.row.mono h.his, h.oth⟩
theorem CB.beside {row : Option Nat} (h : CB w0 w s view nv l hi L) (hg : w.grownBy w' row) (hr : ∀ g, row = some g → hi ≤ g) : CB w0 w' s view nv l hi L := by
  have hs0 := h.s0
  have hs1 := h.s1
  have blk : ∀ k, k < hi → w'.heap[k]? = w.heap[k]? := fun k hk => hg.block k (Nat.lt_of_lt_of_le hk h.his) (fun e => by have := hr k e.symm; omega)
  exact ⟨h.bel.grown hg h.bel.size (fun k e => by have := hr k e; omega), (blk s hs1).trans h.chn, hs0, hs1, Nat.le_trans h.his hg.size, h.row.keep (fun k _ hk => blk k hk), h.oth.keep (fun k _ _ _ hs _ _ => blk k (by omega))⟩
theorem CB.size (h : CB w0 w s view nv l hi L) : s < w.heap.size := by have := h.s1; have := h.his; omega
theorem CB.nods {A : Option Addr} {n c : Nat} (h : CB w0 w s view (.slice A n c) l hi L) : n = l.length ∧ Nods w 0 w.heap.size A n c l := by
  obtain ⟨e, hn⟩ := h.row.nods'
  exact ⟨e, hn.mono (Nat.zero_le _) h.his⟩
theorem Oth.set {g i : Nat} {u : Value} {cs : Array Value} {t : TypeId} (h : Oth w s L) (hg : w.heap[g]? = some (.cells cs t (0, 0))) (ht : s ≤ g ∨ t = 78 ∨ t = 28) : Oth (w.setCell ⟨g, i, none⟩ u) s L :=
  h.keep fun k ds t' hk hs h1 h2 => Below.heap_setCell _ _ _ _ (by
    rintro rfl
    have := blk_type hk hg
    subst this
    rcases ht with h | h | h
    · omega
    · exact h1 h
    · exact h2 h)
theorem CB.setView (h : CB w0 w s view nv l hi L) (u : Int) : CB w0 (w.setCell ⟨s, 0, none⟩ (.int .i64 u)) s u nv l hi L := by
  have hc : w.heap[s]? = some (.cells #[.int .i64 view, nv] 25 (0, 0)) := h.chn
  exact ⟨h.bel.setCell (p := ⟨s, 0, none⟩) h.s0 _, h.chn.set 0 _, h.s0, h.s1, by simpa [World.setCell] using h.his,
    (h.row.keepT (fun k cs t hk ht => Below.heap_setCell _ _ _ _ (by
      rintro rfl
      have := blk_type hk hc
      rcases ht with rfl | rfl <;> exact absurd this (by decide)))), h.oth.set hc (.inl (Nat.le_refl _))⟩
theorem after_blk {w1 : World} {rs : List RN} {o : Obj} {lo hi : Nat} (hat : NodRowAt w lo hi nv l rs) (hg : (w.alloc o).grownBy w1 nv.ownBlock) {k : Nat} {cs : Array Value} {t : TypeId} (hk : w.heap[k]? = some (.cells cs t (0, 0))) (ht : t ≠ 78) : w1.heap[k]? = w.heap[k]? :=
  (hg.block k (by have := lt_of_block hk; simp; omega) (fun e => by
    obtain ⟨ds, hd⟩ := own_blk hat.1 e.symm
    exact ht (blk_type hk hd))).trans (Below.heap_alloc _ _ _ (lt_of_block hk))
theorem CB.chnAfter {w1 : World} {rs : List RN} {o : Obj} (h : CB w0 w s view nv l hi L) (hat : NodRowAt w w0.heap.size hi nv l rs) (hg : (w.alloc o).grownBy w1 nv.ownBlock) : Blk w1 s #[.int .i64 view, nv] 25 :=
  (after_blk hat hg h.chn (by decide)).trans h.chn
theorem CB.appended {w1 : World} {nv' : Value} {x : Nod} {r : RN} {o : Obj} {rs : List RN} (h : CB w0 w s view nv l hi L) (hat : NodRowAt w w0.heap.size hi nv l rs) (hr : r.id = x.id ∧ r.done = x.done ∧ x.log.length = r.n)
    (hlog : w.ownsRow w0.heap.size 28 2 (.slice r.A r.n r.c) r.n (x.log.flatMap Upd.enc)) (hnew : ∀ g, (Value.slice r.A r.n r.c).ownBlock = some g → hi ≤ g)
    (ho' : w1.ownsRow w0.heap.size 78 3 nv' (l.length + 1) (rs.flatMap RN.enc ++ r.enc)) (hg : (w.alloc o).grownBy w1 nv.ownBlock) :
    CB w0 (w1.setCell ⟨s, 1, none⟩ nv') s view nv' (l ++ [x]) w1.heap.size L := by
  have hs := h.s0
  have hs1 := h.s1
  have hhi := h.his
  have hsz : w.heap.size ≤ w1.heap.size := Nat.le_trans (by simp) hg.size
  have hrow := hat.appended (hi' := w1.heap.size) hr hlog hnew (Nat.le_refl _) hhi ho' hg
  have hchn := h.chnAfter hat hg
  have hc : w1.heap[s]? = some (.cells #[.int .i64 view, nv] 25 (0, 0)) := hchn
  have hb1 : Below w0.heap.size w0 w1 := (h.bel.alloc h.bel.size o).grown hg (by have := h.bel.size; simp; omega) (fun k e => (hat.1.lt k e).1)
  exact ⟨hb1.setCell (p := ⟨s, 1, none⟩) hs _, hchn.set 1 _, hs, by omega, by simp [World.setCell],
    (hrow.keepT (fun k cs t hk ht => Below.heap_setCell _ _ _ _ (by
      rintro rfl
      have := blk_type hk hc
      rcases ht with rfl | rfl <;> exact absurd this (by decide)))), (h.oth.keep (fun k cs t hk _ h1 _ => after_blk hat hg hk h1)).set hc (.inl (Nat.le_refl _))⟩
theorem CB.setNode {g n cc i j : Nat} {u : Value} {l' : List Nod} (h : CB w0 w s view (.slice (some ⟨g, 0, none⟩) n cc) l hi L) (hrow : NodRow (w.setCell ⟨g, i * 3 + j, none⟩ u) w0.heap.size hi (.slice (some ⟨g, 0, none⟩) n cc) l') :
    CB w0 (w.setCell ⟨g, i * 3 + j, none⟩ u) s view (.slice (some ⟨g, 0, none⟩) n cc) l' hi L := by
  obtain ⟨rs, ho, _⟩ := h.row
  obtain ⟨cs, hg⟩ := own_blk ho rfl
  have hlo := (ho.lt g rfl).1
  have off : s ≠ g := fun e => by subst e; exact absurd (blk_type h.chn hg) (by decide)
  exact ⟨h.bel.setCell (p := ⟨g, i * 3 + j, none⟩) hlo _, h.chn.far (a := ⟨g, i * 3 + j, none⟩) off _, h.s0, h.s1, by simpa [World.setCell] using h.his, hrow, h.oth.set hg (.inr (.inl rfl))⟩
theorem CB.setDone {g n cc i : Nat} {x : Nod} (h : CB w0 w s view (.slice (some ⟨g, 0, none⟩) n cc) l hi L) (hx : l[i]? = some x) (d : Int) :
    CB w0 (w.setCell ⟨g, i * 3 + 2, none⟩ (.int .i64 d)) s view (.slice (some ⟨g, 0, none⟩) n cc) (l.set i { x with done := d }) hi L := h.setNode (h.row.setDone hx d)
theorem CB.blk (h : CB w0 w s view nv l hi L) {b : Nat} {cs : Array Value} {t : TypeId} (hm : (b, cs, t) ∈ L) : Blk w b cs t := (h.oth _ hm).1
theorem CB.out {b : Nat} {u v : Value} {cs : Array Value} (h : CB w0 w s view nv l hi L) (hb : Blk w b cs 25) (h0 : w0.heap.size ≤ b) :
    NodRow ((w.setCell ⟨b, 0, none⟩ u).setCell ⟨b, 1, none⟩ v) w0.heap.size ((w.setCell ⟨b, 0, none⟩ u).setCell ⟨b, 1, none⟩ v).heap.size nv l ∧ Below w0.heap.size w0 ((w.setCell ⟨b, 0, none⟩ u).setCell ⟨b, 1, none⟩ v) := by
  have hb' : w.heap[b]? = some (.cells cs 25 (0, 0)) := hb
  refine ⟨(h.row.keepT (fun k ds t hk ht => ?_)).mono (by simpa [World.setCell] using h.his), (h.bel.setCell (p := ⟨b, 0, none⟩) h0 _).setCell (p := ⟨b, 1, none⟩) h0 _⟩
  have hne : k ≠ b := by
    rintro rfl
    have := blk_type hk hb'
    rcases ht with rfl | rfl <;> exact absurd this (by decide)
  rw [Below.heap_setCell _ _ _ _ hne, Below.heap_setCell _ _ _ _ hne]
end
def ChainRes (w : World) (o : Option (Int × List Nod)) (e : Ending) (w' : World) : Prop :=
  ∃ (view : Int) (A : Option Addr) (n c : Nat) (l : List Nod), (view, l) = o.getD (0, []) ∧ e = .returned (.tuple #[.agg #[.int .i64 view, .slice A n c], .bool o.isSome]) ∧ l.length = n ∧ NodRow w' w.heap.size w'.heap.size (.slice A n c) l ∧ Below w.heap.size w w'
theorem ChainRes.none_ {w w1 : World} (hb : Below w.heap.size w w1) : ChainRes w none (.returned (.tuple #[.agg #[.int .i64 0, .slice none 0 0], .bool false])) w1 :=
  ⟨0, none, 0, 0, [], rfl, rfl, rfl, NodRow.nil_ _ _ _, hb⟩
def NodeMade (w : World) (x : Nod) (e : Ending) (w' : World) : Prop :=
  ∃ A m c, e = .returned (.agg #[.int .i64 x.id, .slice A m c, .int .i64 x.done]) ∧ x.log.length = m ∧ w'.ownsRow w.heap.size 28 2 (.slice A m c) m (x.log.flatMap Upd.enc) ∧ Below w.heap.size w w'
end Go.Proofs.YtemgilofjbnoaaaGreatDoor
namespace Go.Proofs.YtemgilofjbnoaaaGreatDoor
open Go.RowKit
def StAt (W : World) (g : Nat) (st : List Int) : Prop :=
  g < W.heap.size ∧ (∀ i x, st[i]? = some x → W.cell? ⟨g, i, none⟩ = some (.int .i64 x)) ∧ (∀ i, i < st.length → W.frozen? ⟨g, i, none⟩ = false)
section
variable {W W' : World} {g : Nat} {st : List Int}
theorem StAt.keep (h : StAt W g st) (hk : W'.heap[g]? = W.heap[g]?) (hs : g < W'.heap.size) : StAt W' g st :=
  ⟨hs, fun i x hx => (World.cell?_of_block (w := W) hk).trans (h.2.1 i x hx), fun i hi => (World.frozen?_of_block (w := W) hk).trans (h.2.2 i hi)⟩
theorem StAt.below (h : StAt W g st) (hb : Below W.heap.size W W') : StAt W' g st := h.keep (hb.block g h.1) (Nat.lt_of_lt_of_le h.1 hb.size)
theorem StAt.alloc (h : StAt W g st) (o : Obj) : StAt (W.alloc o) g st := h.below ((Below.refl _ _).alloc (Nat.le_refl _) _)
theorem StAt.kept {row : Option Nat} (h : StAt W g st) (hg : W.grownBy W' row) (hne : some g ≠ row) : StAt W' g st := h.keep (hg.block g h.1 hne) (Nat.lt_of_lt_of_le h.1 hg.size)
theorem StAt.far (h : StAt W g st) {p : Addr} (hp : g ≠ p.block) (u : Value) : StAt (W.setCell p u) g st := h.keep (Below.heap_setCell W p u g hp) (by simpa [World.setCell] using h.1)
theorem StAt.at_ (h : StAt W g st) {k : Nat} (hk : k < st.length) : ∃ x, st[k]? = some x ∧ W.cell? ⟨g, k, none⟩ = some (.int .i64 x) :=
  ⟨st[k], List.getElem?_eq_getElem hk, h.2.1 k _ (List.getElem?_eq_getElem hk)⟩
theorem StAt.put (h : StAt W g st) (k : Nat) (v : Int) : StAt (W.setCell ⟨g, k, none⟩ (.int .i64 v)) g (st.set k v) := by
  refine ⟨by simpa [World.setCell] using h.1, fun i x hx => ?_, fun i hi => ?_⟩
  · by_cases hik : i = k
    · subst hik
      have hi := (List.getElem?_eq_some_iff.1 hx).1
      rw [List.length_set] at hi
      rw [List.getElem?_set_self (by omega)] at hx
      injection hx with hx
      subst hx
      obtain ⟨y, _, hy⟩ := h.at_ hi
      exact World.cell?_setCell_same' _ _ _ (by rw [hy]; rfl)
    · rw [List.getElem?_set_ne (by omega)] at hx
      rw [World.cell?_setCell_other W _ _ _ (by simp only [ne_eq, Addr.mk.injEq]; omega)]
      exact h.2.1 i x hx
  · rw [World.frozen?_setCell]
    exact h.2.2 i (by simpa using hi)
end
theorem StAt.of_own {W : World} {lo g n cap : Nat} {e : TypeId} {st : List Int} (h : W.ownsRow lo e 1 (.slice (some ⟨g, 0, none⟩) n cap) n (st.flatMap encInt)) (hn : st.length = n) : StAt W g st := by
  refine ⟨(h.lt g rfl).2, fun i x hx => ?_, fun i _ => h.frozenAt i⟩
  have hi := (List.getElem?_eq_some_iff.1 hx).1
  have := h.cellAt i (by omega)
  rw [this]
  have := flatMap_get encInt_len st i x hx 0 (.int .i64 x) rfl
  simpa using this
def st0 : List Int := [-1, -1, -1, -1, -1]
theorem intInfo : (Mo.prog.info? 3).map (fun i => (i.zero, i.size, i.bytes)) = some (some (.int .i64 0), 1, 8) := by kernel_rfl
def NewState (w : World) (e : Ending) (w' : World) : Prop :=
  e = .returned (.pointer (some ⟨w.heap.size, 0, none⟩)) ∧ StAt w' w.heap.size st0 ∧ Below w.heap.size w w'
set_option maxHeartbeats 1000000 in
theorem newState_any (w : World) : Calls Mo.prog 100 #[] w (NewState w) := by
  go_enter Mo.func100, Tryz.ntmps100
  go_wp2
  go_rounds 6
  all_goals
    go_ret
    refine ⟨rfl, ⟨by simp, fun i x hx => ?_, fun i _ => ?_⟩, by go_grown⟩
    · match i, hx with
      | 0, hx => simp [st0] at hx; subst hx; simp
      | 1, hx => simp [st0] at hx; subst hx; simp
      | 2, hx => simp [st0] at hx; subst hx; simp
      | 3, hx => simp [st0] at hx; subst hx; simp
      | 4, hx => simp [st0] at hx; subst hx; simp
      | k + 5, hx => simp [st0] at hx
    · simp
set_option maxHeartbeats 1000000 in
theorem put_any (g : Nat) (st : List Int) (k : Nat) (v : Int) (w : World) (h : StAt w g st) (hl : st.length = 5) (hk : k < 5) :
    Calls Mo.prog 101 #[.pointer (some ⟨g, 0, none⟩), .agg #[.int .i64 (k : Int), .int .i64 v]] w fun e w' => e = .returned (.tuple #[]) ∧ StAt w' g (st.set k v) ∧ w.grownBy w' (some g) := by
  have HS := Lib.hid h
  obtain ⟨x, _, hc⟩ := h.at_ (show k < st.length by omega)
  have hf := h.2.2 k (by omega)
  have hg := h.1
  clear h
  have k0 : (0 : Int) ≤ (k : Int) := by omega
  have k5 : (k : Int) < 5 := by omega
  have hgs : g ≠ w.heap.size := by omega
  have b0 : (w.alloc (.cells #[.int .i64 (k : Int), .int .i64 v] 28)).cell? ⟨w.heap.size, 0, none⟩ = some (.int .i64 (k : Int)) := World.cell?_alloc_at _ _ _ _ rfl
  have b1 : (w.alloc (.cells #[.int .i64 (k : Int), .int .i64 v] 28)).cell? ⟨w.heap.size, 1, none⟩ = some (.int .i64 v) := World.cell?_alloc_at _ _ _ _ rfl
  have hc' : (w.alloc (.cells #[.int .i64 (k : Int), .int .i64 v] 28)).cell? ⟨g, k, none⟩ = some (.int .i64 x) := (World.cell?_alloc_past _ _ _ hg).trans hc
  have hf' : (w.alloc (.cells #[.int .i64 (k : Int), .int .i64 v] 28)).frozen? ⟨g, k, none⟩ = false := (World.frozen?_alloc_past _ _ _ hg).trans hf
  go_enter Mo.func101, Tryz.ntmps101
  go_wp2_with fail
  go_region
  all_goals go_end0
  all_goals refine ⟨rfl, (HS.out.put k v).alloc _, ⟨rfl, rfl, rfl, by simp [World.setCell], fun i hi hn => ?_⟩⟩
  all_goals
    refine (Below.heap_alloc (w.setCell ⟨g, k, none⟩ (.int .i64 v)) _ i (by simpa [World.setCell] using hi)).trans (Below.heap_setCell _ _ _ _ (fun e => hn (by rw [e])))
end Go.Proofs.YtemgilofjbnoaaaGreatDoor
namespace Go.Proofs.YtemgilofjbnoaaaGreatDoor
open Go.RowKit
def upStep (st : List Int) (u : Upd) : List Int := st.set u.key.toNat u.value
def stAt (l : List Upd) (k : Nat) : List Int := (l.take k).foldl upStep st0
def stateOf (l : List Upd) (many : Int) : List Int := if logOk l && inB many 0 l.length then stAt l many.toNat else []
theorem stAt_succ {l : List Upd} {k kk : Nat} {u : Upd} (hu : l[k]? = some u) (hk : u.key = (kk : Int)) : stAt l (k + 1) = (stAt l k).set kk u.value := by
  have hlt := (List.getElem?_eq_some_iff.1 hu).1
  have e : l[k] = u := by rw [List.getElem?_eq_getElem hlt] at hu; injection hu
  unfold stAt
  rw [List.take_succ_eq_append_getElem hlt, List.foldl_append, e]
  simp [upStep, hk]
theorem fold_up_len (l : List Upd) : ∀ st : List Int, (l.foldl upStep st).length = st.length := by
  induction l with
  | nil => intro st; rfl
  | cons s l ih => intro st; rw [List.foldl_cons, ih]; simp [upStep]
theorem stAt_len (l : List Upd) (k : Nat) : (stAt l k).length = 5 := by unfold stAt; rw [fold_up_len]; rfl
theorem logOk_at {l : List Upd} {k : Nat} {u : Upd} (h : logOk l = true) (hu : l[k]? = some u) : updOk u.key u.value = true := by
  unfold logOk at h
  simp only [Bool.and_eq_true, List.all_eq_true] at h
  exact h.2 u (List.mem_of_getElem? hu)
theorem logOk_key {l : List Upd} {k : Nat} {u : Upd} (h : logOk l = true) (hu : l[k]? = some u) : ∃ kk : Nat, u.key = (kk : Int) ∧ kk < 5 := by
  have ho := logOk_at h hu
  simp only [updOk, Bool.and_eq_true, inB, decide_eq_true_eq] at ho
  exact ⟨u.key.toNat, by omega, by omega⟩
theorem stAt_src {w : World} {g : Nat} {st : List Int} (h : StAt w g st) : Src w 1 (some ⟨g, 0, none⟩) st.length (st.flatMap encInt) := by
  refine ⟨by rw [length_flatMap encInt_len], (fun e => by cases e), fun ad e j u hu => ?_⟩
  injection e with e; subst e
  have hj := (List.getElem?_eq_some_iff.1 hu).1
  rw [length_flatMap encInt_len, Nat.mul_one] at hj
  have hx := List.getElem?_eq_getElem hj
  have h2 := flatMap_get encInt_len st j _ hx 0 (.int .i64 st[j]) rfl
  rw [Nat.mul_one, Nat.add_zero, hu] at h2
  injection h2 with h2
  have ea : (⟨g, 0, none⟩ : Addr).add j = ⟨g, j, none⟩ := by unfold Addr.add; split <;> simp_all
  rw [ea, h2]
  exact h.2.1 j _ hx
def StateLeft (w : World) (st : List Int) (e : Ending) (w' : World) : Prop :=
  ∃ g c, e = .returned (.slice (some ⟨g, 0, none⟩) st.length c) ∧ st.length ≤ c ∧ c ≤ maxLen ∧ w.heap.size ≤ g ∧ StAt w' g st ∧ Below w.heap.size w w'
theorem sizeInt : (Mo.prog.info? 3).map (·.size) = some 1 := by kernel_rfl
set_option maxHeartbeats 1000000 in
theorem list_any (g : Nat) (st : List Int) (w : World) (h : StAt w g st) (hl : st.length = 5) :
    Calls Mo.prog 102 #[.pointer (some ⟨g, 0, none⟩)] w (StateLeft w st) := by
  have H := Lib.hid h
  have HL := Lib.hid hl
  clear h hl
  have hmk : ∀ W : World, (Instr.makeSlice 74 (.int .i64 5) (.int .i64 5)).run Mo.prog W = .ok (.slice (some ⟨W.heap.size, 0, none⟩) 5 5) (W.alloc (.cells #[.int .i64 0, .int .i64 0, .int .i64 0, .int .i64 0, .int .i64 0] 3)) := fun _ => by kernel_rfl
  have hb0 : Below w.heap.size w (w.alloc (.cells #[.int .i64 0, .int .i64 0, .int .i64 0, .int .i64 0, .int .i64 0] 3)) := (Below.refl _ _).alloc (Nat.le_refl _) _
  have S := Lib.hid (stAt_src (H.out.below hb0))
  rw [HL.out] at S
  have HB0 := Lib.hid hb0
  clear hb0
  go_enter Mo.func102, Tryz.ntmps102
  go_wp2_with (with_reducible refine wpList_copy_rows rfl _ _ 74 74 rfl 3 Mo.underlying74 1 sizeInt w.heap.size 5 5 5 (some ⟨g, 0, none⟩) rfl rfl _ (heap_alloc_new _ _) rfl (st.flatMap encInt) S.out (one_enc encInt_one _) (by unfold maxLen; omega) w.heap.size w.heap.size w HB0.out (Nat.le_refl _) (Nat.le_refl _) ?_; intro w2 hown2 hb2; have B2 := Lib.hid hb2; clear hb2)
  go_ret
  exact ⟨w.heap.size, 5, by rw [HL.out]; rfl, by rw [HL.out]; exact Nat.le_refl _, by unfold maxLen; omega, Nat.le_refl _, StAt.of_own hown2.out HL.out, B2.out⟩
theorem stateLeft_nil {w w1 : World} {t : TypeId} (hb : Below w.heap.size w w1) : StateLeft w [] (.returned (.slice (some ⟨w1.heap.size, 0, none⟩) 0 0)) (w1.alloc (.cells #[] t)) :=
  ⟨w1.heap.size, 0, rfl, Nat.le_refl _, Nat.zero_le _, hb.size, ⟨by simp, (fun i x h => by simp at h), fun i h => absurd h (by simp)⟩, hb.alloc hb.size _⟩
set_option maxHeartbeats 2000000 in
theorem stateAt_any (A : Option Addr) (n c : Nat) (l : List Upd) (many : Int) (w : World) (h : Flat Upd.enc 2 w 0 w.heap.size A n c l) (hn : n ≤ 1048576) :
    Calls Mo.prog 79 #[.slice A n c, .int .i64 many] w (StateLeft w (stateOf l many)) := by
  have HL := Lib.hid h.len
  have H := Lib.hid h
  have hnc := h.2.1
  have hcm := h.2.2.1
  clear h
  unfold maxLen at hcm
  cases hok : logOk l
  · have e0 : stateOf l many = [] := by simp [stateOf, hok]
    rw [e0]
    clear e0
    go_enter Mo.func79, Tryz.ntmps79
    go_wp2_with (go_at_call 90; refine (logValid_any _ _ _ l _ H.out hn).mono ?_; rintro e w1 ⟨rfl, hb1⟩; have B1 := Lib.hid hb1; clear hb1)
    go_ret
    exact stateLeft_nil B1.out
  by_cases h0 : 0 ≤ many
  case neg =>
    have e0 : stateOf l many = [] := by simp [stateOf, inB]; omega
    rw [e0]
    clear e0
    go_enter Mo.func79, Tryz.ntmps79
    go_wp2_with (go_at_call 90; refine (logValid_any _ _ _ l _ H.out hn).mono ?_; rintro e w1 ⟨rfl, hb1⟩; have B1 := Lib.hid hb1; clear hb1)
    go_ret
    exact stateLeft_nil B1.out
  by_cases h1 : many ≤ n
  case neg =>
    have e0 : stateOf l many = [] := by have := HL.out; simp [stateOf, inB]; omega
    rw [e0]
    clear e0
    go_enter Mo.func79, Tryz.ntmps79
    go_wp2_with (go_at_call 90; refine (logValid_any _ _ _ l _ H.out hn).mono ?_; rintro e w1 ⟨rfl, hb1⟩; have B1 := Lib.hid hb1; clear hb1)
    go_ret
    exact stateLeft_nil B1.out
  obtain ⟨k, rfl⟩ := Int.eq_ofNat_of_zero_le h0
  have e0 : stateOf l k = stAt l k := by have := HL.out; simp [stateOf, hok, inB]; omega
  have E0 := Lib.hid e0
  have HK := Lib.hid hok
  clear e0
  have hkn : k ≤ n := by omega
  go_enter Mo.func79, Tryz.ntmps79
  go_wp2_with fail
  refine (logValid_any _ _ _ l _ H.out hn).mono ?_
  rintro e w1 ⟨rfl, hb1⟩
  rw [HK.out]
  clear hok
  have H1 := Lib.hid (H.out.on hb1)
  have B1 := Lib.hid hb1
  clear hb1
  go_wp2_with fail
  refine (newState_any _).mono ?_
  rintro e w2 ⟨rfl, hs2, hb2⟩
  have S2 := Lib.hid hs2
  have H2 := Lib.hid ((H1.out.take_ hkn).on hb2)
  have B2 := Lib.hid (B1.out.trans (hb2.mono B1.out.size))
  have hg1 : w.heap.size ≤ w1.heap.size := B1.out.size
  have hg2 := hs2.1
  clear hs2 hb2
  go_wp2_with fail
  go_loopw [27] (fun i wr => ∃ j : Nat, j ≤ k ∧ i = .int .i64 j ∧ StAt wr w1.heap.size (stAt l j) ∧ Below w.heap.size w wr ∧ wr.heap.size ≥ w2.heap.size ∧ Hid (Flat Upd.enc 2 wr 0 w.heap.size A k c (l.take k)))
    (fun i _ => k - (intOf i).toNat)
  case atStart => exact ⟨0, Nat.zero_le _, rfl, S2.out, B2.out, Nat.le_refl _, (H.out.take_ hkn).below B2.out (Nat.le_refl _)⟩
  case round =>
    obtain ⟨j, hj, rfl, hst, hB, hsz, HW⟩ := hrel
    have HS := Lib.hid hst
    have HB := Lib.hid hB
    clear hst hB
    by_cases hlt : j < k
    · obtain ⟨b, off, u, rfl, _, hbB, hu, c0, c1⟩ := HW.out.upd hlt
      have hu' : l[j]? = some u := by rw [List.getElem?_take, if_pos hlt] at hu; exact hu
      obtain ⟨kk, hkk, hkk5⟩ := logOk_key HK.out hu'
      have Hu := Lib.hid hu'
      have HKK := Lib.hid hkk
      rw [hkk] at c0
      clear hu hu' hkk
      have S3 := Lib.hid (HS.out.alloc (.cells #[.int .i64 (kk : Int), .int .i64 u.value] 28))
      go_wp2_with (go_at_call 101; refine (put_any w1.heap.size (stAt l j) kk u.value _ S3.out (stAt_len _ _) hkk5).mono ?_; rintro e w3 ⟨rfl, hs3, hg3⟩; have S4 := Lib.hid hs3; have G3 := Lib.hid hg3; clear hs3 hg3)
      go_roundw
      case rel =>
        have hb3 : Below w.heap.size w w3 := (HB.out.alloc (by omega) _).grown G3.out (by simp; omega) (fun g e => by cases e; exact hg1)
        refine ⟨j + 1, by omega, by go_num, ?_, hb3, by have := G3.out.size; simp at this; omega, (H.out.take_ hkn).below hb3 (Nat.le_refl _)⟩
        rw [stAt_succ Hu.out HKK.out]; exact S4.out
      case measure => simp [intOf]; omega
    · obtain rfl : j = k := by omega
      have hlen := stAt_len l j
      go_wp2_with (go_at_call 102; refine (list_any w1.heap.size (stAt l j) _ HS.out (stAt_len _ _)).mono ?_; rintro e w3 ⟨g, cc, rfl, hl1, hl2, hl3, hs3, hb3⟩; have S4 := Lib.hid hs3; have B4 := Lib.hid (HB.out.trans (hb3.mono (show w.heap.size ≤ wr.heap.size by omega))); clear hs3 hb3)
      go_ret
      rw [E0.out]
      exact ⟨g, cc, by rw [stAt_len]; rfl, hl1, hl2, by omega, S4.out, B4.out⟩
set_option maxHeartbeats 1000000 in
theorem stateOf_any (A : Option Addr) (n c : Nat) (l : List Upd) (w : World) (h : Flat Upd.enc 2 w 0 w.heap.size A n c l) (hn : n ≤ 1048576) :
    Calls Mo.prog 48 #[.slice A n c] w (StateLeft w (stateOf l n)) := by
  go_enter Mo.func48, Tryz.ntmps48
  go_wp2_with (go_at_call 79; refine (stateAt_any _ _ _ l _ _ h hn).mono ?_; rintro e w3 ⟨g, cc, rfl, hl1, hl2, hl3, hs3, hb3⟩; have S4 := Lib.hid hs3; have B4 := Lib.hid hb3; clear hs3 hb3)
  go_ret
  exact ⟨g, cc, rfl, hl1, hl2, hl3, S4.out, B4.out⟩
end Go.Proofs.YtemgilofjbnoaaaGreatDoor
namespace Go.Proofs.YtemgilofjbnoaaaGreatDoor
open Go.RowKit
def keyIn (l : List Upd) (key : Int) : Bool := l.any fun u => decide (u.key = key)
def keyWaits (x : Nod) (key : Int) : Bool := keyIn (x.log.drop x.done.toNat) key
def valOf (l : List Upd) (key : Int) (many : Nat) : Int := (stAt l many).getD key.toNat 0
def nodeValueAt (x : Nod) (key many : Int) : Int × Bool :=
  if nodeOk x && inB key 0 4 && inB many 0 x.log.length then (if valOf x.log key many.toNat < 0 then (0, false) else (valOf x.log key many.toNat, true)) else (0, false)
def nodeRead (x : Nod) (key : Int) : Int × Int :=
  if nodeOk x && inB key 0 4 then (if keyWaits x key then (0, 1) else if valOf x.log key x.done.toNat < 0 then (0, 2) else (valOf x.log key x.done.toNat, 0)) else (0, 3)
theorem nodeOk_done {x : Nod} (h : nodeOk x = true) : ∃ k : Nat, x.done = (k : Int) ∧ k ≤ x.log.length ∧ logOk x.log = true := by
  simp only [nodeOk, Bool.and_eq_true, inB, decide_eq_true_eq] at h
  exact ⟨x.done.toNat, by omega, by omega, h.1.2⟩
end Go.Proofs.YtemgilofjbnoaaaGreatDoor
namespace Go.Proofs.YtemgilofjbnoaaaGreatDoor
open Go.RowKit
theorem stAt_at {l : List Upd} {k key : Nat} (h : key < 5) : (stAt l k)[key]? = some (valOf l key k) := by
  have hl := stAt_len l k
  have e := List.getElem?_eq_getElem (l := stAt l k) (i := key) (by omega)
  rw [e]
  simp [valOf, List.getD, e]
theorem nodeOk_log {x : Nod} (h : nodeOk x = true) : logOk x.log = true := by obtain ⟨_, _, _, h⟩ := nodeOk_done h; exact h
end Go.Proofs.YtemgilofjbnoaaaGreatDoor
namespace Go.Proofs.YtemgilofjbnoaaaGreatDoor
open Go.RowKit
end Go.Proofs.YtemgilofjbnoaaaGreatDoor
namespace Go.Proofs.YtemgilofjbnoaaaGreatDoor
open Go.RowKit
theorem Flat.empty {α : Type} (enc : α → List Value) (sz : Nat) (w : World) (lo hi : Nat) (A : Option Addr) (c : Nat) (hc : c ≤ maxLen) : Flat enc sz w lo hi A 0 c [] := ⟨rfl, Nat.zero_le _, hc, fun h => absurd h (by omega)⟩
def pending (x : Nod) : List Upd := if nodeOk x then x.log.drop x.done.toNat else []
def LogLeft (w : World) (l : List Upd) (e : Ending) (w' : World) : Prop :=
  ∃ A m c, e = .returned (.slice A m c) ∧ l.length = m ∧ w'.ownsRow w.heap.size 28 2 (.slice A m c) m (l.flatMap Upd.enc) ∧ Below w.heap.size w w'
def KeysLeft (w : World) (l : List Upd) (key : Int) (e : Ending) (w' : World) : Prop :=
  ∃ A m c, e = .returned (.slice A m c) ∧ (logOk l = true → (m = 0 ↔ keyIn l key = false)) ∧ m ≤ 12 ∧ Below w.heap.size w w'
theorem three_cells (w : World) (g : Nat) {a b c : Value} (h0 : w.cell? ⟨g, 0, none⟩ = some a) (h1 : w.cell? ⟨g, 1, none⟩ = some b) (h2 : w.cell? ⟨g, 2, none⟩ = some c) (u v x : Value) :
    (((w.setCell ⟨g, 0, none⟩ u).setCell ⟨g, 1, none⟩ v).setCell ⟨g, 2, none⟩ x).cell? ⟨g, 0, none⟩ = some u ∧ (((w.setCell ⟨g, 0, none⟩ u).setCell ⟨g, 1, none⟩ v).setCell ⟨g, 2, none⟩ x).cell? ⟨g, 1, none⟩ = some v ∧
    (((w.setCell ⟨g, 0, none⟩ u).setCell ⟨g, 1, none⟩ v).setCell ⟨g, 2, none⟩ x).cell? ⟨g, 2, none⟩ = some x := by
  obtain ⟨e0, e1, e2⟩ := three_stores w g h0 h1 h2
  refine ⟨?_, ?_, e2 u v x⟩
  · rw [World.cell?_setCell_other _ _ _ _ (by simp), World.cell?_setCell_other _ _ _ _ (by simp)]; exact e0 u
  · rw [World.cell?_setCell_other _ _ _ _ (by simp)]; exact e1 u v
theorem below_box' {w w1 : World} {o p : Obj} (hb : Below ((w.alloc o).alloc p).heap.size ((w.alloc o).alloc p) w1) : Below (w.alloc o).heap.size (w.alloc o) w1 := below_box hb
def NodeTold (w : World) (x : Nod) (k : Nat) (e : Ending) (w' : World) : Prop :=
  ∃ A n c, e = .returned (.tuple #[.agg #[.int .i64 x.id, .slice A n c, .int .i64 k], .bool true]) ∧ x.log.length = n ∧ w'.ownsRow w.heap.size 28 2 (.slice A n c) n (x.log.flatMap Upd.enc) ∧ Below w.heap.size w w'
end Go.Proofs.YtemgilofjbnoaaaGreatDoor
namespace Go.Proofs.YtemgilofjbnoaaaGreatDoor
open Go.RowKit
theorem made0 (w : World) (N lo : Nat) (t : TypeId) (sz : Nat) (hN : N = w.heap.size) (hlo : lo ≤ N) : (w.alloc (.cells #[] t)).ownsRow lo t sz (.slice (some ⟨N, 0, none⟩) 0 0) 0 [] := by
  subst hN
  exact (World.ownsRow_made (base := w.heap.size) (e := t) (size := sz) w #[] 0 (Nat.le_refl _) (Nat.zero_le _) (by simp)).mono hlo
set_option maxRecDepth 100000 in
set_option maxHeartbeats 2000000 in
theorem l3Copy_any (x : Nod) (A : Option Addr) (n c : Nat) (w : World) (h : Flat Upd.enc 2 w 0 w.heap.size A n c x.log) (hn : n ≤ 1048576) :
    Calls Mo.prog 75 #[.agg #[.int .i64 x.id, .slice A n c, .int .i64 x.done]] w (NodeMade w x) := by
  obtain ⟨i0, hi, hz0, hz1, hz2⟩ := info_parts infoUpd
  have HL := Lib.hid h.len
  obtain ⟨W, hW⟩ : ∃ W, W = (w.alloc (.cells #[.int .i64 x.id, .slice A n c, .int .i64 x.done] 78)).alloc (.cells #[.int .i64 0, .slice none 0 0, .int .i64 0] 78) := ⟨_, rfl⟩
  have hWs : W.heap.size = w.heap.size + 1 + 1 := by rw [hW]; simp
  have B0 : Below w.heap.size w W := by rw [hW]; exact ((Below.refl _ _).alloc (Nat.le_refl _) _).alloc (by simp) _
  have K0 : Blk W w.heap.size #[.int .i64 x.id, .slice A n c, .int .i64 x.done] 78 := by rw [hW]; exact (Blk.new w _ _).alloc _
  have K1 : Blk W (w.heap.size + 1) #[.int .i64 0, .slice none 0 0, .int .i64 0] 78 := by
    rw [hW]; have := Blk.new (w.alloc (.cells #[.int .i64 x.id, .slice A n c, .int .i64 x.done] 78)) #[.int .i64 0, .slice none 0 0, .int .i64 0] 78
    simpa using this
  have O0 := Lib.hid (made0 W (w.heap.size + 1 + 1) w.heap.size 28 2 hWs.symm (by omega))
  have S0 := Lib.hid (flat_src Upd.len (by omega) ((h.on B0).box (.cells #[] 28)))
  have L0 := Lib.hid (K0.alloc (.cells #[] 28))
  have L1 := Lib.hid (K1.alloc (.cells #[] 28))
  have HB := Lib.hid (B0.alloc (by rw [hWs]; omega) (.cells #[] 28))
  have HWs := Lib.hid hWs
  have q1 := L0.out.cell (i := 1) (v := .slice A n c) rfl
  clear h B0 K0 K1 hWs
  have hsz : W.heap.size = w.heap.size + 1 + 1 := HWs.out
  clear hsz
  subst hW
  go_enter Mo.func75, Tryz.ntmps75
  go_wp2_with (at_builtin; go_loud (refine wpList_append_src _ rfl (.tmp 3) (.tmp 5) 76 rfl w.heap.size 28 i0 _ 2 16 Mo.underlying76 hi hz0 hz1 hz2 rfl (by omega) (.slice (some ⟨w.heap.size + 1 + 1, 0, none⟩) 0 0) 0 [] rfl O0.out A n c _ rfl S0.out (one_enc Upd.one _) (by unfold maxLen; omega) (by omega) (by simp only [World.size_alloc]; omega) ?_; intro v3 w3 hown3 hg3; rw [Nat.zero_add, List.nil_append] at hown3; obtain ⟨A3, c3, rfl, _⟩ := own_flat Upd.len hown3 HL.out; have O3 := Lib.hid hown3; have G3 := Lib.hid hg3; have M0 := Lib.hid (L0.out.grown hg3 (by intro e; simp [Value.ownBlock] at e; try omega)); have M1 := Lib.hid (L1.out.grown hg3 (by intro e; simp [Value.ownBlock] at e; try omega)); have m0 := M0.out.cell (i := 0) (v := .int .i64 x.id) rfl; have m1 := M0.out.cell (i := 1) (v := .slice A n c) rfl; have m2 := M0.out.cell (i := 2) (v := .int .i64 x.done) rfl; have p0 := M1.out.cell (i := 0) (v := .int .i64 0) rfl; have p1 := M1.out.cell (i := 1) (v := .slice none 0 0) rfl; have p2 := M1.out.cell (i := 2) (v := .int .i64 0) rfl; have f0 := M0.out.free 1; have f1 := M1.out.free 0; have f2 := M1.out.free 1; have f3 := M1.out.free 2; clear hown3 hg3))
  obtain ⟨W, hW⟩ : ∃ W, W = w3.setCell ⟨w.heap.size, 1, none⟩ (.slice A3 n c3) := ⟨_, rfl⟩
  have N1 : Blk W (w.heap.size + 1) #[.int .i64 0, .slice none 0 0, .int .i64 0] 78 := by rw [hW]; exact M1.out.far (a := ⟨w.heap.size, 1, none⟩) (by show w.heap.size + 1 ≠ w.heap.size; omega) _
  obtain ⟨e0, e1, e2⟩ := three_cells W (w.heap.size + 1) (N1.cell (i := 0) rfl) (N1.cell (i := 1) rfl) (N1.cell (i := 2) rfl) (.int .i64 x.id) (.slice A3 n c3) (.int .i64 x.done)
  rw [← hW]
  refine bodyPost_ret (v := .agg #[.int .i64 x.id, .slice A3 n c3, .int .i64 x.done]) (by simp [results, Tryz.results75, go_sem, e0, e1, e2]) rfl ⟨A3, n, c3, rfl, HL.out, ?_, ?_⟩
  · refine own_keep O3.out (fun g hg => ?_)
    obtain ⟨ds, hd⟩ := own_blk O3.out hg
    have h0 : g ≠ w.heap.size := by rintro rfl; exact absurd (blk_type hd M0.out) (by decide)
    have h1 : g ≠ w.heap.size + 1 := by rintro rfl; exact absurd (blk_type hd M1.out) (by decide)
    rw [Below.heap_setCell _ _ _ _ h1, Below.heap_setCell _ _ _ _ h1, Below.heap_setCell _ _ _ _ h1, hW, Below.heap_setCell _ _ _ _ h0]
  · have hb : Below w.heap.size w w3 := HB.out.grown G3.out (by simp only [World.size_alloc]; omega) (fun k e => by simp [Value.ownBlock] at e; omega)
    have hr : w.heap.size ≤ w.heap.size + 1 := by omega
    rw [hW]
    exact (((hb.setCell (p := ⟨w.heap.size, 1, none⟩) (Nat.le_refl _) _).setCell (p := ⟨w.heap.size + 1, 0, none⟩) hr _).setCell (p := ⟨w.heap.size + 1, 1, none⟩) hr _).setCell (p := ⟨w.heap.size + 1, 2, none⟩) hr _
theorem src_row (w : World) (cs : Array Value) (t : TypeId) (sz N : Nat) (hN : N = w.heap.size) (hs : cs.size = sz) : Src (w.alloc (.cells cs t)) sz (some ⟨N, 0, none⟩) 1 cs.toList := by
  subst hN
  refine ⟨by rw [Array.length_toList, hs]; omega, (fun e => by cases e), fun ad e j u hu => ?_⟩
  injection e with e; subst e
  exact new_cells w cs t _ rfl j u hu
set_option maxRecDepth 100000 in
set_option maxHeartbeats 8000000 in
theorem l4Copy_any (view : Int) (A : Option Addr) (n c : Nat) (l : List Nod) (w : World) (h : Nods w 0 w.heap.size A n c l) (hn : n ≤ 1048576) (hlog : ∀ x ∈ l, x.log.length ≤ 1048576) :
    Calls Mo.prog 43 #[.agg #[.int .i64 view, .slice A n c]] w (ChainLeft w view l) := by
  obtain ⟨j0, hj, hy0, hy1, hy2⟩ := info_parts infoNode
  have HL := Lib.hid h.len
  have HG := Lib.hid hlog
  have H := Lib.hid h
  clear h hlog
  obtain ⟨L, hL⟩ : ∃ L, L = [(w.heap.size, #[Value.int .i64 view, Value.slice A n c], 25), (w.heap.size + 1, #[Value.int .i64 0, Value.slice none 0 0], 25)] := ⟨_, rfl⟩
  have hC : CB w (((w.alloc (.cells #[.int .i64 view, .slice A n c] 25)).alloc (.cells #[.int .i64 0, .slice none 0 0] 25)).alloc (.cells #[.int .i64 view, .slice none 0 0] 25)) (w.heap.size + 1 + 1) view (.slice none 0 0) [] (w.heap.size + 1 + 1 + 1) L := by
    have k0 := (Blk.new w #[.int .i64 view, .slice A n c] 25).alloc (.cells #[.int .i64 0, .slice none 0 0] 25)
    have k1 := Blk.new (w.alloc (.cells #[.int .i64 view, .slice A n c] 25)) #[.int .i64 0, .slice none 0 0] 25
    simp only [World.size_alloc] at k1
    have := CB.new (w0 := w) (L := L) (((Below.refl w.heap.size w).alloc (Nat.le_refl _) (.cells #[.int .i64 view, .slice A n c] 25)).alloc (by simp) (.cells #[.int .i64 0, .slice none 0 0] 25)) view (by rw [hL]; exact ((Oth.nil _ _).cons k1 (by simp) (by decide)).cons k0 (by simp; omega) (by decide))
    simpa only [World.size_alloc] using this
  have C0 := Lib.hid hC
  have L0 := Lib.hid (show (w.heap.size, #[Value.int .i64 view, Value.slice A n c], 25) ∈ L by rw [hL]; simp)
  have L1 := Lib.hid (show (w.heap.size + 1, #[Value.int .i64 0, Value.slice none 0 0], 25) ∈ L by rw [hL]; simp)
  clear hC hL
  go_enter Mo.func43, Tryz.ntmps43
  go_wp2_with fail
  go_loopw [4] (fun i wr => ∃ (k : Nat) (nv : Value) (hi : Nat) (lk : List Nod), k ≤ n ∧ i = .int .i64 k ∧ Hid (lk = l.take k) ∧ CB w wr (w.heap.size + 1 + 1) view nv lk hi L) (fun i _ => n - (intOf i).toNat)
  case atStart => exact ⟨0, _, _, _, Nat.zero_le _, rfl, rfl, C0.out⟩
  case round =>
    obtain ⟨k, nv, hi', lk, hk, rfl, HK, hcb⟩ := hrel
    have SC := Lib.hid hcb
    clear hcb C0
    have b1 := (SC.out.blk L0.out).cell (i := 1) (v := .slice A n c) rfl
    have q1 := SC.out.chn.cell (i := 1) (v := nv) rfl
    by_cases hlt : k < n
    · obtain ⟨b, off, x, A', m, d, rfl, _, hbB, hx, c0, c1, c2, hf⟩ := (H.out.below SC.out.bel (Nat.le_refl _)).nod hlt
      have hm : m ≤ 1048576 := by have := hf.len; have := HG.out x (List.mem_of_getElem? hx); omega
      have hxm := Lib.hid hf.len
      have Fx := Lib.hid (show Flat Upd.enc 2 wr.drew 0 wr.drew.heap.size A' m d x.log from (hf.mono (Nat.le_refl _) SC.out.bel.size).below (Below.refl wr.heap.size wr).drew (Nat.le_refl _))
      have E4 := Lib.hid SC.out.raise.drew
      have hws : w.heap.size ≤ wr.heap.size := SC.out.bel.size
      have hss : w.heap.size + 1 + 1 < wr.heap.size := SC.out.size
      have htk := Lib.hid (show lk ++ [x] = l.take (k + 1) by rw [HK.out, List.take_add_one, hx]; rfl)
      have hlk : lk.length ≤ 1048576 := by rw [HK.out, List.length_take]; omega
      clear hx hf
      go_wp2_with fail
      go_region_law ((first
          | (refine step_append_src _ (by rfl) (.tmp 16) (.tmp 23) 23 (by rfl) w.heap.size 78 j0 _ 3 40 Mo.underlying23 hj hy0 hy1 hy2 rfl (by omega) nv lk.length (rs.flatMap RN.enc) (by rfl) (hat.1.alloc _) _ 1 1 _ (by rfl) (src_row _ #[.int .i64 x.id, .slice A6 m6 c6, .int .i64 x.done] 78 3 _ rfl rfl) (RN.one ⟨x.id, A6, m6, c6, x.done⟩) (by unfold maxLen; omega) (by omega) (by simp; omega) ?_; intro v8 w8 hown8 hg8; obtain ⟨g8, c8, rfl, _⟩ := own_form hown8 (by omega)
             have K8 := Z.out.chnAfter hat hg8; have d1 := K8.cell (i := 1) (v := nv) rfl; have f1 := K8.free 1; have Y := Lib.hid (Z.out.appended (x := x) (r := ⟨x.id, A6, m6, c6, x.done⟩) hat ⟨rfl, rfl, hl6.out⟩ (OZ.out.mono hws) hnew6.out hown8 hg8); clear hown8 hg8 K8)
          | (rw [if_pos (by rfl)]; go_simp; go_at_call 75; (with_reducible refine (l3Copy_any x A' m d _ Fx.out hm).mono ?_); rintro e w6 ⟨A6, m6, c6, rfl, hlen6, hown6, hb6⟩
             have Z := Lib.hid (E4.out.below hb6); have hl6 := Lib.hid hlen6; have OZ := Lib.hid hown6; have hnew6 := Lib.hid (fun (g : Nat) (e : (Value.slice A6 m6 c6).ownBlock = some g) => (hown6.lt g e).1); have d1 := Z.out.chn.cell (i := 1) (v := nv) rfl; have hz6 : w.heap.size ≤ w6.heap.size := Z.out.bel.size; have hz7 : w.heap.size + 1 + 1 < w6.heap.size := Z.out.size; obtain ⟨rs, hat⟩ := Z.out.row; clear hown6 hb6 hlen6)))
      all_goals
        go_wp2_with fail
        go_roundw
        case rel => exact ⟨k + 1, _, _, _, by omega, by go_num, htk.out, Y.out⟩
        case measure => simp [intOf]; omega
    · obtain rfl : n = k := by omega
      have hlk : lk = l := by rw [HK.out, List.take_of_length_le (by rw [HL.out]; exact Nat.le_refl _)]
      subst hlk
      obtain ⟨A2, c2, rfl, _⟩ := SC.out.row.nods
      have z0 := (SC.out.blk L1.out).cell (i := 0) (v := .int .i64 0) rfl
      have z1 := (SC.out.blk L1.out).cell (i := 1) (v := .slice none 0 0) rfl
      have y0 := (SC.out.blk L1.out).free 0
      have y1 := (SC.out.blk L1.out).free 1
      have q0 := SC.out.chn.cell (i := 0) (v := .int .i64 view) rfl
      obtain ⟨e0, e1⟩ := two_stores _ (w.heap.size + 1) z0 z1
      have E := Lib.hid (And.intro e0 e1)
      have O := Lib.hid (SC.out.out (u := .int .i64 view) (v := .slice A2 lk.length c2) (SC.out.blk L1.out) (by omega))
      clear e0 e1
      go_wp2
      obtain ⟨e0, e1⟩ := E.out
      exact bodyPost_ret (v := .agg #[.int .i64 view, .slice A2 lk.length c2]) (by simp [results, Tryz.results43, go_sem, e0, e1]) rfl ⟨A2, lk.length, c2, rfl, rfl, O.out.1, O.out.2⟩
end Go.Proofs.YtemgilofjbnoaaaGreatDoor
namespace Go.Proofs.YtemgilofjbnoaaaGreatDoor
open Go.RowKit
theorem Nods.box {w : World} {n c : Nat} {A : Option Addr} {l : List Nod} (h : Nods w 0 w.heap.size A n c l) (o : Obj) : Nods (w.alloc o) 0 (w.alloc o).heap.size A n c l :=
  (h.below ((Below.refl _ _).alloc (Nat.le_refl _) _) (Nat.le_refl _)).mono (Nat.zero_le _) (by simp)
theorem Nods.on {w w' : World} {n c : Nat} {A : Option Addr} {l : List Nod} (h : Nods w 0 w.heap.size A n c l) (hb : Below w.heap.size w w') : Nods w' 0 w'.heap.size A n c l :=
  (h.below hb (Nat.le_refl _)).mono (Nat.zero_le _) hb.size
def noneHas (l : List Nod) (k : Nat) (id : Int) : Prop := ∀ (i : Nat) (y : Nod), i < k → l[i]? = some y → y.id ≠ id
theorem noneHas_succ {l : List Nod} {k : Nat} {x : Nod} {id : Int} (h : noneHas l k id) (hx : l[k]? = some x) (hne : x.id ≠ id) : noneHas l (k + 1) id := by
  intro i y hi hy
  by_cases e : i = k
  · subst e; rw [hx] at hy; injection hy with hy; subst hy; exact hne
  · exact h i y (by omega) hy
theorem noneHas_end {l : List Nod} {n : Nat} {id : Int} (hl : l.length = n) (h : noneHas l n id) : placeOf l id = none :=
  placeOf_none fun i x hx => h i x (by have := (List.getElem?_eq_some_iff.1 hx).1; omega) hx
set_option maxHeartbeats 1000000 in
theorem chainPlace_any (view : Int) (A : Option Addr) (n c : Nat) (l : List Nod) (id : Int) (w : World) (h : Nods w 0 w.heap.size A n c l) (hn : n ≤ 1048576) :
    Calls Mo.prog 63 #[.agg #[.int .i64 view, .slice A n c], .int .i64 id] w fun e w' => e = .returned (.int .i64 (placeI (placeOf l id))) ∧ Below w.heap.size w w' := by
  have HL := Lib.hid h.len
  have H := Lib.hid h
  clear h
  go_enter Mo.func63, Tryz.ntmps63
  go_wp2_with fail
  go_loopw [10] (fun i wr => ∃ k : Nat, k ≤ n ∧ i = .int .i64 k ∧ Hid (noneHas l k id) ∧ Below w.heap.size w wr)
    (fun i _ => n - (intOf i).toNat)
  case atStart => exact ⟨0, Nat.zero_le _, rfl, fun _ _ h => absurd h (by omega), (Below.refl _ _).alloc (Nat.le_refl _) _⟩
  case round =>
    obtain ⟨k, hk, rfl, hall, hB⟩ := hrel
    have HW := Lib.hid (H.out.below hB (Nat.le_refl _))
    have HB := Lib.hid hB
    have hsz := hB.size
    clear hB H
    by_cases hlt : k < n
    · obtain ⟨b, off, x, A', m, d, rfl, _, hbB, hx, c0, c1, c2, hf⟩ := HW.out.nod hlt
      have Hx := Lib.hid hx
      clear hx hf
      by_cases hid : x.id = id
      · have HK := Lib.hid hid
        rw [hid] at c0
        clear hid
        go_wp2
        go_ret
        exact ⟨ret_int (by rw [placeOf_at Hx.out HK.out hall.out]; rfl), HB.out.alloc hsz _⟩
      · have hne : (x.id == id) = false := by simp [hid]
        have HK := Lib.hid hid
        clear hid
        go_wp2
        go_roundw
        case rel => exact ⟨k + 1, by omega, by go_num, noneHas_succ hall.out Hx.out HK.out, HB.out.alloc hsz _⟩
        case measure => simp [intOf]; omega
    · obtain rfl : n = k := by omega
      go_wp2
      go_ret
      exact ⟨ret_int (by rw [noneHas_end HL.out hall.out]; rfl), HB.out⟩
set_option maxHeartbeats 1000000 in
theorem l4Has_any (A : Option Addr) (n c : Nat) (l : List Nod) (id : Int) (w : World) (h : Nods w 0 w.heap.size A n c l) (hn : n ≤ 1048576) :
    Calls Mo.prog 70 #[.slice A n c, .int .i64 id] w fun e w' => e = .returned (.bool (placeOf l id).isSome) ∧ w = w' := by
  have HL := Lib.hid h.len
  have H := Lib.hid h
  clear h
  go_enter Mo.func70, Tryz.ntmps70
  go_wp2_with fail
  go_loop [5] (fun i => ∃ k : Nat, k ≤ n ∧ i = .int .i64 k ∧ Hid (noneHas l k id)) (fun i => n - (intOf i).toNat)
  case atStart => exact ⟨0, Nat.zero_le _, rfl, fun _ _ h => absurd h (by omega)⟩
  case round =>
    obtain ⟨k, hk, rfl, hall⟩ := hrel
    by_cases hlt : k < n
    · obtain ⟨b, off, x, A', m, d, rfl, _, hbB, hx, c0, c1, c2, hf⟩ := H.out.nod hlt
      have Hx := Lib.hid hx
      clear hx hf
      by_cases hid : x.id = id
      · have HK := Lib.hid hid
        rw [hid] at c0
        clear hid
        go_wp2
        go_ret
        exact ⟨ret_bool (by rw [placeOf_at Hx.out HK.out hall.out]; rfl), rfl⟩
      · have hne : (x.id == id) = false := by simp [hid]
        have HK := Lib.hid hid
        clear hid
        go_wp2
        go_round
        case rel => exact ⟨k + 1, by omega, by go_num, noneHas_succ hall.out Hx.out HK.out⟩
        case measure => simp [intOf]; omega
    · obtain rfl : n = k := by omega
      go_wp2
      go_ret
      exact ⟨ret_bool (by rw [noneHas_end HL.out hall.out]; rfl), rfl⟩
set_option maxHeartbeats 2000000 in
theorem l1Common_any (A B : Option Addr) (n c m d : Nat) (a b : List Upd) (w : World) (h : Flat Upd.enc 2 w 0 w.heap.size A n c a) (h' : Flat Upd.enc 2 w 0 w.heap.size B m d b) (hn : n ≤ 1048576) (_ : m ≤ 1048576) :
    Calls Mo.prog 71 #[.slice A n c, .slice B m d] w fun e w' => e = .returned (.int .i64 (common a b : Nat)) ∧ Below w.heap.size w w' := by
  have HL := Lib.hid h.len
  have HL' := Lib.hid h'.len
  have H := Lib.hid h
  have H' := Lib.hid h'
  clear h h'
  go_enter Mo.func71, Tryz.ntmps71
  go_wp2_with fail
  go_loopw [5] (fun i wr => ∃ k : Nat, k ≤ n ∧ k ≤ m ∧ i = .int .i64 k ∧ Hid (common a b = k + common (a.drop k) (b.drop k)) ∧ Below w.heap.size w wr) (fun i _ => n - (intOf i).toNat)
  case atStart => exact ⟨0, Nat.zero_le _, Nat.zero_le _, rfl, by simp [Hid], Below.refl _ _⟩
  case round =>
    obtain ⟨k, hk, hk', rfl, hall, hB⟩ := hrel
    have W1 := Lib.hid (H.out.below hB (Nat.le_refl _))
    have W2 := Lib.hid (H'.out.below hB (Nat.le_refl _))
    have HB := Lib.hid hB
    clear hB
    have k0 : (0 : Int) ≤ (k : Int) := by omega
    by_cases hlt : k < n
    · have kn : (k : Int) < (n : Int) := by omega
      by_cases hlt' : k < m
      · have km : (k : Int) < (m : Int) := by omega
        obtain ⟨b1, off1, x, rfl, _, _, hx, c0, c1⟩ := W1.out.upd hlt
        obtain ⟨b2, off2, y, rfl, _, _, hy, d0, d1⟩ := W2.out.upd hlt'
        have Hx := Lib.hid hx
        have Hy := Lib.hid hy
        clear hx hy
        cases hs : x.same y
        · have HS := Lib.hid hs
          have hpart : (x.key == y.key) = false ∨ ((x.key == y.key) = true ∧ (x.value == y.value) = false) := by
            by_cases e1 : x.key = y.key
            · by_cases e2 : x.value = y.value
              · simp [Upd.same, e1, e2] at hs
              · exact .inr ⟨by simp [e1], by simp [e2]⟩
            · exact .inl (by simp [e1])
          clear hs
          rcases hpart with p1 | ⟨p1, p2⟩
          all_goals
            go_wp2_with fail
            go_quiet (fail)
            go_wp2
            go_ret
            exact ⟨ret_int (by rw [hall.out, common_part Hx.out Hy.out HS.out]; rfl), below_drewN HB.out _⟩
        · have HS := Lib.hid hs
          obtain rfl := Upd.same_iff.1 hs
          clear hs
          go_wp2_with fail
          go_quiet (fail)
          go_wp2
          go_roundw
          case rel => exact ⟨k + 1, by omega, by omega, by go_num, by rw [hall.out, common_step Hx.out Hy.out HS.out]; show _ = _; omega, below_drewN HB.out _⟩
          case measure => simp [intOf]; omega
      · have km : decide ((k : Int) < (m : Int)) = false := by simp; omega
        have kz : common (a.drop k) (b.drop k) = 0 := common_end (.inr (by rw [HL'.out]; omega))
        have KZ := Lib.hid kz
        clear kz
        go_wp2_with fail
        go_quiet (fail)
        go_wp2
        go_ret
        exact ⟨ret_int (by rw [hall.out, KZ.out]; rfl), below_drewN HB.out _⟩
    · have kn : decide ((k : Int) < (n : Int)) = false := by simp; omega
      have kz : common (a.drop k) (b.drop k) = 0 := common_end (.inl (by rw [HL.out]; omega))
      have KZ := Lib.hid kz
      clear kz
      go_wp2_with fail
      go_quiet (fail)
      go_wp2
      go_ret
      exact ⟨ret_int (by rw [hall.out, KZ.out]; rfl), below_drewN HB.out _⟩
end Go.Proofs.YtemgilofjbnoaaaGreatDoor
namespace Go.Proofs.YtemgilofjbnoaaaGreatDoor
open Go.RowKit
set_option maxHeartbeats 2000000 in
theorem logCommon_any (A B : Option Addr) (n c m d : Nat) (a b : List Upd) (w : World) (h : Flat Upd.enc 2 w 0 w.heap.size A n c a) (h' : Flat Upd.enc 2 w 0 w.heap.size B m d b) (hn : n ≤ 1048576) (hm : m ≤ 1048576) :
    Calls Mo.prog 91 #[.slice A n c, .slice B m d] w fun e w' => e = .returned (.int .i64 (logCommon a b)) ∧ Below w.heap.size w w' := by
  have HL := Lib.hid h.len
  have HL' := Lib.hid h'.len
  have H := Lib.hid h
  have H' := Lib.hid h'
  clear h h'
  cases hoa : logOk a
  · have e0 : logCommon a b = -1 := by simp [logCommon, hoa]
    rw [e0]; clear e0
    go_enter Mo.func91, Tryz.ntmps91
    go_wp2_with (go_at_call 90; refine (logValid_any _ _ _ a _ H.out hn).mono ?_; rintro e w1 ⟨rfl, hb1⟩; rw [hoa]; have B1 := Lib.hid hb1; clear hb1)
    go_ret
    exact ⟨rfl, B1.out⟩
  have HA := Lib.hid hoa
  clear hoa
  cases hob : logOk b
  · have e0 : logCommon a b = -1 := by simp [logCommon, hob]
    rw [e0]; clear e0
    go_enter Mo.func91, Tryz.ntmps91
    go_wp2_with fail
    refine (logValid_any _ _ _ a _ H.out hn).mono ?_
    rintro e w1 ⟨rfl, hb1⟩
    rw [HA.out]
    have B1 := Lib.hid hb1
    have F1 := Lib.hid (H'.out.on hb1)
    clear hb1
    go_wp2_with (go_at_call 90; refine (logValid_any _ _ _ b _ F1.out hm).mono ?_; rintro e w2 ⟨rfl, hb2⟩; rw [hob]; have B2 := Lib.hid (B1.out.trans (hb2.mono B1.out.size)); clear hb2)
    go_ret
    exact ⟨rfl, B2.out⟩
  have HO := Lib.hid hob
  have e0 : logCommon a b = (common a b : Nat) := by simp [logCommon, HA.out, hob]
  rw [e0]
  clear e0 hob
  go_enter Mo.func91, Tryz.ntmps91
  go_wp2_with fail
  refine (logValid_any _ _ _ a _ H.out hn).mono ?_
  rintro e w1 ⟨rfl, hb1⟩
  rw [HA.out]
  have B1 := Lib.hid hb1
  have F1 := Lib.hid (H'.out.on hb1)
  clear hb1
  go_wp2_with fail
  refine (logValid_any _ _ _ b _ F1.out hm).mono ?_
  rintro e w2 ⟨rfl, hb2⟩
  rw [HO.out]
  have B2 := Lib.hid (B1.out.trans (hb2.mono B1.out.size))
  clear hb2
  go_wp2_with fail
  go_loopw [5] (fun i wr => ∃ k : Nat, k ≤ n ∧ k ≤ m ∧ i = .int .i64 k ∧ Hid (common a b = k + common (a.drop k) (b.drop k)) ∧ Below w.heap.size w wr) (fun i _ => n - (intOf i).toNat)
  case atStart => exact ⟨0, Nat.zero_le _, Nat.zero_le _, rfl, by simp [Hid], B2.out⟩
  case round =>
    obtain ⟨k, hk, hk', rfl, hall, hB⟩ := hrel
    have W1 := Lib.hid (H.out.below hB (Nat.le_refl _))
    have W2 := Lib.hid (H'.out.below hB (Nat.le_refl _))
    have HB := Lib.hid hB
    clear hB
    have k0 : (0 : Int) ≤ (k : Int) := by omega
    by_cases hlt : k < n
    · have kn : (k : Int) < (n : Int) := by omega
      by_cases hlt' : k < m
      · have km : (k : Int) < (m : Int) := by omega
        obtain ⟨b1, off1, x, rfl, _, _, hx, c0, c1⟩ := W1.out.upd hlt
        obtain ⟨b2, off2, y, rfl, _, _, hy, d0, d1⟩ := W2.out.upd hlt'
        have Hx := Lib.hid hx
        have Hy := Lib.hid hy
        clear hx hy
        cases hs : x.same y
        · have HS := Lib.hid hs
          have hpart : (x.key == y.key) = false ∨ ((x.key == y.key) = true ∧ (x.value == y.value) = false) := by
            by_cases e1 : x.key = y.key
            · by_cases e2 : x.value = y.value
              · simp [Upd.same, e1, e2] at hs
              · exact .inr ⟨by simp [e1], by simp [e2]⟩
            · exact .inl (by simp [e1])
          clear hs
          rcases hpart with p1 | ⟨p1, p2⟩
          all_goals
            go_wp2_with fail
            go_quiet (fail)
            go_wp2
            go_ret
            exact ⟨ret_int (by rw [hall.out, common_part Hx.out Hy.out HS.out]; rfl), below_drewN HB.out _⟩
        · have HS := Lib.hid hs
          obtain rfl := Upd.same_iff.1 hs
          clear hs
          go_wp2_with fail
          go_quiet (fail)
          go_wp2
          go_roundw
          case rel => exact ⟨k + 1, by omega, by omega, by go_num, by rw [hall.out, common_step Hx.out Hy.out HS.out]; show _ = _; omega, below_drewN HB.out _⟩
          case measure => simp [intOf]; omega
      · have km : decide ((k : Int) < (m : Int)) = false := by simp; omega
        have kz : common (a.drop k) (b.drop k) = 0 := common_end (.inr (by rw [HL'.out]; omega))
        have KZ := Lib.hid kz
        clear kz
        go_wp2_with fail
        go_quiet (fail)
        go_wp2
        go_ret
        exact ⟨ret_int (by rw [hall.out, KZ.out]; rfl), below_drewN HB.out _⟩
    · have kn : decide ((k : Int) < (n : Int)) = false := by simp; omega
      have kz : common (a.drop k) (b.drop k) = 0 := common_end (.inl (by rw [HL.out]; omega))
      have KZ := Lib.hid kz
      clear kz
      go_wp2_with fail
      go_quiet (fail)
      go_wp2
      go_ret
      exact ⟨ret_int (by rw [hall.out, KZ.out]; rfl), below_drewN HB.out _⟩
set_option maxHeartbeats 1000000 in
theorem logBegins_any (A B : Option Addr) (n c m d : Nat) (a b : List Upd) (w : World) (h : Flat Upd.enc 2 w 0 w.heap.size A n c a) (h' : Flat Upd.enc 2 w 0 w.heap.size B m d b) (hn : n ≤ 1048576) (hm : m ≤ 1048576) :
    Calls Mo.prog 64 #[.slice A n c, .slice B m d] w fun e w' => e = .returned (.bool (logBegins a b)) ∧ Below w.heap.size w w' := by
  have HL := Lib.hid h.len
  have H := Lib.hid h
  have H' := Lib.hid h'
  clear h h'
  cases hoa : logOk a
  · have e0 : logBegins a b = false := by simp [logBegins, hoa]
    rw [e0]; clear e0
    go_enter Mo.func64, Tryz.ntmps64
    go_wp2_with (go_at_call 90; refine (logValid_any _ _ _ a _ H.out hn).mono ?_; rintro e w1 ⟨rfl, hb1⟩; rw [hoa]; have B1 := Lib.hid hb1; clear hb1)
    go_ret
    exact ⟨rfl, B1.out⟩
  have HA := Lib.hid hoa
  clear hoa
  obtain ⟨v, hv⟩ : ∃ v, logCommon a b = v := ⟨_, rfl⟩
  have e0 : logBegins a b = (v == (n : Int)) := by
    have hl := HL.out
    have hle := (common_le a b).1
    rw [← hv]
    unfold logBegins logCommon
    rw [HA.out]
    cases logOk b
    · simp; try omega
    · rw [Bool.eq_iff_iff]; simp; try omega
  rw [e0]
  have HV := Lib.hid hv
  clear hv e0
  go_enter Mo.func64, Tryz.ntmps64
  go_wp2_with fail
  refine (logValid_any _ _ _ a _ H.out hn).mono ?_
  rintro e w1 ⟨rfl, hb1⟩
  rw [HA.out]
  have B1 := Lib.hid hb1
  have F1 := Lib.hid (H.out.on hb1)
  have G1 := Lib.hid (H'.out.on hb1)
  clear hb1
  go_wp2_with (go_at_call 91; refine (logCommon_any _ _ _ _ _ _ a b _ F1.out G1.out hn hm).mono ?_; rintro e w2 ⟨rfl, hb2⟩; rw [HV.out]; have B2 := Lib.hid (B1.out.trans (hb2.mono B1.out.size)); clear hb2)
  go_ret
  exact ⟨rfl, B2.out⟩
theorem node_field1 (i j : Int) (A : Option Addr) (m d : Nat) (W : World) : (Instr.field 78 (.agg #[.int .i64 i, .slice A m d, .int .i64 j]) 1).run Mo.prog W = .ok (.slice A m d) W := by kernel_rfl
def TailLeft (w : World) (l : List Nod) (n : Nat) (e : Ending) (w' : World) : Prop :=
  ∃ (x : Nod) (A' : Option Addr) (m d : Nat), l[n - 1]? = some x ∧ e = .returned (.agg #[.int .i64 x.id, .slice A' m d, .int .i64 x.done]) ∧ Flat Upd.enc 2 w 0 w.heap.size A' m d x.log ∧ Below w.heap.size w w'
set_option maxHeartbeats 1000000 in
theorem tailOf_any (view : Int) (A : Option Addr) (n c : Nat) (l : List Nod) (w : World) (h : Nods w 0 w.heap.size A n c l) (hn : n ≤ 1048576) (hpos : 0 < n) :
    Calls Mo.prog 49 #[.agg #[.int .i64 view, .slice A n c]] w (TailLeft w l n) := by
  obtain ⟨b, off, x, A', m, d, rfl, _, hbB, hx, c0, c1, c2, hf⟩ := h.nod (show n - 1 < n by omega)
  have Hx := Lib.hid hx
  have HF := Lib.hid hf
  clear hx hf h
  have hne : b ≠ w.heap.size := by omega
  have hne' : b ≠ w.heap.size + 1 := by omega
  have h1 : (1 : Int) ≤ (n : Int) := by omega
  go_enter Mo.func49, Tryz.ntmps49
  go_wp2_with fail
  exact bodyPost_ret (v := .agg #[.int .i64 x.id, .slice A' m d, .int .i64 x.done]) (by simp [results, Tryz.results49, go_sem]) rfl ⟨x, A', m, d, Hx.out, rfl, HF.out, ((Below.refl _ _).alloc (Nat.le_refl _) _).alloc (by simp) _⟩
end Go.Proofs.YtemgilofjbnoaaaGreatDoor
namespace Go.Proofs.YtemgilofjbnoaaaGreatDoor
open Go.RowKit
theorem chainOk_ends {v : Int} {l : List Nod} (h : ¬ (0 ≤ v ∧ v ≤ 999 ∧ 1 ≤ l.length ∧ l.length ≤ 5)) : chainOk v l = false := by
  cases hc : chainOk v l
  · rfl
  · exfalso; apply h
    unfold chainOk inB at hc
    simp only [Bool.and_eq_true, decide_eq_true_eq] at hc
    exact ⟨hc.1.1.1.1.1, hc.1.1.1.1.2, hc.1.1.1.2, hc.1.1.2⟩
theorem chainOk_mk {v : Int} {l : List Nod} (h0 : 0 ≤ v) (h1 : v ≤ 999) (h2 : 1 ≤ l.length) (h3 : l.length ≤ 5) (h : (List.range l.length).all (nodAt l) = true) : chainOk v l = tailOk l := by
  unfold chainOk inB; rw [h]; simp [h0, h1, h2, h3]
theorem tailOk_at {l : List Nod} {x : Nod} {n : Nat} (hl : l.length = n) (hx : l[n - 1]? = some x) : tailOk l = decide (x.done = x.log.length) := by
  unfold tailOk; rw [hl, hx]
theorem mem_len {l : List Nod} {k : Nat} {x : Nod} (h : ∀ x ∈ l, x.log.length ≤ 1048576) (hx : l[k]? = some x) : x.log.length ≤ 1048576 := h x (List.mem_of_getElem? hx)
set_option maxHeartbeats 4000000 in
theorem chainValid_any (view : Int) (A : Option Addr) (n c : Nat) (l : List Nod) (w : World) (h : Nods w 0 w.heap.size A n c l) (hn : n ≤ 1048576) (hlog : ∀ x ∈ l, x.log.length ≤ 1048576) :
    Calls Mo.prog 34 #[.agg #[.int .i64 view, .slice A n c]] w fun e w' => e = .returned (.bool (chainOk view l)) ∧ Below w.heap.size w w' := by
  have HL := Lib.hid h.len
  have HG := Lib.hid hlog
  have H := Lib.hid h
  clear h hlog
  by_cases hin : 0 ≤ view ∧ view ≤ 999 ∧ 1 ≤ n ∧ n ≤ 5
  case neg =>
    rw [chainOk_ends (by rw [HL.out]; exact hin)]
    by_cases h0 : 0 ≤ view
    case neg =>
      clear hin
      go_enter Mo.func34, Tryz.ntmps34
      go_wp2
      go_ret
      exact ⟨rfl, (Below.refl _ _).alloc (Nat.le_refl _) _⟩
    by_cases h1 : view ≤ 999
    case neg =>
      clear hin
      go_enter Mo.func34, Tryz.ntmps34
      go_wp2
      go_ret
      exact ⟨rfl, (Below.refl _ _).alloc (Nat.le_refl _) _⟩
    by_cases h2 : 1 ≤ n
    case neg =>
      clear hin
      obtain rfl : n = 0 := by omega
      go_enter Mo.func34, Tryz.ntmps34
      go_wp2
      go_ret
      exact ⟨rfl, (Below.refl _ _).alloc (Nat.le_refl _) _⟩
    have h3 : ¬ n ≤ 5 := fun h3 => hin ⟨h0, h1, h2, h3⟩
    clear hin
    go_enter Mo.func34, Tryz.ntmps34
    go_wp2
    go_ret
    exact ⟨rfl, (Below.refl _ _).alloc (Nat.le_refl _) _⟩
  obtain ⟨h0, h1, h2, h3⟩ := hin
  have h2' : (1 : Int) ≤ (n : Int) := by omega
  have h3' : (n : Int) ≤ 5 := by omega
  obtain ⟨W0, hW0⟩ : ∃ W0, W0 = w.alloc (.cells #[.int .i64 view, .slice A n c] 25) := ⟨_, rfl⟩
  have K0 := Lib.hid (show Blk W0 w.heap.size #[.int .i64 view, .slice A n c] 25 by rw [hW0]; exact Blk.new _ _ _)
  have B0 := Lib.hid (show Below w.heap.size w W0 by rw [hW0]; exact (Below.refl _ _).alloc (Nat.le_refl _) _)
  have s0 : w.heap.size < W0.heap.size := by rw [hW0]; simp
  have HW0 := Lib.hid hW0
  clear hW0
  go_enter Mo.func34, Tryz.ntmps34
  go_wp2_with fail
  go_loopw [30] (fun i wr => ∃ k : Nat, k ≤ n ∧ i = .int .i64 k ∧ Hid ((List.range k).all (nodAt l) = true) ∧ Below W0.heap.size W0 wr)
    (fun i _ => n - (intOf i).toNat)
  case atStart => exact ⟨0, Nat.zero_le _, rfl, rfl, by rw [HW0.out]; exact Below.refl _ _⟩
  case round =>
    obtain ⟨k, hk, rfl, hall, hB⟩ := hrel
    have HK := Lib.hid (K0.out.below hB)
    have HB := Lib.hid (B0.out.trans (hB.mono (Nat.le_of_lt s0)))
    have HB0 := Lib.hid hB
    have HW := Lib.hid (H.out.on HB.out)
    have hsz : w.heap.size < wr.heap.size := Nat.lt_of_lt_of_le s0 hB.size
    have hsz0 := hB.size
    clear hB
    have b0 := HK.out.cell (i := 0) (v := .int .i64 view) rfl
    have b1 := HK.out.cell (i := 1) (v := .slice A n c) rfl
    by_cases hlt : k < n
    · obtain ⟨b, off, x, A', m, d, rfl, _, hbB, hx, c0, c1, c2, hf⟩ := HW.out.nod hlt
      have hm : m ≤ 1048576 := by have := hf.len; have := mem_len HG.out hx; omega
      have Hx := Lib.hid hx
      have HF := Lib.hid (hf.box (.cells #[.int .i64 x.id, .slice A' m d, .int .i64 x.done] 78))
      have X0 := Lib.hid (Blk.new wr #[.int .i64 x.id, .slice A' m d, .int .i64 x.done] 78)
      have K1 := Lib.hid (HK.out.alloc (.cells #[.int .i64 x.id, .slice A' m d, .int .i64 x.done] 78))
      clear hx hf
      cases hok : nodeOk x
      · go_wp2_with (go_at_call 62; refine (nodeValid_any x _ _ _ _ HF.out hm).mono ?_; rintro e w1 ⟨rfl, hb1⟩; rw [hok]; have B1 := Lib.hid (below_box hb1); clear hb1)
        go_ret
        exact ⟨ret_bool (chainOk_bad (nodAt_node Hx.out hok) (by have := HL.out; omega)).symm, HB.out.trans (B1.out.mono (by omega))⟩
      have HO := Lib.hid hok
      clear hok
      obtain ⟨pl, hpl⟩ : ∃ pl, placeI (placeOf l x.id) = pl := ⟨_, rfl⟩
      by_cases hp : placeOf l x.id = some k
      case neg =>
        have hne : (pl != (k : Int)) = true := by
          rw [← hpl]
          cases he : placeOf l x.id with
          | none => simp [placeI]; try omega
          | some j => rw [he] at hp; simp [placeI]; intro e; exact hp (by rw [show j = k by omega])
        have HP := Lib.hid hp
        have HPL := Lib.hid hpl
        clear hp hpl
        go_wp2_with fail
        refine (nodeValid_any x _ _ _ _ HF.out hm).mono ?_
        rintro e w1 ⟨rfl, hb1⟩
        rw [HO.out]
        have B1 := Lib.hid (below_box hb1)
        have k1 := K1.out.below hb1
        have x1 := X0.out.below hb1
        have q0 := k1.cell (i := 0) (v := .int .i64 view) rfl
        have q1 := k1.cell (i := 1) (v := .slice (some ⟨b, off, none⟩) n c) rfl
        have r0 := x1.cell (i := 0) (v := .int .i64 x.id) rfl
        have F1 := Lib.hid (HW.out.on B1.out)
        clear hb1 k1 x1
        go_wp2_with (go_at_call 63; refine (chainPlace_any _ _ _ _ l _ _ F1.out hn).mono ?_; rintro e w2 ⟨rfl, hb2⟩; rw [HPL.out]; have B2 := Lib.hid (B1.out.trans (hb2.mono B1.out.size)); clear hb2)
        go_ret
        exact ⟨ret_bool (chainOk_bad (nodAt_place Hx.out HP.out) (by have := HL.out; omega)).symm, HB.out.trans (B2.out.mono (by omega))⟩
      have hne : (pl != (k : Int)) = false := by rw [← hpl, hp]; simp [placeI]
      have HP := Lib.hid hp
      have HPL := Lib.hid hpl
      clear hp hpl
      by_cases hk0 : k = 0
      · have hz : ((k : Int) == 0) = true := by simp [hk0]
        have HK0 := Lib.hid hk0
        clear hk0
        go_wp2_with fail
        refine (nodeValid_any x _ _ _ _ HF.out hm).mono ?_
        rintro e w1 ⟨rfl, hb1⟩
        rw [HO.out]
        have B1 := Lib.hid (below_box hb1)
        have k1 := K1.out.below hb1
        have x1 := X0.out.below hb1
        have q0 := k1.cell (i := 0) (v := .int .i64 view) rfl
        have q1 := k1.cell (i := 1) (v := .slice (some ⟨b, off, none⟩) n c) rfl
        have r0 := x1.cell (i := 0) (v := .int .i64 x.id) rfl
        have F1 := Lib.hid (HW.out.on B1.out)
        clear hb1 k1 x1
        go_wp2_with (go_at_call 63; refine (chainPlace_any _ _ _ _ l _ _ F1.out hn).mono ?_; rintro e w2 ⟨rfl, hb2⟩; rw [HPL.out]; have B2 := Lib.hid (B1.out.trans (hb2.mono B1.out.size)); clear hb2)
        go_roundw
        case rel =>
          refine ⟨k + 1, by omega, by go_num, all_range_succ hall.out ?_, HB0.out.trans (B2.out.mono hsz0)⟩
          have e := HK0.out
          have hx0 := Hx.out
          have hp0 := HP.out
          rw [e] at hx0 hp0 ⊢
          rw [nodAt_zero hx0, HO.out, hp0]; simp
        case measure => simp [intOf]; omega
      have hz : ((k : Int) == 0) = false := by simp [hk0]
      obtain ⟨b', off', y, A'', m', d', e', _, _, hy, y0, y1, y2, hfy⟩ := HW.out.nod (show k - 1 < n by omega)
      obtain ⟨rfl, rfl⟩ : b = b' ∧ off = off' := by injection e' with e'; injection e' with e1 e2; exact ⟨e1, e2⟩
      have hm' : m' ≤ 1048576 := by have := hfy.len; have := mem_len HG.out hy; omega
      have Hy := Lib.hid hy
      have HFy := Lib.hid hfy
      have hbr : b < wr.heap.size := by omega
      have hk1 : (1 : Int) ≤ (k : Int) := by omega
      have HK0 := Lib.hid hk0
      clear hk0 hy hfy e'
      obtain ⟨lb, hlb⟩ : ∃ lb, logBegins x.log y.log = lb := ⟨_, rfl⟩
      have HLB := Lib.hid hlb
      clear hlb
      have ahead : nodAt l k = (lb && decide (y.done ≤ x.done)) := by
        have hx0 := Hx.out
        have hy0 := Hy.out
        have hp0 := HP.out
        have hk' := HK0.out
        obtain ⟨j, rfl⟩ : ∃ j, k = j + 1 := ⟨k - 1, by omega⟩
        rw [nodAt_succ hx0 hy0, HO.out, hp0, HLB.out]; simp
      have HA := Lib.hid ahead
      clear ahead
      go_wp2_with fail
      refine (nodeValid_any x _ _ _ _ HF.out hm).mono ?_
      rintro e w1 ⟨rfl, hb1⟩
      rw [HO.out]
      have B1 := Lib.hid (below_box hb1)
      have k1 := K1.out.below hb1
      have x1 := X0.out.below hb1
      have q0 := k1.cell (i := 0) (v := .int .i64 view) rfl
      have q1 := k1.cell (i := 1) (v := .slice (some ⟨b, off, none⟩) n c) rfl
      have r0 := x1.cell (i := 0) (v := .int .i64 x.id) rfl
      have KK1 := Lib.hid k1
      have XX1 := Lib.hid x1
      have F1 := Lib.hid (HW.out.on B1.out)
      have s1 : wr.heap.size < w1.heap.size := x1.lt
      clear hb1 k1 x1
      go_wp2_with fail
      refine (chainPlace_any _ _ _ _ l _ _ F1.out hn).mono ?_
      rintro e w2 ⟨rfl, hb2⟩
      rw [HPL.out]
      have B2 := Lib.hid (B1.out.trans (hb2.mono B1.out.size))
      have k2 := KK1.out.below hb2
      have x2 := XX1.out.below hb2
      have q0 := k2.cell (i := 0) (v := .int .i64 view) rfl
      have q1 := k2.cell (i := 1) (v := .slice (some ⟨b, off, none⟩) n c) rfl
      have r0 := x2.cell (i := 0) (v := .int .i64 x.id) rfl
      have r1 := x2.cell (i := 1) (v := .slice A' m d) rfl
      have r2 := x2.cell (i := 2) (v := .int .i64 x.done) rfl
      have yy0 := (B2.out.cell (p := ⟨b, off + (k - 1) * 3, none⟩) hbr).trans y0
      have yy1 := (B2.out.cell (p := ⟨b, off + (k - 1) * 3 + 1, none⟩) hbr).trans y1
      have yy2 := (B2.out.cell (p := ⟨b, off + (k - 1) * 3 + 2, none⟩) hbr).trans y2
      have s2 : w1.heap.size ≤ w2.heap.size := hb2.size
      have XX2 := Lib.hid (x2.alloc (.cells #[.int .i64 y.id, .slice A'' m' d', .int .i64 y.done] 78))
      have YY2 := Lib.hid (Blk.new w2 #[.int .i64 y.id, .slice A'' m' d', .int .i64 y.done] 78)
      have Fx := Lib.hid (((HF.out.on (show Below (wr.alloc (.cells #[.int .i64 x.id, .slice A' m d, .int .i64 x.done] 78)).heap.size _ w2 from ⟨B2.out.os, B2.out.tape, B2.out.output, by simp; omega, fun q hq => by
        by_cases e : q < wr.heap.size
        · exact (B2.out.block q e).trans (Below.heap_alloc _ _ _ e).symm
        · simp at hq
          obtain rfl : q = wr.heap.size := by omega
          exact (show w2.heap[wr.heap.size]? = _ from x2).trans (heap_alloc_new wr _).symm⟩))).box (.cells #[.int .i64 y.id, .slice A'' m' d', .int .i64 y.done] 78))
      have Fy := Lib.hid ((HFy.out.on B2.out).box (.cells #[.int .i64 y.id, .slice A'' m' d', .int .i64 y.done] 78))
      have hnn : wr.heap.size ≠ w2.heap.size := by omega
      have hnl : wr.heap.size < w2.heap.size := by omega
      have hnl' : w.heap.size < w2.heap.size := by omega
      have hnb : b ≠ w2.heap.size := by omega
      clear hb2 k2 x2
      go_wp2_with fail
      refine (logBegins_any _ _ _ _ _ _ x.log y.log _ Fx.out Fy.out hm hm').mono ?_
      rintro e w3 ⟨rfl, hb3⟩
      rw [HLB.out]
      have B3 := Lib.hid (B2.out.trans ((below_box hb3).mono B2.out.size))
      have x3 := (XX2.out.below hb3).cell (i := 2) (v := .int .i64 x.done) rfl
      have y3 := (YY2.out.below hb3).cell (i := 2) (v := .int .i64 y.done) rfl
      clear hb3 HF X0 K1 KK1 XX1 F1 XX2 YY2 Fx Fy HFy q0 q1 r0 r1 r2 yy0 yy1 yy2
      cases lb
      · go_wp2
        go_ret
        exact ⟨ret_bool (chainOk_bad (by rw [HA.out]; rfl) (by have := HL.out; omega)).symm, HB.out.trans (B3.out.mono (by omega))⟩
      · by_cases hd : x.done < y.done
        · go_wp2
          go_ret
          exact ⟨ret_bool (chainOk_bad (by rw [HA.out]; simp; omega) (by have := HL.out; omega)).symm, HB.out.trans (B3.out.mono (by omega))⟩
        · go_wp2
          go_roundw
          case rel => exact ⟨k + 1, by omega, by go_num, all_range_succ hall.out (by rw [HA.out]; simp; omega), HB0.out.trans (B3.out.mono hsz0)⟩
          case measure => simp [intOf]; omega
    · obtain rfl : n = k := by omega
      go_wp2_with fail
      refine (tailOf_any _ _ _ _ l _ HW.out hn (by omega)).mono ?_
      rintro e w1 ⟨x, A', m, d, hx, rfl, hf, hb1⟩
      have B1 := Lib.hid (HB.out.trans (hb1.mono (by omega)))
      have hml : x.log.length = m := hf.len
      have hT := tailOk_at HL.out hx
      have hC := chainOk_mk h0 h1 (by rw [HL.out]; exact h2) (by rw [HL.out]; exact h3) (by rw [HL.out]; exact hall.out)
      have HC := Lib.hid (hC.trans hT)
      have HML := Lib.hid hml
      clear hb1 hf hx hml hT hC
      have s1 := B1.out.size
      go_wp2
      go_ret
      exact ⟨ret_bool (by rw [HC.out, HML.out, Bool.eq_iff_iff]; simp), B1.out.alloc s1 _⟩
end Go.Proofs.YtemgilofjbnoaaaGreatDoor
namespace Go.Proofs.YtemgilofjbnoaaaGreatDoor
open Go.RowKit Go.Sort
theorem placeOf_take {l : List Nod} {k : Nat} {x : Nod} (hx : l[k]? = some x) : (placeOf (l.take k) x.id).isSome = !decide (placeOf l x.id = some k) := by
  cases h : placeOf (l.take k) x.id with
  | none =>
    have : placeOf l x.id = some k := placeOf_at hx rfl fun i y hi hy e => by
      have hy' : (l.take k)[i]? = some y := by rw [List.getElem?_take, if_pos hi]; exact hy
      have : placeOf (l.take k) x.id ≠ none := by
        unfold placeOf
        rw [ne_eq, List.findIdx?_eq_none_iff]
        intro hall
        have := hall y (List.mem_of_getElem? hy')
        simp [e] at this
      exact this h
    simp [this]
  | some j =>
    obtain ⟨y, hy, he, hb⟩ := placeOf_some h
    have hj := placeOf_lt h
    rw [List.length_take] at hj
    have hy' : l[j]? = some y := by rw [List.getElem?_take, if_pos (by omega)] at hy; exact hy
    have : placeOf l x.id = some j := placeOf_at hy' he fun i z hi hz => hb i z hi (by rw [List.getElem?_take, if_pos (by omega)]; exact hz)
    rw [this]; simp; omega
theorem nodeOk_lg {x : Nod} (h : nodeOk x = true) : logOk x.log = true := by simp only [nodeOk, Bool.and_eq_true] at h; exact h.1.2
theorem nodAt_ok {l : List Nod} {i : Nat} {x : Nod} (hx : l[i]? = some x) (h : nodAt l i = true) : nodeOk x = true := by
  unfold nodAt at h; rw [hx] at h; simp only [Bool.and_eq_true] at h; exact h.1.1
theorem chainOk_tail {v : Int} {l : List Nod} (h : tailOk l = false) : chainOk v l = false := by unfold chainOk; rw [h]; simp
theorem chainOk_last {v : Int} {l : List Nod} {n : Nat} (hl : l.length = n) (h : (List.range n).all (nodAt l) = true) (ht : n ≠ 0 → tailOk l = true) : chainOk v l = (inB n 1 5 && inB v 0 999) := by
  subst hl
  unfold chainOk
  rw [h]
  by_cases h0 : l.length = 0
  · simp [h0, inB]
  · rw [ht h0, Bool.eq_iff_iff]
    simp [inB]
    omega
theorem l4Has_below (A : Option Addr) (n c : Nat) (l : List Nod) (id : Int) (w : World) (h : Nods w 0 w.heap.size A n c l) (hn : n ≤ 1048576) :
    Calls Mo.prog 70 #[.slice A n c, .int .i64 id] w fun e w' => e = .returned (.bool (placeOf l id).isSome) ∧ Below w.heap.size w w' :=
  (l4Has_any A n c l id w h hn).mono fun e w' ⟨h1, h2⟩ => ⟨h1, by subst h2; exact Below.refl _ _⟩
set_option maxHeartbeats 8000000 in
theorem specChainValid_any (view : Int) (A : Option Addr) (n c : Nat) (l : List Nod) (w : World) (h : Nods w 0 w.heap.size A n c l) (hn : n ≤ 1048576) (hlog : ∀ x ∈ l, x.log.length ≤ 1048576) :
    Calls Mo.prog 39 #[.agg #[.int .i64 view, .slice A n c]] w fun e w' => e = .returned (.bool (chainOk view l)) ∧ Below w.heap.size w w' := by
  have HL := Lib.hid h.len
  have HG := Lib.hid hlog
  have H := Lib.hid h
  have hnc := h.cap.1
  have hcm := h.cap.2
  unfold maxLen at hcm
  clear h hlog
  obtain ⟨W0, hW0⟩ : ∃ W0, W0 = w.alloc (.cells #[.int .i64 view, .slice A n c] 25) := ⟨_, rfl⟩
  have K0 := Lib.hid (show Blk W0 w.heap.size #[.int .i64 view, .slice A n c] 25 by rw [hW0]; exact Blk.new _ _ _)
  have B0 := Lib.hid (show Below w.heap.size w W0 by rw [hW0]; exact (Below.refl _ _).alloc (Nat.le_refl _) _)
  have s0 : w.heap.size < W0.heap.size := by rw [hW0]; simp
  have HW0 := Lib.hid hW0
  clear hW0
  go_enter Mo.func39, Tryz.ntmps39
  go_wp2_with fail
  go_loopw [3] (fun i wr => ∃ k : Nat, k ≤ n ∧ i = .int .i64 k ∧ Hid ((List.range k).all (nodAt l) = true) ∧ Hid (k = n → n ≠ 0 → tailOk l = true) ∧ Below W0.heap.size W0 wr)
    (fun i _ => n - (intOf i).toNat)
  case atStart => exact ⟨0, Nat.zero_le _, rfl, rfl, (fun e h => absurd e.symm h), by rw [HW0.out]; exact Below.refl _ _⟩
  case round =>
    obtain ⟨k, hk, rfl, hall, htl, hB⟩ := hrel
    have HK := Lib.hid (K0.out.below hB)
    have HB := Lib.hid (B0.out.trans (hB.mono (Nat.le_of_lt s0)))
    have HB0 := Lib.hid hB
    have HW := Lib.hid (H.out.on HB.out)
    have hsz : w.heap.size < wr.heap.size := Nat.lt_of_lt_of_le s0 hB.size
    have hsz0 := hB.size
    clear hB
    have b0 := HK.out.cell (i := 0) (v := .int .i64 view) rfl
    have b1 := HK.out.cell (i := 1) (v := .slice A n c) rfl
    by_cases hlt : k < n
    · obtain ⟨b, off, x, A', m, d, rfl, _, hbB, hx, c0, c1, c2, hf⟩ := HW.out.nod hlt
      have hm : m ≤ 1048576 := by have := hf.len; have := mem_len HG.out hx; omega
      have hml : x.log.length = m := hf.len
      have HML := Lib.hid hml
      have Hx := Lib.hid hx
      obtain ⟨W, hW⟩ : ∃ W, W = wr.alloc (.cells #[.int .i64 x.id, .slice A' m d, .int .i64 x.done] 78) := ⟨_, rfl⟩
      have hbW : Below wr.heap.size wr W := by rw [hW]; exact (Below.refl _ _).alloc (Nat.le_refl _) _
      have X0 := Lib.hid (show Blk W wr.heap.size #[.int .i64 x.id, .slice A' m d, .int .i64 x.done] 78 by rw [hW]; exact Blk.new _ _ _)
      have K1 := Lib.hid (HK.out.below hbW)
      have HF := Lib.hid (hf.on hbW)
      have HN := Lib.hid ((HW.out.on hbW).take_ (Nat.le_of_lt hlt))
      have BW := Lib.hid hbW
      have HWE := Lib.hid hW
      clear hx hf hml hbW hW
      have d0 := cell_regrown (X0.out.cell (i := 0) (v := .int .i64 x.id) rfl)
      have d1 := cell_regrown (X0.out.cell (i := 1) (v := .slice A' m d) rfl)
      have d2 := cell_regrown (X0.out.cell (i := 2) (v := .int .i64 x.done) rfl)
      have d3 := cell_regrown (K1.out.cell (i := 1) (v := .slice (some ⟨b, off, none⟩) n c) rfl)
      have hkc : (k : Int) ≤ (c : Int) := by omega
      have hk0 : (0 : Int) ≤ (k : Int) := by omega
      cases hok : nodeOk x
      · go_wp2_with fail
        rw [← HWE.out]
        refine wp_region_quiet_below (by kernel_rfl) (by kernel_rfl) ?_
        repeat (go_big_quiet_step ((go_at_call 69; exact Calls.regrown_of (specNodeValid_any x _ _ _ _ (HF.out.on (below_regrown _ _ _)) hm))))
        refine wpQuiet_nil ?_
        intro w2 hw2
        have hb2 := Lib.hid (below_of_regrown hw2)
        clear hw2 d0 d1 d2 d3
        go_wp2
        go_ret
        exact ⟨ret_bool (chainOk_bad (nodAt_node Hx.out hok) (by have := HL.out; omega)).symm, HB.out.trans ((BW.out.mono (by omega)).trans (hb2.out.mono (by have := BW.out.size; omega)))⟩
      have hps := placeOf_take Hx.out
      have HPS := Lib.hid hps
      clear hps
      cases hhas : (placeOf (l.take k) x.id).isSome
      case true =>
        go_wp2_with fail
        rw [← HWE.out]
        refine wp_region_quiet_below (by kernel_rfl) (by kernel_rfl) ?_
        repeat (go_big_quiet_step ((first | (go_at_call 69; exact Calls.regrown_of (specNodeValid_any x _ _ _ _ (HF.out.on (below_regrown _ _ _)) hm)) | (go_at_call 70; exact Calls.regrown_of (l4Has_below _ _ _ (l.take k) _ _ (HN.out.on (below_regrown _ _ _)) (by omega))))))
        refine wpQuiet_nil ?_
        intro w2 hw2
        have hb2 := Lib.hid (below_of_regrown hw2)
        clear hw2 d0 d1 d2 d3
        go_wp2
        go_ret
        refine ⟨ret_bool (chainOk_bad (nodAt_place Hx.out ?_) (by have := HL.out; omega)).symm, HB.out.trans ((BW.out.mono (by omega)).trans (hb2.out.mono (by have := BW.out.size; omega)))⟩
        have := HPS.out
        rw [hhas] at this
        intro e; rw [e] at this; simp at this
      case false =>
      have hpl : placeOf l x.id = some k := by
        have := HPS.out
        rw [hhas] at this
        simpa using this
      have HPL := Lib.hid hpl
      clear hpl
      go_wp2_with fail
      rw [← HWE.out]
      refine wp_region_quiet_below (by kernel_rfl) (by kernel_rfl) ?_
      repeat (go_big_quiet_step ((first | (go_at_call 69; exact Calls.regrown_of (specNodeValid_any x _ _ _ _ (HF.out.on (below_regrown _ _ _)) hm)) | (go_at_call 70; exact Calls.regrown_of (l4Has_below _ _ _ (l.take k) _ _ (HN.out.on (below_regrown _ _ _)) (by omega))))))
      refine wpQuiet_nil ?_
      intro w2 hw2
      have hb2 := below_of_regrown hw2
      have B2 := Lib.hid (HB.out.trans ((BW.out.mono (by omega)).trans (hb2.mono (by have := BW.out.size; omega))))
      have B20 := Lib.hid (HB0.out.trans ((BW.out.mono hsz0).trans (hb2.mono (by have := BW.out.size; omega))))
      have BR := Lib.hid (BW.out.trans (hb2.mono BW.out.size))
      have X2 := Lib.hid (X0.out.below hb2)
      have K2 := Lib.hid (K1.out.below hb2)
      have F2 := Lib.hid (HF.out.on hb2)
      have s2 : wr.heap.size < w2.heap.size := X2.out.lt
      clear hw2 d0 d1 d2 d3 hb2
      have HO := Lib.hid hok
      have HH := Lib.hid hhas
      clear hok hhas
      have r0 := X2.out.cell (i := 0) (v := .int .i64 x.id) rfl
      have r1 := X2.out.cell (i := 1) (v := .slice A' m d) rfl
      have r2 := X2.out.cell (i := 2) (v := .int .i64 x.done) rfl
      have t1 := K2.out.cell (i := 1) (v := .slice (some ⟨b, off, none⟩) n c) rfl
      rcases Nat.eq_zero_or_pos k with hkz | hkp
      · have na : nodAt l k = true := by
          have hx0 := Hx.out
          have hp0 := HPL.out
          rw [hkz] at hx0 hp0 ⊢
          rw [nodAt_zero hx0, HO.out, hp0]; simp
        have NA := Lib.hid na
        have hg : decide ((0 : Int) < (k : Int)) = false := by simp; omega
        have hgn : decide (0 < k) = false := by simp; omega
        clear na hkz
        go_wp2_with fail
        refine wp_region_quiet_below (by kernel_rfl) (by kernel_rfl) ?_
        repeat (go_big_quiet_step (fail))
        refine wpQuiet_nil ?_
        intro w3 hw3
        have hb3 := below_of_regrown hw3
        have B3 := Lib.hid (B2.out.trans (hb3.mono B2.out.size))
        have B30 := Lib.hid (B20.out.trans (hb3.mono B20.out.size))
        have X3 := Lib.hid (X2.out.below hb3)
        have K3 := Lib.hid (K2.out.below hb3)
        clear hw3 hb3 r0 r1 r2 t1
        have r2 := X3.out.cell (i := 2) (v := .int .i64 x.done) rfl
        have r1 := X3.out.cell (i := 1) (v := .slice A' m d) rfl
        have t1 := K3.out.cell (i := 1) (v := .slice (some ⟨b, off, none⟩) n c) rfl
        by_cases hlast : k + 1 = n
        · have hl1 : (((k : Int) + 1) == (n : Int)) = true := by simp; omega
          by_cases hdone : x.done = (m : Int)
          · have hd1 : (x.done != (m : Int)) = false := by simp [hdone]
            have HD := Lib.hid hdone
            have HLA := Lib.hid hlast
            clear hdone hlast
            go_wp2
            go_roundw
            case rel => exact ⟨k + 1, by omega, by go_num, all_range_succ hall.out NA.out, (fun _ _ => by rw [tailOk_at HL.out (by rw [← HLA.out]; exact Hx.out), HD.out, HML.out]; simp), B30.out⟩
            case measure => simp [intOf]; omega
          · have hd1 : (x.done != (m : Int)) = true := by simp [hdone]
            have HD := Lib.hid hdone
            have HLA := Lib.hid hlast
            clear hdone hlast
            go_wp2
            go_ret
            exact ⟨ret_bool (chainOk_tail (by rw [tailOk_at HL.out (by rw [← HLA.out]; exact Hx.out), HML.out]; simp; exact HD.out)).symm, B3.out⟩
        · have hl1 : (((k : Int) + 1) == (n : Int)) = false := by simp; omega
          have HLA := Lib.hid hlast
          clear hlast
          go_wp2
          go_roundw
          case rel => exact ⟨k + 1, by omega, by go_num, all_range_succ hall.out NA.out, (fun e _ => absurd e HLA.out), B30.out⟩
          case measure => simp [intOf]; omega
      · obtain ⟨b', off', y, A'', m', d', e', _, _, hy, y0, y1, y2, hfy⟩ := HW.out.nod (show k - 1 < n by omega)
        obtain ⟨rfl, rfl⟩ : b = b' ∧ off = off' := by injection e' with e'; injection e' with e1 e2; exact ⟨e1, e2⟩
        have hm' : m' ≤ 1048576 := by have := hfy.len; have := mem_len HG.out hy; omega
        have hyo := nodAt_ok hy (all_range_at hall.out (show k - 1 < k by omega))
        have Hy := Lib.hid hy
        have HFy := Lib.hid (hfy.on BR.out)
        have hbr : b < wr.heap.size := by omega
        have hk1 : (1 : Int) ≤ (k : Int) := by omega
        have hk1' : (0 : Int) ≤ (k : Int) - 1 := by omega
        have hkn1 : (k : Int) - 1 < (n : Int) := by omega
        have hg : decide ((0 : Int) < (k : Int)) = true := by simp; omega
        have hgn : decide (0 < k) = true := by simp; omega
        have wr1 : IntKind.i64.wrap ((k : Int) - 1) = (k : Int) - 1 := IntWalk.i64_in _ (by omega)
        have wr2 : ((k : Int) - 1).toNat = k - 1 := by omega
        have e0 := cell_regrown (X2.out.cell (i := 0) (v := .int .i64 x.id) rfl)
        have e1 := cell_regrown (X2.out.cell (i := 1) (v := .slice A' m d) rfl)
        have e2 := cell_regrown (X2.out.cell (i := 2) (v := .int .i64 x.done) rfl)
        have e3 := cell_regrown (K2.out.cell (i := 1) (v := .slice (some ⟨b, off, none⟩) n c) rfl)
        have e4 := cell_regrown ((BR.out.cell (p := ⟨b, off + (k - 1) * 3 + 1, none⟩) hbr).trans y1)
        have e5 := cell_regrown ((BR.out.cell (p := ⟨b, off + (k - 1) * 3 + 2, none⟩) hbr).trans y2)
        obtain ⟨cm, hcm'⟩ : ∃ cm, common x.log y.log = cm := ⟨_, rfl⟩
        have ahead : nodAt l k = (decide (cm = m) && decide (y.done ≤ x.done)) := by
          have hx0 := Hx.out
          have hy0 := hy
          have hp0 := HPL.out
          obtain ⟨j, rfl⟩ : ∃ j, k = j + 1 := ⟨k - 1, by omega⟩
          have hl1 := nodeOk_lg HO.out
          have hl2 := nodeOk_lg hyo
          rw [nodAt_succ hx0 hy0, HO.out, hp0]
          unfold logBegins
          rw [hl1, hl2, hcm', HML.out]; simp
        have HA := Lib.hid ahead
        have hle : cm ≤ m := by have := (common_le x.log y.log).1; have := HML.out; omega
        have HC := Lib.hid (show ∀ (q : Nat) (os : Array Obj), Calls Mo.prog 71 #[.slice A' m d, .slice A'' m' d'] (grow (redrawn w2 q) os) fun e w' => e = .returned (.int .i64 (cm : Int)) ∧ Below (grow (redrawn w2 q) os).heap.size (grow (redrawn w2 q) os) w' from fun q os => by
          have hc := l1Common_any A' A'' m d m' d' x.log y.log (grow (redrawn w2 q) os) (F2.out.on (below_regrown _ _ _)) (HFy.out.on (below_regrown _ _ _)) hm hm'
          rwa [hcm'] at hc)
        clear hy hfy e' hyo hcm' ahead y0 y1 y2 c0 c1 c2
        by_cases hcl : cm < m
        · have hcl' : decide ((cm : Int) < (m : Int)) = true := by simp; omega
          go_wp2_with fail
          refine wp_region_quiet_below (by kernel_rfl) (by kernel_rfl) ?_
          repeat (go_big_quiet_step ((go_at_call 71; exact Calls.regrown_of (HC.out _ _))))
          refine wpQuiet_nil ?_
          intro w3 hw3
          have hb3 := below_of_regrown hw3
          have B3 := Lib.hid (B2.out.trans (hb3.mono B2.out.size))
          clear hw3 hb3 r0 r1 r2 t1 e0 e1 e2 e3 e4 e5 wr1 wr2
          go_wp2
          go_ret
          exact ⟨ret_bool (chainOk_bad (by rw [HA.out]; simp; omega) (by have := HL.out; omega)).symm, B3.out⟩
        · obtain rfl : cm = m := by omega
          have hcl' : decide ((cm : Int) < (cm : Int)) = false := by simp
          have hcln : decide (cm < cm) = false := by simp
          by_cases hd : x.done < y.done
          · have hd' : decide (x.done < y.done) = true := by simp [hd]
            go_wp2_with fail
            refine wp_region_quiet_below (by kernel_rfl) (by kernel_rfl) ?_
            repeat (go_big_quiet_step ((go_at_call 71; exact Calls.regrown_of (HC.out _ _))))
            refine wpQuiet_nil ?_
            intro w3 hw3
            have hb3 := below_of_regrown hw3
            have B3 := Lib.hid (B2.out.trans (hb3.mono B2.out.size))
            clear hw3 hb3 r0 r1 r2 t1 e0 e1 e2 e3 e4 e5 wr1 wr2
            go_wp2
            go_ret
            exact ⟨ret_bool (chainOk_bad (by rw [HA.out]; simp; omega) (by have := HL.out; omega)).symm, B3.out⟩
          · have hd' : decide (x.done < y.done) = false := by simp; omega
            have NA := Lib.hid (show nodAt l k = true by rw [HA.out]; simp; omega)
            have HDD := Lib.hid hd
            clear hd
            go_wp2_with fail
            refine wp_region_quiet_below (by kernel_rfl) (by kernel_rfl) ?_
            repeat (go_big_quiet_step ((go_at_call 71; exact Calls.regrown_of (HC.out _ _))))
            refine wpQuiet_nil ?_
            intro w3 hw3
            have hb3 := below_of_regrown hw3
            have B3 := Lib.hid (B2.out.trans (hb3.mono B2.out.size))
            have B30 := Lib.hid (B20.out.trans (hb3.mono B20.out.size))
            have X3 := Lib.hid (X2.out.below hb3)
            have K3 := Lib.hid (K2.out.below hb3)
            clear hw3 hb3 r0 r1 r2 t1 e0 e1 e2 e3 e4 e5 wr1 wr2 hd'
            have r2 := X3.out.cell (i := 2) (v := .int .i64 x.done) rfl
            have r1 := X3.out.cell (i := 1) (v := .slice A' cm d) rfl
            have t1 := K3.out.cell (i := 1) (v := .slice (some ⟨b, off, none⟩) n c) rfl
            by_cases hlast : k + 1 = n
            · have hl1 : (((k : Int) + 1) == (n : Int)) = true := by simp; omega
              by_cases hdone : x.done = (cm : Int)
              · have hd1 : (x.done != (cm : Int)) = false := by simp [hdone]
                have HD := Lib.hid hdone
                have HLA := Lib.hid hlast
                clear hdone hlast
                go_wp2
                go_roundw
                case rel => exact ⟨k + 1, by omega, by go_num, all_range_succ hall.out NA.out, (fun _ _ => by rw [tailOk_at HL.out (by rw [← HLA.out]; exact Hx.out), HD.out, HML.out]; simp), B30.out⟩
                case measure => simp [intOf]; omega
              · have hd1 : (x.done != (cm : Int)) = true := by simp [hdone]
                have HD := Lib.hid hdone
                have HLA := Lib.hid hlast
                clear hdone hlast
                go_wp2
                go_ret
                exact ⟨ret_bool (chainOk_tail (by rw [tailOk_at HL.out (by rw [← HLA.out]; exact Hx.out), HML.out]; simp; exact HD.out)).symm, B3.out⟩
            · have hl1 : (((k : Int) + 1) == (n : Int)) = false := by simp; omega
              have HLA := Lib.hid hlast
              clear hlast
              go_wp2
              go_roundw
              case rel => exact ⟨k + 1, by omega, by go_num, all_range_succ hall.out NA.out, (fun e _ => absurd e HLA.out), B30.out⟩
              case measure => simp [intOf]; omega
    · obtain rfl : n = k := by omega
      have hC := chainOk_last (v := view) HL.out hall.out (htl.out rfl)
      have HC := Lib.hid hC
      clear hC
      by_cases hn0 : inB n 1 5 = true
      all_goals
        go_wp2_with (go_at_call 72; refine (l6In_any _ _ _ _).mono ?_; rintro e w' ⟨rfl, rfl⟩)
        go_ret
        exact ⟨ret_bool (by rw [HC.out]; simp_all), HB.out⟩
end Go.Proofs.YtemgilofjbnoaaaGreatDoor
namespace Go.Proofs.YtemgilofjbnoaaaGreatDoor
open Go.RowKit
def addCost (v : Int) (l : List Nod) : Int := if chainOk v l then (match l[l.length - 1]? with | some x => (x.log.length : Int) | none => 0) else -1
end Go.Proofs.YtemgilofjbnoaaaGreatDoor
namespace Go.Proofs.YtemgilofjbnoaaaGreatDoor
open Go.RowKit Go.Sort
def roleOf (at_ many : Int) : Int := if at_ < 0 ∨ many ≤ at_ then 0 else if many = 1 then 4 else if at_ = 0 then 1 else if at_ = many - 1 then 3 else 2
def dropRole (v : Int) (l : List Nod) (id : Int) : Int := if chainOk v l then roleOf (placeI (placeOf l id)) l.length else 0
end Go.Proofs.YtemgilofjbnoaaaGreatDoor
namespace Go.Proofs.YtemgilofjbnoaaaGreatDoor
open Go.RowKit
def lost (v : Int) (l : List Nod) (id : Int) : List Upd :=
  if dropRole v l id = 1 then (match l[0]?, l[1]? with | some x, some y => x.log.drop y.log.length | _, _ => []) else []
end Go.Proofs.YtemgilofjbnoaaaGreatDoor
