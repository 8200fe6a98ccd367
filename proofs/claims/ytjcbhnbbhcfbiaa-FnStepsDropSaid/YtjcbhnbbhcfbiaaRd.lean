/- The reader of a code: what it holds, and what picking a number does to it. -/
import Derived.Test.YtjcbhnbbhcfbiaaLeaf
import Derived.Laws.BitsAllLaws
import Derived.Laws.BitsLemmas
namespace Go.Proofs.Ytjcbhnbbhcfbiaa
open Go.RowKit

def encU8 (x : Int) : List Value := [.int .u8 x]
theorem encU8_len (u : Int) : (encU8 u).length = 1 := rfl

/-- block rb is a reader at place p; its bytes lie below B -/
def Rd (w : World) (rb B p : Nat) : Prop :=
  B ≤ rb ∧ ∃ A n c l, w.heap[rb]? = some (.cells #[.slice A n c, .int .i64 (p : Int)] 56 (0, 0)) ∧ Flat encU8 1 w 0 B A n c l ∧ (∀ x ∈ l, 0 ≤ x ∧ x ≤ 255) ∧ n ≤ 2000

theorem Flat.u8 {w : World} {lo hi n c k : Nat} {A : Option Addr} {l : List Int} (h : Flat encU8 1 w lo hi A n c l) (hk : k < n) :
    ∃ b off x, A = some ⟨b, off, none⟩ ∧ lo ≤ b ∧ b < hi ∧ l[k]? = some x ∧ w.cell? ⟨b, off + k, none⟩ = some (.int .u8 x) := by
  obtain ⟨b, off, x, e, h1, h2, hx, hc⟩ := h.at_ hk
  exact ⟨b, off, x, e, h1, h2, hx, by have := hc 0 _ rfl; rwa [Nat.mul_one] at this⟩

theorem Rd.lt {w : World} {rb B p : Nat} (h : Rd w rb B p) : rb < w.heap.size := by
  obtain ⟨_, A, n, c, l, hg, _⟩ := h; exact lt_of_block hg
theorem Rd.keep {w w' : World} {rb B p : Nat} (h : Rd w rb B p) (hk : ∀ k, k ≤ rb → w'.heap[k]? = w.heap[k]?) : Rd w' rb B p := by
  obtain ⟨hB, A, n, c, l, hg, hf, hb, hn⟩ := h
  exact ⟨hB, A, n, c, l, (hk rb (Nat.le_refl _)).trans hg, hf.keep (fun k _ h2 => hk k (by omega)), hb, hn⟩
theorem Rd.below {w w' : World} {rb B p : Nat} (h : Rd w rb B p) (hb : Below w.heap.size w w') : Rd w' rb B p :=
  h.keep fun k hk => hb.block k (by have := h.lt; omega)

/-- only block rb has changed, and what is new -/
theorem only_to_below {w w' : World} {rb D : Nat} (h : w.grownBy w' (some rb)) (hD : D ≤ rb) (hs : rb < w.heap.size) : Below D w w' :=
  ⟨h.os, h.tape, h.output, h.size, fun k hk => h.block k (by omega) (fun e => by injection e with e; omega)⟩
theorem only_refl (w : World) (rb : Nat) : w.grownBy w (some rb) := ⟨rfl, rfl, rfl, Nat.le_refl _, fun _ _ _ => rfl⟩
theorem only_trans {a b c : World} {rb : Nat} (h : a.grownBy b (some rb)) (k : b.grownBy c (some rb)) : a.grownBy c (some rb) :=
  ⟨k.os.trans h.os, k.tape.trans h.tape, k.output.trans h.output, Nat.le_trans h.size k.size, fun i hi hn => (k.block i (Nat.lt_of_lt_of_le hi h.size) hn).trans (h.block i hi hn)⟩
theorem only_of_below {a b : World} {rb : Nat} (h : Below a.heap.size a b) : a.grownBy b (some rb) := ⟨h.os, h.tape, h.output, h.size, fun i hi _ => h.block i hi⟩

/-- what a pick leaves -/
def Picked (w : World) (rb B p : Nat) (n : Int) (e : Ending) (w' : World) : Prop :=
  ∃ v : Int, e = .returned (.int .i64 v) ∧ 0 ≤ v ∧ (1 ≤ n → v < n) ∧ (n < 1 → v = 0) ∧ Rd w' rb B (p + 1) ∧ w.grownBy w' (some rb)

theorem rd_step {w : World} {rb B p n c : Nat} {A : Option Addr} {l : List Int} (hB : B ≤ rb) (hg : w.heap[rb]? = some (.cells #[.slice A n c, .int .i64 (p : Int)] 56 (0, 0))) (hf : Flat encU8 1 w 0 B A n c l) (hb : ∀ x ∈ l, 0 ≤ x ∧ x ≤ 255) (hn : n ≤ 2000) :
    Rd (w.setCell ⟨rb, 1, none⟩ (.int .i64 ((p : Int) + 1))) rb B (p + 1) ∧ w.grownBy (w.setCell ⟨rb, 1, none⟩ (.int .i64 ((p : Int) + 1))) (some rb) := by
  refine ⟨⟨hB, A, n, c, l, ?_, hf.keep (fun k _ h2 => Below.heap_setCell _ _ _ _ (by show k ≠ rb; omega)), hb, hn⟩, rfl, rfl, rfl, by simp [World.setCell], fun k _ hk => Below.heap_setCell _ _ _ _ (fun e => hk (by rw [e]))⟩
  rw [heap_setCell_at hg]; rfl

theorem ofInt64 (a : Nat) (ha : a < 9223372036854775808) : (BitVec.ofInt 64 (a : Int)).toNat = a := by
  rw [BitVec.ofInt_natCast, BitVec.toNat_ofNat]; exact Nat.mod_eq_of_lt (by omega)
theorem xor64 (a b : Nat) (ha : a < 9223372036854775808) (hb : b < 9223372036854775808) : bits .xor .i64 (a : Int) (b : Int) = ((a ^^^ b : Nat) : Int) := by
  have hx : a ^^^ b < 2 ^ 63 := Nat.xor_lt_two_pow (by omega) (by omega)
  show IntKind.i64.wrap ((BitVec.ofInt 64 (a : Int) ^^^ BitVec.ofInt 64 (b : Int)).toNat : Int) = _
  rw [BitVec.toNat_xor, ofInt64 a ha, ofInt64 b hb, IntKind.wrap_i64]
  omega

set_option maxHeartbeats 1000000 in
theorem pick_any (rb B p : Nat) (n : Int) (w : World) (h : Rd w rb B p) (hp : p ≤ 1099511627776) :
    Calls Try.prog 25 #[.pointer (some ⟨rb, 0, none⟩), .int .i64 n] w (Picked w rb B p n) := by
  obtain ⟨hB, A, m, c, l, hg, hf, hl, hm⟩ := h
  obtain ⟨hrd, hgr⟩ := rd_step hB hg hf hl hm
  have q0 : w.cell? ⟨rb, 0, none⟩ = some (.slice A m c) := by simp [World.cell?, hg]
  have q1 : w.cell? ⟨rb, 1, none⟩ = some (.int .i64 (p : Int)) := by simp [World.cell?, hg]
  have f1 := row_free hg 1
  have HR := Lib.hid hrd
  have HG := Lib.hid hgr
  clear hrd hgr hg
  by_cases hn : n < 1
  · go_enter Try.func25, Try.ntmps25
    go_wp2
    go_ret
    exact ⟨0, rfl, by omega, by omega, by omega, HR.out, HG.out⟩
  · by_cases hm0 : m = 0
    · have hz : ((m : Int) == 0) = true := by simp; omega
      go_enter Try.func25, Try.ntmps25
      go_wp2
      go_ret
      exact ⟨0, rfl, by omega, by omega, by omega, HR.out, HG.out⟩
    · have hz : ((m : Int) == 0) = false := by simp; omega
      by_cases hlt : p < m
      · obtain ⟨b, off, x, rfl, _, hb, hx, hc⟩ := hf.u8 hlt
        have hxr := hl x (List.mem_of_getElem? hx)
        have hne : b ≠ rb := by omega
        go_enter Try.func25, Try.ntmps25
        go_wp2
        go_ret
        exact ⟨x % n, rfl, Int.emod_nonneg _ (by omega), fun _ => Int.emod_lt_of_pos _ (by omega), fun h => absurd hn (by omega), HR.out, HG.out⟩
      · obtain ⟨b, off, x, rfl, _, hb, hx, hc⟩ := hf.u8 (show p % m < m from Nat.mod_lt _ (by omega))
        obtain ⟨b', off', y, e', _, _, hy, hc'⟩ := hf.u8 (show (p * 7 + 3) % m < m from Nat.mod_lt _ (by omega))
        obtain ⟨rfl, rfl⟩ : b = b' ∧ off = off' := by injection e' with e'; injection e' with e1 e2; exact ⟨e1, e2⟩
        have hxr := hl x (List.mem_of_getElem? hx)
        have hyr := hl y (List.mem_of_getElem? hy)
        clear hx hy e' hl hf
        have hne : b ≠ rb := by omega
        have hd1 : p / m ≤ p := Nat.div_le_self _ _
        have hq1 : p % m < m := Nat.mod_lt _ (by omega)
        have hq2 : (p * 7 + 3) % m < m := Nat.mod_lt _ (by omega)
        have e1 : ((p : Int) / (m : Int)) = ((p / m : Nat) : Int) := by simp
        have e2 : (Int.tdiv (p : Int) (m : Int)) = ((p / m : Nat) : Int) := rfl
        have e3 : ((p : Int) % (m : Int)) = ((p % m : Nat) : Int) := by simp
        have e4 : (Int.tmod (p : Int) (m : Int)) = ((p % m : Nat) : Int) := rfl
        have e5 : (((p : Int) * 7 + 3) % (m : Int)) = (((p * 7 + 3) % m : Nat) : Int) := by simp
        have e6 : (Int.tmod ((p : Int) * 7 + 3) (m : Int)) = (((p * 7 + 3) % m : Nat) : Int) := rfl
        obtain ⟨d, hd⟩ : ∃ d, d = p / m := ⟨_, rfl⟩
        obtain ⟨q, hq⟩ : ∃ q, q = p % m := ⟨_, rfl⟩
        obtain ⟨q', hq'⟩ : ∃ q', q' = (p * 7 + 3) % m := ⟨_, rfl⟩
        rw [← hd] at hd1 e1 e2
        rw [← hq] at hq1 e3 e4 hc
        rw [← hq'] at hq2 e5 e6 hc'
        clear hd hq hq'
        obtain ⟨W, hW⟩ : ∃ W, W = w.setCell ⟨rb, 1, none⟩ (.int .i64 ((p : Int) + 1)) := ⟨_, rfl⟩
        have r0 : W.cell? ⟨rb, 0, none⟩ = some (.slice (some ⟨b, off, none⟩) m c) := by rw [hW, World.cell?_setCell_other w _ _ _ (by simp)]; exact q0
        have r1 : W.cell? ⟨b, off + q, none⟩ = some (.int .u8 x) := by rw [hW, World.cell?_setCell_other w _ _ _ (by simp only [ne_eq, Addr.mk.injEq]; omega)]; exact hc
        have r2 : W.cell? ⟨b, off + q', none⟩ = some (.int .u8 y) := by rw [hW, World.cell?_setCell_other w _ _ _ (by simp only [ne_eq, Addr.mk.injEq]; omega)]; exact hc'
        have HW := Lib.hid hW
        clear hW
        go_enter Try.func25, Try.ntmps25
        go_wp2
        rw [← HW.out]
        clear q0 q1 f1 hc hc'
        refine wp_region_quiet_lit (by kernel_rfl) (by kernel_rfl) ?_
        repeat (go_big_quiet_step (fail))
        refine wpQuiet_nil ?_
        intro W' hW'
        obtain ⟨nq, rfl⟩ := hW'
        clear r0 r1 r2 e1 e2 e3 e4 e5 e6
        obtain ⟨N, hN, hNb⟩ : ∃ N : Nat, x * 131 + y * 1117 + (p : Int) * 29 + (d : Int) * 53 = (N : Int) ∧ N < 4611686018427387904 := ⟨(x * 131 + y * 1117 + (p : Int) * 29 + (d : Int) * 53).toNat, by omega, by omega⟩
        rw [hN]
        clear hN
        have hx1 := xor64 N (N / 64) (by omega) (by omega)
        have hx2 : ((N / 64 : Nat) : Int) = (N : Int) / 64 := by simp
        rw [hx2] at hx1
        clear hx2
        obtain ⟨z, hz'⟩ : ∃ z, z = N ^^^ (N / 64) := ⟨_, rfl⟩
        rw [← hz'] at hx1
        clear hz'
        go_wp2
        go_ret
        rw [HW.out]
        exact ⟨(z : Int) % n, rfl, Int.emod_nonneg _ (by omega), fun _ => Int.emod_lt_of_pos _ (by omega), fun h => absurd hn (by omega), HR.out.keep (fun _ _ => rfl), HG.out.os, HG.out.tape, HG.out.output, HG.out.size, HG.out.block⟩

/-! ### A draw under way: the reader, and the row that is being laid -/
def DrF {α : Type} (enc : α → List Value) (sz : Nat) (e : TypeId) (w0 w : World) (rb B p : Nat) (v : Value) (l : List α) : Prop :=
  Rd w rb B p ∧ w.ownsRow w0.heap.size e sz v l.length (l.flatMap enc) ∧ w0.grownBy w (some rb) ∧ rb < w0.heap.size
section
variable {α : Type} {enc : α → List Value} {sz : Nat} {e : TypeId} {w0 w w' : World} {rb B p p' : Nat} {v v' : Value} {l : List α}
theorem DrF.picked (h : DrF enc sz e w0 w rb B p v l) (hr : Rd w' rb B p') (hg : w.grownBy w' (some rb)) : DrF enc sz e w0 w' rb B p' v l := by
  obtain ⟨_, h2, h3, h4⟩ := h
  refine ⟨hr, h2.kept hg ?_, only_trans h3 hg, h4⟩
  cases hv : v.ownBlock with
  | none => exact .inl rfl
  | some k => exact .inr (fun e => by injection e with e; have := (h2.lt k hv).1; omega)
theorem DrF.alloc (h : DrF enc sz e w0 w rb B p v l) (o : Obj) : DrF enc sz e w0 (w.alloc o) rb B p v l :=
  ⟨h.1.below ((Below.refl _ _).alloc (Nat.le_refl _) _), h.2.1.alloc o, only_trans h.2.2.1 (only_of_below ((Below.refl _ _).alloc (Nat.le_refl _) _)), h.2.2.2⟩
theorem DrF.appended {x : α} (h : DrF enc sz e w0 w rb B p v l) {o : Obj} (hown : w'.ownsRow w0.heap.size e sz v' (l.length + 1) (l.flatMap enc ++ enc x)) (hg : (w.alloc o).grownBy w' v.ownBlock) :
    DrF enc sz e w0 w' rb B p v' (l ++ [x]) := by
  obtain ⟨h1, h2, h3, h4⟩ := h
  have hblk : ∀ k, k < w.heap.size → some k ≠ v.ownBlock → w'.heap[k]? = w.heap[k]? := fun k hk hne => (hg.block k (by simp; omega) hne).trans (Below.heap_alloc _ _ _ hk)
  have hlt : rb < w.heap.size := h1.lt
  have hold : ∀ k, k < w0.heap.size → some k ≠ v.ownBlock := fun k hk e => by have := (h2.lt k e.symm).1; omega
  refine ⟨h1.keep (fun k hk => hblk k (by omega) (hold k (by omega))), ?_, ⟨hg.os.trans h3.os, hg.tape.trans h3.tape, hg.output.trans h3.output, Nat.le_trans h3.size (Nat.le_trans (by simp) hg.size), fun k hk hn => (hblk k (Nat.lt_of_lt_of_le hk h3.size) (hold k hk)).trans (h3.block k hk hn)⟩, h4⟩
  rw [List.length_append, List.flatMap_append]
  simpa using hown
/-- one cell of one element is written -/
theorem DrF.stored {x x' : α} {i j : Nat} {u : Value} {g cap : Nat} (hs : ∀ x, (enc x).length = sz) (he : enc x' = (enc x).set j u) (hj : j < sz) (hi : l[i]? = some x)
    (h : DrF enc sz e w0 w rb B p (.slice (some ⟨g, 0, none⟩) l.length cap) l) :
    DrF enc sz e w0 (w.setCell ⟨g, i * sz + j, none⟩ u) rb B p (.slice (some ⟨g, 0, none⟩) l.length cap) (l.set i x') := by
  obtain ⟨h1, h2, h3, h4⟩ := h
  have hg : w0.heap.size ≤ g := (h2.lt g rfl).1
  refine ⟨h1.keep (fun k hk => Below.heap_setCell _ _ _ _ (by show k ≠ g; omega)), ?_, ⟨h3.os, h3.tape, h3.output, by simpa [World.setCell] using h3.size, fun k hk hn => (Below.heap_setCell _ _ _ _ (by show k ≠ g; omega)).trans (h3.block k hk hn)⟩, h4⟩
  have := h2.stored (i * sz + j) u
  rw [flatMap_set hs he hj l i hi] at this
  rw [List.length_set]
  exact this.1
end
end Go.Proofs.Ytjcbhnbbhcfbiaa
