/- States: five numbers in one block; making a new one, and putting a value there. -/
import Derived.Test.YtjcbhnbbhcfbiaaLeaf
namespace Go.Proofs.Ytjcbhnbbhcfbiaa
open Go.RowKit

/-- block g begins with the numbers st, and they may be written -/
def StAt (W : World) (g : Nat) (st : List Int) : Prop :=
  g < W.heap.size ∧ (∀ i x, st[i]? = some x → W.cell? ⟨g, i, none⟩ = some (.int .i64 x)) ∧ (∀ i, i < st.length → W.frozen? ⟨g, i, none⟩ = false)
section
variable {W W' : World} {g : Nat} {st : List Int}
theorem StAt.keep (h : StAt W g st) (hk : W'.heap[g]? = W.heap[g]?) (hs : g < W'.heap.size) : StAt W' g st :=
  ⟨hs, fun i x hx => (World.cell?_of_block (w := W) hk).trans (h.2.1 i x hx), fun i hi => (World.frozen?_of_block (w := W) hk).trans (h.2.2 i hi)⟩
theorem StAt.below (h : StAt W g st) (hb : Below W.heap.size W W') : StAt W' g st := h.keep (hb.block g h.1) (Nat.lt_of_lt_of_le h.1 hb.size)
theorem StAt.alloc (h : StAt W g st) (o : Obj) : StAt (W.alloc o) g st := h.below ((Below.refl _ _).alloc (Nat.le_refl _) _)
theorem StAt.kept {row : Option Nat} (h : StAt W g st) (hg : W.grownBy W' row) (hne : some g ≠ row) : StAt W' g st := h.keep (hg.block g h.1 hne) (Nat.lt_of_lt_of_le h.1 hg.size)
theorem StAt.far (h : StAt W g st) {p : Addr} (hp : g ≠ p.block) (u : Value) : StAt (W.setCell p u) g st := h.keep (Below.heap_setCell W p u g hp) (by simpa [World.setCell] using h.1)
theorem StAt.at_ (h : StAt W g st) {k : Nat} (hk : k < st.length) : ∃ x, st[k]? = some x ∧ W.cell? ⟨g, k, none⟩ = some (.int .i64 x) :=
  ⟨st[k], List.getElem?_eq_getElem hk, h.2.1 k _ (List.getElem?_eq_getElem hk)⟩
theorem StAt.put (h : StAt W g st) (k : Nat) (v : Int) : StAt (W.setCell ⟨g, k, none⟩ (.int .i64 v)) g (st.set k v) := by
  refine ⟨by simpa [World.setCell] using h.1, fun i x hx => ?_, fun i hi => ?_⟩
  · by_cases hik : i = k
    · subst hik
      have hi := (List.getElem?_eq_some_iff.1 hx).1
      rw [List.length_set] at hi
      rw [List.getElem?_set_self (by omega)] at hx
      injection hx with hx
      subst hx
      obtain ⟨y, _, hy⟩ := h.at_ hi
      exact World.cell?_setCell_same' _ _ _ (by rw [hy]; rfl)
    · rw [List.getElem?_set_ne (by omega)] at hx
      rw [World.cell?_setCell_other W _ _ _ (by simp only [ne_eq, Addr.mk.injEq]; omega)]
      exact h.2.1 i x hx
  · rw [World.frozen?_setCell]
    exact h.2.2 i (by simpa using hi)
end
theorem StAt.of_own {W : World} {lo g n cap : Nat} {e : TypeId} {st : List Int} (h : W.ownsRow lo e 1 (.slice (some ⟨g, 0, none⟩) n cap) n (st.flatMap encInt)) (hn : st.length = n) : StAt W g st := by
  refine ⟨(h.lt g rfl).2, fun i x hx => ?_, fun i _ => h.frozenAt i⟩
  have hi := (List.getElem?_eq_some_iff.1 hx).1
  have := h.cellAt i (by omega)
  rw [this]
  have := flatMap_get encInt_len st i x hx 0 (.int .i64 x) rfl
  simpa using this

def st0 : List Int := [-1, -1, -1, -1, -1]

theorem intInfo : (Try.prog.info? 3).map (fun i => (i.zero, i.size, i.bytes)) = some (some (.int .i64 0), 1, 8) := by kernel_rfl

def EmptyLeft (w : World) (e : Ending) (w' : World) : Prop :=
  ∃ g cap, e = .returned (.slice (some ⟨g, 0, none⟩) 5 cap) ∧ w.heap.size ≤ g ∧ 5 ≤ cap ∧ cap ≤ maxLen ∧ w'.ownsRow w.heap.size 3 1 (.slice (some ⟨g, 0, none⟩) 5 cap) 5 (st0.flatMap encInt) ∧ Below w.heap.size w w'
set_option maxRecDepth 100000 in
set_option maxHeartbeats 1000000 in
theorem l2Empty_any (w : World) : Calls Try.prog 24 #[] w (EmptyLeft w) := by
  obtain ⟨i0, hi, hz0, hz1, hz2⟩ := info_parts intInfo
  go_enter Try.func24, Try.ntmps24
  go_wp2
  go_loopw [1, 2] (fun v i wr => ∃ k : Nat, k ≤ 5 ∧ i = .int .i64 k ∧ wr.ownsRow w.heap.size 3 1 v k ((List.replicate k (-1 : Int)).flatMap encInt) ∧ Below w.heap.size w wr)
    (fun _ i _ => 5 - (intOf i).toNat)
  case atStart => exact ⟨0, by omega, rfl, World.ownsRow_made w #[] 0 (Nat.le_refl _) (Nat.zero_le _) (by simp), (Below.refl _ _).alloc (Nat.le_refl _) _⟩
  case round =>
    obtain ⟨k, hk, rfl, hown, hB⟩ := hrel
    have HO := Lib.hid hown
    have HB := Lib.hid hB
    have hsz := hB.size
    clear hown hB
    by_cases hlt : k < 5
    · go_wp2_with (at_builtin; refine wpList_append_own _ rfl _ _ 52 rfl w.heap.size 3 i0 _ 1 8 Try.underlying52 hi hz0 hz1 hz2 rfl (by decide) _ k _ rfl (HO.out.alloc _) ⟨wr.heap.size, 0, none⟩ 1 1 [.int .i64 (-1)] rfl rfl (new_cells _ _ _ _ rfl) (by intro u hu; simp at hu; subst hu; rfl) (by unfold maxLen; omega) (by omega) (by simp; omega) ?_; intro v7 w7 hown7 hg7 _)
      go_roundw
      case rel =>
        refine ⟨k + 1, by omega, by go_num, ?_, (HB.out.alloc hsz _).grown hg7 (by simp; omega) (fun g e => (HO.out.lt g e).1)⟩
        rw [List.replicate_succ', List.flatMap_append]
        simpa [encInt] using hown7
      case measure => simp [intOf]; omega
    · obtain rfl : k = 5 := by omega
      have hO := HO.out
      obtain ⟨g, cap, hv, hg, _, hc5⟩ := own_form hO (by omega)
      rw [hv]
      rw [hv] at hO
      have HO' := Lib.hid hO
      have hcm : cap ≤ maxLen := by
        rcases hO.2 with ⟨h, _⟩ | ⟨g', cap', cur, h, _, _, _, hm, _⟩
        · cases h
        · injection h with _ _ h; rw [h]; exact hm
      clear hO hv HO
      go_wp2
      go_ret
      exact ⟨g, cap, rfl, hg, hc5, hcm, HO'.out, HB.out⟩

def NewState (w : World) (e : Ending) (w' : World) : Prop :=
  e = .returned (.pointer (some ⟨w.heap.size, 0, none⟩)) ∧ StAt w' w.heap.size st0 ∧ Below w.heap.size w w'
set_option maxHeartbeats 1000000 in
theorem newState_any (w : World) : Calls Try.prog 27 #[] w (NewState w) := by
  go_enter Try.func27, Try.ntmps27
  go_wp2
  go_rounds 6
  all_goals
    go_ret
    refine ⟨rfl, ⟨by simp, fun i x hx => ?_, fun i _ => ?_⟩, by go_grown⟩
    · match i, hx with
      | 0, hx => simp [st0] at hx; subst hx; simp
      | 1, hx => simp [st0] at hx; subst hx; simp
      | 2, hx => simp [st0] at hx; subst hx; simp
      | 3, hx => simp [st0] at hx; subst hx; simp
      | 4, hx => simp [st0] at hx; subst hx; simp
      | k + 5, hx => simp [st0] at hx
    · simp

set_option maxHeartbeats 1000000 in
theorem put_any (g : Nat) (st : List Int) (k : Nat) (v : Int) (w : World) (h : StAt w g st) (hl : st.length = 5) (hk : k < 5) :
    Calls Try.prog 29 #[.pointer (some ⟨g, 0, none⟩), .agg #[.int .i64 (k : Int), .int .i64 v]] w fun e w' => e = .returned (.tuple #[]) ∧ StAt w' g (st.set k v) ∧ w.grownBy w' (some g) := by
  have HS := Lib.hid h
  obtain ⟨x, _, hc⟩ := h.at_ (show k < st.length by omega)
  have hf := h.2.2 k (by omega)
  have hg := h.1
  clear h
  have k0 : (0 : Int) ≤ (k : Int) := by omega
  have k5 : (k : Int) < 5 := by omega
  have hgs : g ≠ w.heap.size := by omega
  have b0 : (w.alloc (.cells #[.int .i64 (k : Int), .int .i64 v] 43)).cell? ⟨w.heap.size, 0, none⟩ = some (.int .i64 (k : Int)) := World.cell?_alloc_at _ _ _ _ rfl
  have b1 : (w.alloc (.cells #[.int .i64 (k : Int), .int .i64 v] 43)).cell? ⟨w.heap.size, 1, none⟩ = some (.int .i64 v) := World.cell?_alloc_at _ _ _ _ rfl
  have hc' : (w.alloc (.cells #[.int .i64 (k : Int), .int .i64 v] 43)).cell? ⟨g, k, none⟩ = some (.int .i64 x) := (World.cell?_alloc_past _ _ _ hg).trans hc
  have hf' : (w.alloc (.cells #[.int .i64 (k : Int), .int .i64 v] 43)).frozen? ⟨g, k, none⟩ = false := (World.frozen?_alloc_past _ _ _ hg).trans hf
  go_enter Try.func29, Try.ntmps29
  go_wp2_with fail
  go_region
  all_goals go_end0
  all_goals refine ⟨rfl, (HS.out.put k v).alloc _, ⟨rfl, rfl, rfl, by simp [World.setCell], fun i hi hn => ?_⟩⟩
  all_goals
    refine (Below.heap_alloc (w.setCell ⟨g, k, none⟩ (.int .i64 v)) _ i (by simpa [World.setCell] using hi)).trans (Below.heap_setCell _ _ _ _ (fun e => hn (by rw [e])))
end Go.Proofs.Ytjcbhnbbhcfbiaa
