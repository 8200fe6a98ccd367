/- 'stepsInOrder': the iterator that hands out places and steps: its contract, for every loop body that keeps what lay below. -/
import Derived.RangeFuncNested
import Derived.RangeFuncBound
import Derived.RangeFuncCalls
import Derived.RangeFuncLeaves
import Derived.Shelf.Abstract
import Derived.Shelf.RegionOpen
import Derived.OwnWalkIn
import Derived.TacticsInMore
import Derived.LoopNIn
import Derived.LoopIn
import Derived.Test.YtjcbhnbbhcfbiaaLeaf
namespace Go.Proofs.Ytjcbhnbbhcfbiaa
open Go.RowKit Go.Shelf
attribute [local go_sem] Oper.semAt_some

/-- the first k steps, each with its place -/
def numTo (l : List Stp) (k : Nat) : List (Nat × Stp) := (l.take k).zipIdx.map fun p => (p.2, p.1)
theorem numTo_succ {l : List Stp} {k : Nat} {s : Stp} (h : l[k]? = some s) : numTo l (k + 1) = numTo l k ++ [(k, s)] := by
  have hk := (List.getElem?_eq_some_iff.1 h).1
  have hs : l[k] = s := by rw [List.getElem?_eq_getElem hk] at h; injection h
  unfold numTo
  rw [List.take_succ_eq_append_getElem hk, List.zipIdx_append, List.map_append, hs]
  simp [List.length_take, Nat.min_eq_left (Nat.le_of_lt hk)]
theorem numTo_len {l : List Stp} {k : Nat} (h : k ≤ l.length) : (numTo l k).length = k := by
  unfold numTo; simp; omega
theorem numTo_snd (l : List Stp) (k : Nat) : (numTo l k).map (·.2) = l.take k := by
  unfold numTo
  rw [List.map_map]
  have : (Prod.snd ∘ fun p : Stp × Nat => (p.2, p.1)) = Prod.fst := rfl
  rw [this, List.zipIdx_map_fst]
abbrev encP (p : Nat × Stp) : Array Value := #[.int .i64 (p.1 : Int), .agg #[.bool p.2.reads, .int .i64 p.2.key, .int .i64 p.2.value]]

theorem abides_alloc {β : Type} {B : Nat} {J : β → World → Prop} (h : AbidesFrom B J) {s : β} {W : World} (o : Obj) (hs : J s W) : J s (W.alloc o) :=
  h s W _ none hs (World.grownBy_alloc W o none) (fun r e => by cases e)

theorem numTo_at {l : List Stp} {k i : Nat} (h : i < k) (hk : k ≤ l.length) : ∃ s, l[i]? = some s ∧ (numTo l k)[i]? = some (i, s) := by
  have hi : i < l.length := by omega
  refine ⟨l[i], List.getElem?_eq_getElem hi, ?_⟩
  unfold numTo
  rw [List.getElem?_map, List.getElem?_zipIdx, List.getElem?_take, if_pos h, List.getElem?_eq_getElem hi]
  simp
theorem numTo_take {l : List Stp} {k m : Nat} (h : k ≤ m) : (numTo l m).take k = numTo l k := by
  unfold numTo
  rw [← List.map_take]
  congr 1
  apply List.ext_getElem?
  intro i
  rw [List.getElem?_take, List.getElem?_zipIdx, List.getElem?_zipIdx, List.getElem?_take, List.getElem?_take]
  by_cases hi : i < k
  · rw [if_pos hi, if_pos (by omega), if_pos hi]
  · rw [if_neg hi, if_neg hi]; rfl
/-- what is handed out of l, place by place -/
def Hands {α : Type} (dec : α → Nat × Stp) (l : List Stp) (xs : List α) : Prop := xs.length = l.length ∧ ∀ k x, xs[k]? = some x → (dec x).1 = k ∧ l[k]? = some (dec x).2
theorem hands_numTo (l : List Stp) : Hands id l (numTo l l.length) := by
  refine ⟨numTo_len (Nat.le_refl _), fun k x hx => ?_⟩
  have hk : k < l.length := by have := (List.getElem?_eq_some_iff.1 hx).1; rwa [numTo_len (Nat.le_refl _)] at this
  obtain ⟨s, hs, h'⟩ := numTo_at hk (Nat.le_refl _)
  rw [h'] at hx; injection hx with hx; subst hx
  exact ⟨rfl, hs⟩

set_option maxRecDepth 100000 in
set_option maxHeartbeats 2000000 in
theorem steps1_in {α : Type} (dec : α → Nat × Stp) (F : Fence) (n : Nat) (hF : F.fn 38) (hro : F.round = none) (hn : 1 ≤ n) (lp Bs n₀ : Nat) (A : Option Addr) (m c : Nat) (l : List Stp) (xs : List α) (hx : Hands dec l xs) (hm : m ≤ 1048576) (J Jx : List α → World → Prop)
    (hJa : ∀ (s : List α) (W : World) (o : Obj), J s W → J s (W.alloc o))
    (hY : ∀ pre x W, J pre W → pre.length < m → YieldAt F (n - 1) Try.prog lp (encP (dec x)) W fun e W' =>
      (e = .returned (.bool true) ∧ J (pre ++ [x]) W' ∧ Below n₀ W W') ∨ (e = .returned (.bool false) ∧ Jx (pre ++ [x]) W'))
    (W : World) (hBs : W.cell? ⟨Bs, 0, none⟩ = some (.slice A m c)) (hf : Flat Stp.enc 3 W 0 n₀ A m c l) (hn₀ : n₀ ≤ W.heap.size) (h0 : J [] W) :
    CallsIn F n Try.prog 38 #[.func (.yield lp) #[] #[], .pointer (some ⟨Bs, 0, none⟩)] W fun e W' => (∃ v, e = .returned v) ∧
      ((∃ ys, ys = xs ∧ J ys W') ∨ (∃ pre, (∃ k, k ≤ m ∧ pre = xs.take k) ∧ Jx pre W')) := by
  have HF := Lib.hid hf
  have hlen := Lib.hid hf.len
  have HX := Lib.hid hx
  clear hf hx
  refine callsIn_of_wp Try.func38 rfl hF ?_ hro
  simp only [Try.ntmps38, List.size_toArray, List.length_cons, List.length_nil, Nat.reduceAdd, Nat.reduceSub, Array.replicate_succ, Array.replicate_zero, List.push_toArray, List.append_toArray, List.nil_append, List.cons_append]
  gi_wp2
  gi_loopw [7] (fun i wr => ∃ k : Nat, k ≤ m ∧ i = .int .i64 k ∧ J (xs.take k) wr ∧ Below n₀ W wr)
    (fun i _ => m - (intOf i).toNat)
  case atStart => exact ⟨0, Nat.zero_le _, rfl, h0, Below.refl _ _⟩
  case round =>
    obtain ⟨k, hk, rfl, hJs, hnx⟩ := hrel
    have HW := Lib.hid (HF.out.below hnx (Nat.le_refl _))
    have hsz := hnx.size
    by_cases hlt : k < m
    · have hkx : k < xs.length := by have := hlen.out; have := HX.out.1; omega
      obtain ⟨e1, e2⟩ := HX.out.2 k xs[k] (List.getElem?_eq_getElem hkx)
      obtain ⟨b, off, s, rfl, _, hb, hs, c0, c1, c2⟩ := HW.out.stp hlt
      have hdx : dec xs[k] = (k, s) := by rw [hs] at e2; injection e2 with e2; exact Prod.ext e1 e2.symm
      have hsucc : xs.take (k + 1) = xs.take k ++ [xs[k]] := List.take_succ_eq_append_getElem hkx
      obtain ⟨fn, tmps, assign, body, hy, hR⟩ := hY _ xs[k] _ (hJa _ _ (.cells #[.bool s.reads, .int .i64 s.key, .int .i64 s.value] 27) hJs) (by rw [List.length_take]; omega)
      rw [← hsucc] at hR
      rw [hdx] at hy
      dsimp only [encP] at hy
      clear hs e1 e2 hdx hsucc
      gi_wp2
      refine hR.mono ?_
      rintro e W3 (⟨rfl, hJ3, hk3⟩ | ⟨rfl, hJx3⟩)
      · gi_wp2
        go_roundw
        case rel => exact ⟨k + 1, by omega, by simp, hJ3, (hnx.alloc (by omega) _).trans hk3⟩
        case measure => simp [intOf]; omega
      · gi_wp2
        refine bodyPost_ret (results_none rfl _ _ _) rfl ?_
        exact ⟨⟨_, rfl⟩, .inr ⟨_, ⟨k + 1, by omega, rfl⟩, hJx3⟩⟩
    · obtain rfl : k = m := by omega
      gi_wp2
      go_end0
      exact ⟨⟨_, rfl⟩, .inl ⟨_, List.take_of_length_le (by have := hlen.out; have := HX.out.1; omega), hJs⟩⟩

theorem steps_stops {α : Type} (dec : α → Nat × Stp) (F : Fence) (n : Nat) (hF : F.fn 38) (hro : F.round = none) (hn : 1 ≤ n) (Bs n₀ : Nat) (A : Option Addr) (m c : Nat) (l : List Stp) (xs : List α) (hx : Hands dec l xs) (hm : m ≤ 1048576) (w : World) (hBs : Bs < w.heap.size) (hn₀ : n₀ ≤ w.heap.size)
    (hc : w.cell? ⟨Bs, 0, none⟩ = some (.slice A m c)) (hf : Flat Stp.enc 3 w 0 n₀ A m c l) :
    SeqStopsK F n Try.prog 38 #[.pointer (some ⟨Bs, 0, none⟩)] (fun x => encP (dec x)) (Below n₀) (fun ys => ys = xs) (fun pre => ∃ k, k ≤ m ∧ pre = xs.take k) m w := fun lp J Jx W hW hJ _ hY h0 =>
  steps1_in dec F n hF hro hn lp Bs n₀ A m c l xs hx hm J Jx (fun _ _ o hs => abides_alloc hJ o hs) hY W ((hW.cell (p := ⟨Bs, 0, none⟩) hBs).trans hc) (hf.below (hW.mono hn₀) (Nat.le_refl _)) (Nat.le_trans hn₀ hW.size) h0

set_option maxHeartbeats 1000000 in
theorem inOrder_any (A : Option Addr) (m c : Nat) (w : World) :
    Calls Try.prog 28 #[.slice A m c] w fun e w' => e = .returned (.func (.func 38) #[] #[.pointer (some ⟨w.heap.size, 0, none⟩)]) ∧ w.alloc (.cells #[.slice A m c] 23) = w' := by
  have hmf : ∀ (fn : Fn) (first cap : Array Value) (w : World), (Instr.makeFunc fn first cap).run Try.prog w = .ok (.func fn first cap) w := fun _ _ _ _ => rfl
  go_enter Try.func28, Try.ntmps28
  go_wp2
  go_ret
  exact ⟨rfl, rfl⟩
end Go.Proofs.Ytjcbhnbbhcfbiaa
