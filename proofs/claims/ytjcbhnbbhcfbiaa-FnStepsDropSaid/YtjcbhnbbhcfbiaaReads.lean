/- What a reading of the arguments gives: bytes, steps, calls, updates, nodes and chains as plain lists. -/
import Derived.Test.YtjcbhnbbhcfbiaaRows
import Derived.Test.YtjcbhnbbhcfbiaaRd
import Derived.ProofKit
import Derived.OpenShut
import Derived.ChangeOld
import Derived.Below
import Derived.Deep.Slices
namespace Go.Proofs.Ytjcbhnbbhcfbiaa
open Go.ChangeShapes Go.WideShapes Go.ChangeAt Go.RowKit Go.Deep

theorem ownK : ownKnob Try.prog.godebug = none := by kernel_rfl
theorem laidOut : laidOutB Try.prog = true := by kernel_rfl




section
variable {H : Type} {enc : TypeId × Value → H} {P : Program} {W : World}

/-- an address whose cells lie there is plain -/
theorem plain_addr {w : World} {a : Addr} {v : Value} (h : w.cell? a = some v) : a = ⟨a.block, a.off, none⟩ ∧ a.block < w.heap.size := by
  refine ⟨?_, block_lt_of_cell h⟩
  have := World.cell?_spot h
  cases a; simp_all

set_option maxRecDepth 100000 in
theorem reads_slice {α : Type} {encE : α → List Value} {sz : Nat} (hsz : 0 < sz) (hs : ∀ x, (encE x).length = sz) {Q : α → Prop} {t e : TypeId} (ht : P.underlying t = some (.slice e)) (hE : P.cellsOf e = sz)
    (hel : ∀ n cs y, DataW.trod enc P W 0 (fun _ => true) true n e cs = some y → ∃ x, cs = encE x ∧ Q x)
    {v : Value} {d : DataW H} {p : List MemPlace} (hv : Value.okWide P W .any 0 t v) (h : DataW.Trod enc P W 0 (fun _ => true) true t v d p) :
    ∃ A n c l, v = .slice A n c ∧ Flat encE sz W 0 W.heap.size A n c l ∧ ∀ x ∈ l, Q x := by
  obtain ⟨A, n, c, rfl⟩ := okWide_slice ht hv
  obtain ⟨fuel, hf⟩ := h
  rcases open_slice ht hf with ⟨hcs, _⟩ | ⟨a, len, cap, m, k, D, Pl, hcs, _, hl, hm, hmm, _, hi⟩
  · simp [Value.cells] at hcs
    obtain ⟨rfl, rfl, rfl⟩ := hcs
    exact ⟨none, 0, 0, [], rfl, Flat.nil_ _ _ _ _ _, fun _ h => by cases h⟩
  · simp [Value.cells] at hcs
    obtain ⟨rfl, rfl, rfl⟩ := hcs
    have hm' : n ≤ m := by rw [hmm]; split <;> omega
    have each : ∀ i : Fin n, ∃ x, Q x ∧ ∀ j u, (encE x)[j]? = some u → W.cell? (a.add (i.1 * sz + j)) = some u := by
      intro i
      obtain ⟨cs', hc, ht'⟩ := hi i.1 (by omega)
      obtain ⟨x, rfl, hq⟩ := hel _ _ _ ht'
      rw [hE] at hc
      obtain ⟨_, _, hat⟩ := World.cells?_some hc
      refine ⟨x, hq, fun j u hu => ?_⟩
      have hj : j < sz := by
        have := (List.getElem?_eq_some_iff.1 hu).1
        rw [hs] at this; exact this
      rw [← Go.Deep.add_add, hat j hj, hu]
    obtain ⟨f, hfs⟩ := Classical.skolem.1 each
    refine ⟨some a, n, c, List.ofFn f, rfl, ⟨by simp, hl, hm, fun hn => ?_⟩, fun x hx => ?_⟩
    · have hc0 : ∃ u, (encE (f ⟨0, hn⟩))[0]? = some u := by
        have : 0 < (encE (f ⟨0, hn⟩)).length := by rw [hs]; exact hsz
        exact ⟨_, List.getElem?_eq_getElem this⟩
      obtain ⟨u, hu⟩ := hc0
      have h0 := (hfs ⟨0, hn⟩).2 0 u hu
      simp only [Nat.zero_mul, Nat.add_zero, Addr.add, if_true] at h0
      obtain ⟨e1, e2⟩ := plain_addr h0
      refine ⟨a.block, a.off, by rw [← e1], Nat.zero_le _, e2, fun i x hx j u hu => ?_⟩
      have hin : i < n := by have := (List.getElem?_eq_some_iff.1 hx).1; simpa using this
      have hfx : f ⟨i, hin⟩ = x := by
        rw [List.getElem?_ofFn] at hx
        simpa [hin] using hx
      have := (hfs ⟨i, hin⟩).2 j u (by rw [hfx]; exact hu)
      rw [e1] at this
      simp only [Addr.add] at this
      split at this
      · rename_i hz
        have e : a.off + i * sz + j = a.off := by omega
        rw [e]; exact this
      · rw [show a.off + i * sz + j = a.off + (i * sz + j) from by omega]; exact this
    · obtain ⟨i, rfl⟩ := List.mem_ofFn.1 hx
      exact (hfs i).1
end

section
variable {H : Type} {enc : TypeId × Value → H} {W : World}
set_option maxRecDepth 100000 in
theorem reads_bytes {v : Value} {d : DataW H} {p : List MemPlace} (hv : Value.okWide Try.prog W .any 0 22 v) (h : DataW.Trod enc Try.prog W 0 (fun _ => true) true 22 v d p) :
    ∃ A n c l, v = .slice A n c ∧ Flat encU8 1 W 0 W.heap.size A n c l ∧ ∀ x ∈ l, 0 ≤ x ∧ x ≤ 255 :=
  reads_slice (by omega) encU8_len (Q := fun x => 0 ≤ x ∧ x ≤ 255) Try.underlying22 (by kernel_rfl) (fun n cs y hy => by
    obtain ⟨x, rfl, _, hw⟩ := DataW.trod_int Try.underlying5 hy
    exact ⟨x, rfl, bounds_u8 hw⟩) hv h

set_option maxRecDepth 100000 in
theorem trod_upd {n : Nat} {cs : List Value} {y : DataW H × List MemPlace} (hy : DataW.trod enc Try.prog W 0 (fun _ => true) true n 47 cs = some y) : ∃ x : Upd, cs = x.enc := by
  have hC : Try.prog.cellsOf 47 = 2 := by kernel_rfl
  have hI : Try.prog.cellsOf 3 = 1 := by kernel_rfl
  obtain ⟨xs, m, _, _, hlen, hxs, hf⟩ := DataW.trod_struct Try.underlying47 hy
  rw [hC] at hlen
  match cs, hlen with
  | [c0, c1], _ =>
    have f0 : DataW.trod enc Try.prog W 0 (fun _ => true) true m 3 (List.take (Try.prog.cellsOf 3) (List.drop 0 [c0, c1])) = xs[0]? := hf 0 _ rfl
    have f1 : DataW.trod enc Try.prog W 0 (fun _ => true) true m 3 (List.take (Try.prog.cellsOf 3) (List.drop 1 [c0, c1])) = xs[1]? := hf 1 _ rfl
    simp only [hI, List.drop_zero, List.drop_succ_cons, List.take_succ_cons, List.take_zero] at f0 f1
    obtain ⟨y0, e0⟩ : ∃ y, xs[0]? = some y := ⟨xs[0]'(by rw [hxs]; decide), List.getElem?_eq_getElem _⟩
    obtain ⟨y1, e1⟩ : ∃ y, xs[1]? = some y := ⟨xs[1]'(by rw [hxs]; decide), List.getElem?_eq_getElem _⟩
    obtain ⟨a, ha, _⟩ := DataW.trod_int Try.underlying3 (f0.trans e0)
    obtain ⟨b, hb, _⟩ := DataW.trod_int Try.underlying3 (f1.trans e1)
    injection ha with ha _; injection hb with hb _
    exact ⟨⟨a, b⟩, by rw [ha, hb]; rfl⟩

set_option maxRecDepth 100000 in
theorem trod_cll {n : Nat} {cs : List Value} {y : DataW H × List MemPlace} (hy : DataW.trod enc Try.prog W 0 (fun _ => true) true n 49 cs = some y) : ∃ x : Cll, cs = x.enc := by
  have hC : Try.prog.cellsOf 49 = 4 := by kernel_rfl
  have hI : Try.prog.cellsOf 3 = 1 := by kernel_rfl
  have hU : Try.prog.cellsOf 47 = 2 := by kernel_rfl
  obtain ⟨xs, m, _, _, hlen, hxs, hf⟩ := DataW.trod_struct Try.underlying49 hy
  rw [hC] at hlen
  match cs, hlen with
  | [c0, c1, c2, c3], _ =>
    have f0 : DataW.trod enc Try.prog W 0 (fun _ => true) true m 3 (List.take (Try.prog.cellsOf 3) (List.drop 0 [c0, c1, c2, c3])) = xs[0]? := hf 0 _ rfl
    have f1 : DataW.trod enc Try.prog W 0 (fun _ => true) true m 3 (List.take (Try.prog.cellsOf 3) (List.drop 1 [c0, c1, c2, c3])) = xs[1]? := hf 1 _ rfl
    have f2 : DataW.trod enc Try.prog W 0 (fun _ => true) true m 47 (List.take (Try.prog.cellsOf 47) (List.drop 2 [c0, c1, c2, c3])) = xs[2]? := hf 2 _ rfl
    simp only [hI, hU, List.drop_zero, List.drop_succ_cons, List.take_succ_cons, List.take_zero] at f0 f1 f2
    obtain ⟨y0, e0⟩ : ∃ y, xs[0]? = some y := ⟨xs[0]'(by rw [hxs]; decide), List.getElem?_eq_getElem _⟩
    obtain ⟨y1, e1⟩ : ∃ y, xs[1]? = some y := ⟨xs[1]'(by rw [hxs]; decide), List.getElem?_eq_getElem _⟩
    obtain ⟨y2, e2⟩ : ∃ y, xs[2]? = some y := ⟨xs[2]'(by rw [hxs]; decide), List.getElem?_eq_getElem _⟩
    obtain ⟨a, ha, _⟩ := DataW.trod_int Try.underlying3 (f0.trans e0)
    obtain ⟨b, hb, _⟩ := DataW.trod_int Try.underlying3 (f1.trans e1)
    obtain ⟨u, hu⟩ := trod_upd (f2.trans e2)
    injection ha with ha _; injection hb with hb _
    unfold Upd.enc at hu
    injection hu with hu1 hu2
    injection hu2 with hu2 _
    exact ⟨⟨a, b, u⟩, by rw [ha, hb, hu1, hu2]; rfl⟩

set_option maxRecDepth 100000 in
theorem reads_calls {v : Value} {d : DataW H} {p : List MemPlace} (hv : Value.okWide Try.prog W .any 0 29 v) (h : DataW.Trod enc Try.prog W 0 (fun _ => true) true 29 v d p) :
    ∃ A n c l, v = .slice A n c ∧ Flat Cll.enc 4 W 0 W.heap.size A n c l := by
  obtain ⟨A, n, c, l, e, hf, _⟩ := reads_slice (Q := fun _ => True) (by omega) Cll.len Try.underlying29 (by kernel_rfl) (fun n cs y hy => by
    obtain ⟨x, hx⟩ := trod_cll hy
    exact ⟨x, hx, trivial⟩) hv h
  exact ⟨A, n, c, l, e, hf⟩

end
end Go.Proofs.Ytjcbhnbbhcfbiaa
