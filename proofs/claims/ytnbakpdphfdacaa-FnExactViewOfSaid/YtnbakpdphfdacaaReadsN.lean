/- What a reading of the arguments gives: nodes and chains as plain lists. -/
import Derived.Test.YtnbakpdphfdacaaReads
import Derived.Test.YtnbakpdphfdacaaNod
namespace Go.Proofs.Ytnbakpdphfdacaa
open Go.ChangeShapes Go.WideShapes Go.ChangeAt Go.RowKit Go.Deep

section
variable {H : Type} {enc : TypeId × Value → H} {P : Program} {W : World}
theorem trod_slice_flat {α : Type} {encE : α → List Value} {sz : Nat} (hsz : 0 < sz) (hs : ∀ x, (encE x).length = sz) {Q : α → Prop} {t e : TypeId} (ht : P.underlying t = some (.slice e)) (hE : P.cellsOf e = sz)
    (hel : ∀ n cs y, DataW.trod enc P W 0 (fun _ => true) true n e cs = some y → ∃ x, cs = encE x ∧ Q x)
    {fuel : Nat} {cs : List Value} {y : DataW H × List MemPlace} (hf : DataW.trod enc P W 0 (fun _ => true) true fuel t cs = some y) :
    ∃ A n c l, cs = [.slice A n c] ∧ Flat encE sz W 0 W.heap.size A n c l ∧ ∀ x ∈ l, Q x := by
  rcases open_slice ht hf with ⟨hcs, _⟩ | ⟨a, len, cap, m, k, D, Pl, hcs, _, hl, hm, hmm, _, hi⟩
  · exact ⟨none, 0, 0, [], hcs, Flat.nil_ _ _ _ _ _, fun _ h => by cases h⟩
  · have hm' : len ≤ m := by rw [hmm]; split <;> omega
    have each : ∀ i : Fin len, ∃ x, Q x ∧ ∀ j u, (encE x)[j]? = some u → W.cell? (a.add (i.1 * sz + j)) = some u := by
      intro i
      obtain ⟨cs', hc, ht'⟩ := hi i.1 (by omega)
      obtain ⟨x, rfl, hq⟩ := hel _ _ _ ht'
      rw [hE] at hc
      obtain ⟨_, _, hat⟩ := World.cells?_some hc
      refine ⟨x, hq, fun j u hu => ?_⟩
      have hj : j < sz := by
        have := (List.getElem?_eq_some_iff.1 hu).1
        rw [hs] at this; exact this
      rw [← Go.Deep.add_add, hat j hj, hu]
    obtain ⟨f, hfs⟩ := Classical.skolem.1 each
    refine ⟨some a, len, cap, List.ofFn f, hcs, ⟨by simp, hl, hm, fun hn => ?_⟩, fun x hx => ?_⟩
    · have hc0 : ∃ u, (encE (f ⟨0, hn⟩))[0]? = some u := by
        have : 0 < (encE (f ⟨0, hn⟩)).length := by rw [hs]; exact hsz
        exact ⟨_, List.getElem?_eq_getElem this⟩
      obtain ⟨u, hu⟩ := hc0
      have h0 := (hfs ⟨0, hn⟩).2 0 u hu
      simp only [Nat.zero_mul, Nat.add_zero, Addr.add, if_true] at h0
      obtain ⟨e1, e2⟩ := plain_addr h0
      refine ⟨a.block, a.off, by rw [← e1], Nat.zero_le _, e2, fun i x hx j u hu => ?_⟩
      have hin : i < len := by have := (List.getElem?_eq_some_iff.1 hx).1; simpa using this
      have hfx : f ⟨i, hin⟩ = x := by
        rw [List.getElem?_ofFn] at hx
        simpa [hin] using hx
      have := (hfs ⟨i, hin⟩).2 j u (by rw [hfx]; exact hu)
      rw [e1] at this
      simp only [Addr.add] at this
      split at this
      · rename_i hz
        have e : a.off + i * sz + j = a.off := by omega
        rw [e]; exact this
      · rw [show a.off + i * sz + j = a.off + (i * sz + j) from by omega]; exact this
    · obtain ⟨i, rfl⟩ := List.mem_ofFn.1 hx
      exact (hfs i).1
end

section
variable {H : Type} {enc : TypeId × Value → H} {W : World}
set_option maxRecDepth 100000 in
/-- a node's three cells, and its log -/
theorem trod_nod {n : Nat} {cs : List Value} {y : DataW H × List MemPlace} (hy : DataW.trod enc Try.prog W 0 (fun _ => true) true n 100 cs = some y) :
    ∃ r : RN, cs = r.enc ∧ ∃ l, Flat Upd.enc 2 W 0 W.heap.size r.A r.n r.c l := by
  have hC : Try.prog.cellsOf 100 = 3 := by kernel_rfl
  have hI : Try.prog.cellsOf 3 = 1 := by kernel_rfl
  have hU : Try.prog.cellsOf 98 = 1 := by kernel_rfl
  obtain ⟨xs, m, _, _, hlen, hxs, hf⟩ := DataW.trod_struct Try.underlying100 hy
  rw [hC] at hlen
  match cs, hlen with
  | [c0, c1, c2], _ =>
    have f0 : DataW.trod enc Try.prog W 0 (fun _ => true) true m 3 (List.take (Try.prog.cellsOf 3) (List.drop 0 [c0, c1, c2])) = xs[0]? := hf 0 _ rfl
    have f1 : DataW.trod enc Try.prog W 0 (fun _ => true) true m 98 (List.take (Try.prog.cellsOf 98) (List.drop 1 [c0, c1, c2])) = xs[1]? := hf 1 _ rfl
    have f2 : DataW.trod enc Try.prog W 0 (fun _ => true) true m 3 (List.take (Try.prog.cellsOf 3) (List.drop 2 [c0, c1, c2])) = xs[2]? := hf 2 _ rfl
    simp only [hI, hU, List.drop_zero, List.drop_succ_cons, List.take_succ_cons, List.take_zero] at f0 f1 f2
    obtain ⟨y0, e0⟩ : ∃ y, xs[0]? = some y := ⟨xs[0]'(by rw [hxs]; decide), List.getElem?_eq_getElem _⟩
    obtain ⟨y1, e1⟩ : ∃ y, xs[1]? = some y := ⟨xs[1]'(by rw [hxs]; decide), List.getElem?_eq_getElem _⟩
    obtain ⟨y2, e2⟩ : ∃ y, xs[2]? = some y := ⟨xs[2]'(by rw [hxs]; decide), List.getElem?_eq_getElem _⟩
    obtain ⟨a, ha, _⟩ := DataW.trod_int Try.underlying3 (f0.trans e0)
    obtain ⟨A, k, c, l, hl, hfl, _⟩ := trod_slice_flat (Q := fun _ => True) (by omega) Upd.len Try.underlying98 (by kernel_rfl) (fun n cs y hy => by
      obtain ⟨x, hx⟩ := trod_upd hy
      exact ⟨x, hx, trivial⟩) (f1.trans e1)
    obtain ⟨b, hb, _⟩ := DataW.trod_int Try.underlying3 (f2.trans e2)
    injection ha with ha _; injection hb with hb _; injection hl with hl _
    exact ⟨⟨a, A, k, c, b⟩, by rw [ha, hb, hl]; rfl, l, hfl⟩

set_option maxRecDepth 100000 in
theorem reads_node {v : Value} {d : DataW H} {p : List MemPlace} (hv : Value.okWide Try.prog W .any 0 100 v) (h : DataW.Trod enc Try.prog W 0 (fun _ => true) true 100 v d p) :
    ∃ id A n c done l, v = .agg #[.int .i64 id, .slice A n c, .int .i64 done] ∧ Flat Upd.enc 2 W 0 W.heap.size A n c l := by
  obtain ⟨cs, rfl, hcs⟩ := okWide_struct Try.underlying100 hv
  obtain ⟨m, hm⟩ := h
  obtain ⟨r, hr, l, hl⟩ := trod_nod hm
  refine ⟨r.id, r.A, r.n, r.c, r.done, l, ?_, hl⟩
  have e : cs.toList = r.enc := hr
  have : cs = r.enc.toArray := by rw [← e]
  rw [this]; rfl

set_option maxRecDepth 100000 in
theorem reads_chain {v : Value} {d : DataW H} {p : List MemPlace} (hv : Value.okWide Try.prog W .any 0 24 v) (h : DataW.Trod enc Try.prog W 0 (fun _ => true) true 24 v d p) :
    ∃ view A n c l, v = .agg #[.int .i64 view, .slice A n c] ∧ Nods W 0 W.heap.size A n c l := by
  obtain ⟨cs, rfl, hcs⟩ := okWide_struct Try.underlying24 hv
  obtain ⟨m, hm⟩ := h
  have hC : Try.prog.cellsOf 24 = 2 := by kernel_rfl
  have hI : Try.prog.cellsOf 3 = 1 := by kernel_rfl
  have hU : Try.prog.cellsOf 22 = 1 := by kernel_rfl
  have hm' : DataW.trod enc Try.prog W 0 (fun _ => true) true m 24 cs.toList = some (d, p) := hm
  obtain ⟨xs, m', _, _, hlen, hxs, hf⟩ := DataW.trod_struct Try.underlying24 hm'
  rw [hC] at hlen
  obtain ⟨L, hL⟩ : ∃ L, L = cs.toList := ⟨_, rfl⟩
  have hcs' : cs = L.toArray := by rw [hL]
  rw [← hL] at hlen hf
  subst hcs'
  match L, hlen with
  | [c0, c1], _ =>
    have f0 : DataW.trod enc Try.prog W 0 (fun _ => true) true m' 3 (List.take (Try.prog.cellsOf 3) (List.drop 0 [c0, c1])) = xs[0]? := hf 0 _ rfl
    have f1 : DataW.trod enc Try.prog W 0 (fun _ => true) true m' 22 (List.take (Try.prog.cellsOf 22) (List.drop 1 [c0, c1])) = xs[1]? := hf 1 _ rfl
    simp only [hI, hU, List.drop_zero, List.drop_succ_cons, List.take_succ_cons, List.take_zero] at f0 f1
    obtain ⟨y0, e0⟩ : ∃ y, xs[0]? = some y := ⟨xs[0]'(by rw [hxs]; decide), List.getElem?_eq_getElem _⟩
    obtain ⟨y1, e1⟩ : ∃ y, xs[1]? = some y := ⟨xs[1]'(by rw [hxs]; decide), List.getElem?_eq_getElem _⟩
    obtain ⟨a, ha, _⟩ := DataW.trod_int Try.underlying3 (f0.trans e0)
    obtain ⟨A, k, c, rs, hl, hfl, hq⟩ := trod_slice_flat (Q := fun r : RN => ∃ l, Flat Upd.enc 2 W 0 W.heap.size r.A r.n r.c l) (by omega) RN.len Try.underlying22 (by kernel_rfl) (fun n cs y hy => trod_nod hy) (f1.trans e1)
    injection ha with ha _; injection hl with hl _
    have each : ∀ i : Fin rs.length, ∃ l, Flat Upd.enc 2 W 0 W.heap.size rs[i].A rs[i].n rs[i].c l := fun i => hq _ (List.getElem_mem _)
    obtain ⟨g, hg⟩ := Classical.skolem.1 each
    refine ⟨a, A, k, c, List.ofFn fun i : Fin rs.length => (⟨rs[i].id, g i, rs[i].done⟩ : Nod), by rw [ha, hl], rs, hfl, by simp, fun i r x hr hx => ?_⟩
    have hi := (List.getElem?_eq_some_iff.1 hr).1
    have hri : rs[i] = r := by rw [List.getElem?_eq_getElem hi] at hr; injection hr
    rw [List.getElem?_ofFn] at hx
    simp only [hi, dif_pos] at hx
    injection hx with hx
    subst hx
    subst hri
    exact ⟨rfl, rfl, hg ⟨i, hi⟩⟩
end
end Go.Proofs.Ytnbakpdphfdacaa
