/- Texts of this claim, joined: SSettle Reads. -/
import Derived.Test.YtemgilofjbnoaaaGreatDoorRows
import Derived.ProofKit
import Derived.OpenShut
import Derived.ChangeOld
import Derived.Below
import Derived.Deep.Slices
import Derived.Test.YtemgilofjbnoaaaGreatDoorVB2
import Derived.Test.YtemgilofjbnoaaaGreatDoorVB1
namespace Go.Proofs.YtemgilofjbnoaaaGreatDoor
open Go.RowKit Go.Sort
theorem way_some {v : Int} {l c r : List Nod} {k : Nat} (h : Way v l c k) (hs : stepL c = some r) : Way v l r (k + 1) := by
  obtain ⟨h1, h2, h3, h4, h5⟩ := h
  obtain ⟨a, b, d, e, f⟩ := stepL_some h1 hs
  exact ⟨a, f.trans h2, e.trans h3, d.trans h4, by omega⟩
theorem way_none {v : Int} {l c : List Nod} {k : Nat} (h : Way v l c k) (hs : stepL c = none) : c = settledM l ∧ k = pot l := by
  obtain ⟨h1, h2, h3, h4, h5⟩ := h
  obtain ⟨a, b⟩ := stepL_end h1 hs
  exact ⟨by rw [← h4, a], by omega⟩
set_option maxRecDepth 100000 in
set_option maxHeartbeats 8000000 in
theorem specChainSettle_any (view : Int) (A : Option Addr) (n c : Nat) (l : List Nod) (w : World) (h : Nods w 0 w.heap.size A n c l) (hn : n ≤ 1048576) (hlog : ∀ x ∈ l, x.log.length ≤ 1048576) :
    Calls Mo.prog 77 #[.agg #[.int .i64 view, .slice A n c]] w (SetRes w (settleM view l)) := by
  have HL := Lib.hid h.len
  have HG := Lib.hid hlog
  have H := Lib.hid h
  have H0 := Lib.hid ((h.box (.cells #[.int .i64 view, .slice A n c] 25)).box (.cells #[.int .i64 0, .slice none 0 0] 25))
  clear h hlog
  cases hok : chainOk view l
  · have HS := Lib.hid (show settleM view l = ((0, []), -1) by simp [settleM, hok])
    have HO := Lib.hid hok
    clear hok
    go_enter Mo.func77, Tryz.ntmps77
    go_wp2_with fail
    refine (specChainValid_any _ _ _ _ l _ H0.out hn HG.out).mono ?_
    rintro e w1 ⟨rfl, hb1⟩
    rw [HO.out]
    obtain ⟨_, k1, b1⟩ := box_res hb1
    have FF := Lib.hid (res_two (a := .int .i64 0) (b := .slice none 0 0) k1 (by omega) b1)
    obtain ⟨z0, z1, y0, y1⟩ := FF.out.1
    clear hb1 k1 b1
    go_wp2
    exact bodyPost_ret (v := .tuple #[.agg #[.int .i64 0, .slice none 0 0], .int .i64 (-1)]) (by simp [results, Tryz.results77, go_sem, FF.out.2.1.1, FF.out.2.1.2]) rfl ⟨0, none, 0, 0, [], by rw [HS.out], by rw [HS.out], rfl, NodRow.nil_ _ _ _, FF.out.2.2⟩
  · have hg := good_iff.1 hok
    have GG := Lib.hid hg
    have HS := Lib.hid (show settleM view l = ((view, settledM l), (pot l : Int)) by simp [settleM, hok])
    have HO := Lib.hid hok
    have hn5 : n ≤ 5 := by have := hg.2.2.2.1; have := HL.out; omega
    have hn1 : 1 ≤ n := by have := hg.2.2.1; have := HL.out; omega
    have hpot := pot_le hg
    clear hok hg
    go_enter Mo.func77, Tryz.ntmps77
    go_wp2_with fail
    refine (specChainValid_any _ _ _ _ l _ H0.out hn HG.out).mono ?_
    rintro e w1 ⟨rfl, hb1⟩
    rw [HO.out]
    obtain ⟨k0, k1, b1⟩ := box_res hb1
    have K0 := Lib.hid k0
    have K1 := Lib.hid k1
    have B1 := Lib.hid b1
    have F1 := Lib.hid (H.out.on b1)
    have q0 := k0.cell (i := 0) (v := .int .i64 view) rfl
    have q1 := k0.cell (i := 1) (v := .slice A n c) rfl
    have s1 := b1.size
    clear hb1 k0 k1 b1
    go_wp2_with fail
    refine (l4Copy_any view _ n c l _ F1.out hn HG.out).mono ?_
    rintro e w3 ⟨A3, n3, c3, rfl, hl3, hrow3, hb3⟩
    have hn3 : n3 = n := by rw [← hl3]; exact HL.out
    subst hn3
    have hK1 := K1.out.lt
    have cb := CB.made (view := view) (B1.out.trans (hb3.mono B1.out.size)) (hrow3.lower B1.out.size) (Oth.cons (Oth.nil _ _) (K1.out.below hb3) (by have := hb3.size; omega) (by decide))
    have CB4 := Lib.hid cb
    clear hrow3 hb3 cb q0 q1
    go_wp2_with fail
    go_loopw [5] (fun st wr => ∃ (k : Nat) (cl : List Nod) (nv : Value) (hi : Nat), st = .int .i64 (k : Int) ∧ Hid (Way view l cl k) ∧ CB w wr w3.heap.size view nv cl hi [(w.heap.size + 1, #[.int .i64 0, .slice none 0 0], 25)]) (fun st _ => 101 - (intOf st).toNat)
    case atStart => exact ⟨0, l, _, _, rfl, ⟨GG.out, rfl, rfl, rfl, by omega⟩, CB4.out⟩
    case round =>
      obtain ⟨k, cl, nv, hi, rfl, HW, hcb⟩ := hrel
      have CBR := Lib.hid hcb
      have hk65 : k ≤ 65 := by have := HW.out.2.2.2.2; omega
      have hk100 : (k : Int) ≤ 100 := by omega
      have hss : w3.heap.size < wr.heap.size := hcb.size
      have hgc := HW.out.1
      have hcl1 : 1 ≤ cl.length := hgc.2.2.1
      obtain ⟨gc, cc, rfl, _, _, _⟩ := hcb.row.form (by omega)
      have r0 := hcb.chn.cell (i := 0) (v := .int .i64 view) rfl
      have r1 := hcb.chn.cell (i := 1) (v := .slice (some ⟨gc, 0, none⟩) cl.length cc) rfl
      have NW := Lib.hid hcb.nods.2
      have HGC := Lib.hid hgc
      have hw1 : IntKind.i64.wrap ((k : Int) + 1) = (k : Int) + 1 := IntWalk.i64_in _ (by omega)
      clear hcb hgc CB4
      cases hst : stepL cl with
      | none =>
        have HST := Lib.hid hst
        clear hst
        go_wp2_with fail
        have D := l5Step_any view _ cl.length cc cl _ NW.out HGC.out
        rw [HST.out] at D
        refine D.mono ?_
        rintro e w6 ⟨v1, A1, n1, c1, l1, hv1, rfl, hl1, hr1, hb6⟩
        clear D
        have cb7 := CBR.out.below (hb6.alloc hb6.size (.cells #[.int .i64 v1, .slice A1 n1 c1] 25))
        obtain ⟨w7, hw7⟩ : ∃ w7 : World, w6.alloc (.cells #[.int .i64 v1, .slice A1 n1 c1] 25) = w7 := ⟨_, rfl⟩
        rw [hw7] at cb7
        obtain ⟨e1, e2⟩ := way_none HW.out HST.out
        subst e1; subst e2
        have t0 := cb7.chn.cell (i := 0) (v := .int .i64 view) rfl
        have t1 := cb7.chn.cell (i := 1) (v := .slice (some ⟨gc, 0, none⟩) (settledM l).length cc) rfl
        have FF := Lib.hid (res_two (a := .int .i64 view) (b := .slice (some ⟨gc, 0, none⟩) (settledM l).length cc) (cb7.blk (List.mem_singleton.2 rfl)) (show w.heap.size ≤ w.heap.size + 1 by omega) cb7.bel)
        have NN := Lib.hid (cb7.out (u := .int .i64 view) (v := .slice (some ⟨gc, 0, none⟩) (settledM l).length cc) (cb7.blk (List.mem_singleton.2 rfl)) (show w.heap.size ≤ w.heap.size + 1 by omega))
        obtain ⟨z0, z1, y0, y1⟩ := FF.out.1
        clear cb7 hr1 hb6 hv1 hl1 r0 r1
        go_wp2
        exact bodyPost_ret (v := .tuple #[.agg #[.int .i64 view, .slice (some ⟨gc, 0, none⟩) (settledM l).length cc], .int .i64 (pot l)]) (by simp [results, Tryz.results77, go_sem, FF.out.2.1.1, FF.out.2.1.2]) rfl ⟨view, _, _, cc, settledM l, by rw [HS.out], by rw [HS.out], rfl, NN.out.1, NN.out.2⟩
      | some r =>
        have HST := Lib.hid hst
        clear hst
        go_wp2_with fail
        have D := l5Step_any view _ cl.length cc cl _ NW.out HGC.out
        rw [HST.out] at D
        refine D.mono ?_
        rintro e w6 ⟨v1, A1, n1, c1, l1, hv1, rfl, hl1, hr1, hb6⟩
        clear D
        have e1 : v1 = view ∧ l1 = r := by
          have : (v1, l1) = (view, r) := hv1
          injection this with a b
          exact ⟨a, b⟩
        obtain ⟨rfl, rfl⟩ := e1
        have nb := Blk.new w6 #[.int .i64 v1, .slice A1 n1 c1] 25
        have hr7 := (hr1.keep (w' := w6.alloc (.cells #[.int .i64 v1, .slice A1 n1 c1] 25)) (fun _ _ h => Below.heap_alloc _ _ _ h)).mono (show w6.heap.size ≤ (w6.alloc (.cells #[.int .i64 v1, .slice A1 n1 c1] 25)).heap.size by simp)
        have cb7 := CBR.out.below (hb6.alloc hb6.size (.cells #[.int .i64 v1, .slice A1 n1 c1] 25))
        obtain ⟨w7, hw7⟩ : ∃ w7 : World, w6.alloc (.cells #[.int .i64 v1, .slice A1 n1 c1] 25) = w7 := ⟨_, rfl⟩
        rw [hw7] at nb hr7 cb7
        have cb8 := cb7.restored (v1 := v1) hr7 CBR.out.bel.size
        have t0 := nb.cell (i := 0) (v := .int .i64 v1) rfl
        have t1 := nb.cell (i := 1) (v := .slice A1 n1 c1) rfl
        have u0 := cb7.chn.cell (i := 0) (v := .int .i64 v1) rfl
        have u1 := cb7.chn.cell (i := 1) (v := .slice (some ⟨gc, 0, none⟩) cl.length cc) rfl
        have f0 := cb7.chn.free 0
        have f1 := cb7.chn.free 1
        have CB8 := Lib.hid cb8
        clear hr1 hb6 nb hr7 cb7 cb8 r0 r1 hl1 hv1
        go_wp2
        refine ⟨⟨k + 1, l1, _, _, by go_num, way_some HW.out HST.out, CB8.out⟩, ?_⟩
        simp [intOf]; omega
end Go.Proofs.YtemgilofjbnoaaaGreatDoor
namespace Go.Proofs.YtemgilofjbnoaaaGreatDoor
open Go.ChangeShapes Go.WideShapes Go.ChangeAt Go.RowKit Go.Deep
theorem ownK : ownKnob Tryz.prog.godebug = none := by kernel_rfl
theorem laidOut : laidOutB Tryz.prog = true := by kernel_rfl
section
variable {H : Type} {enc : TypeId × Value → H} {P : Program} {W : World}
theorem plain_addr {w : World} {a : Addr} {v : Value} (h : w.cell? a = some v) : a = ⟨a.block, a.off, none⟩ ∧ a.block < w.heap.size := by
  refine ⟨?_, block_lt_of_cell h⟩
  have := World.cell?_spot h
  cases a; simp_all
set_option maxRecDepth 100000 in
theorem reads_slice {α : Type} {encE : α → List Value} {sz : Nat} (hsz : 0 < sz) (hs : ∀ x, (encE x).length = sz) {Q : α → Prop} {t e : TypeId} (ht : P.underlying t = some (.slice e)) (hE : P.cellsOf e = sz)
    (hel : ∀ n cs y, DataW.trod enc P W 0 (fun _ => true) true n e cs = some y → ∃ x, cs = encE x ∧ Q x)
    {v : Value} {d : DataW H} {p : List MemPlace} (hv : Value.okWide P W .any 0 t v) (h : DataW.Trod enc P W 0 (fun _ => true) true t v d p) :
    ∃ A n c l, v = .slice A n c ∧ Flat encE sz W 0 W.heap.size A n c l ∧ ∀ x ∈ l, Q x := by
  obtain ⟨A, n, c, rfl⟩ := okWide_slice ht hv
  obtain ⟨fuel, hf⟩ := h
  rcases open_slice ht hf with ⟨hcs, _⟩ | ⟨a, len, cap, m, k, D, Pl, hcs, _, hl, hm, hmm, _, hi⟩
  · simp [Value.cells] at hcs
    obtain ⟨rfl, rfl, rfl⟩ := hcs
    exact ⟨none, 0, 0, [], rfl, Flat.nil_ _ _ _ _ _, fun _ h => by cases h⟩
  · simp [Value.cells] at hcs
    obtain ⟨rfl, rfl, rfl⟩ := hcs
    have hm' : n ≤ m := by rw [hmm]; split <;> omega
    have each : ∀ i : Fin n, ∃ x, Q x ∧ ∀ j u, (encE x)[j]? = some u → W.cell? (a.add (i.1 * sz + j)) = some u := by
      intro i
      obtain ⟨cs', hc, ht'⟩ := hi i.1 (by omega)
      obtain ⟨x, rfl, hq⟩ := hel _ _ _ ht'
      rw [hE] at hc
      obtain ⟨_, _, hat⟩ := World.cells?_some hc
      refine ⟨x, hq, fun j u hu => ?_⟩
      have hj : j < sz := by
        have := (List.getElem?_eq_some_iff.1 hu).1
        rw [hs] at this; exact this
      rw [← Go.Deep.add_add, hat j hj, hu]
    obtain ⟨f, hfs⟩ := Classical.skolem.1 each
    refine ⟨some a, n, c, List.ofFn f, rfl, ⟨by simp, hl, hm, fun hn => ?_⟩, fun x hx => ?_⟩
    · have hc0 : ∃ u, (encE (f ⟨0, hn⟩))[0]? = some u := by
        have : 0 < (encE (f ⟨0, hn⟩)).length := by rw [hs]; exact hsz
        exact ⟨_, List.getElem?_eq_getElem this⟩
      obtain ⟨u, hu⟩ := hc0
      have h0 := (hfs ⟨0, hn⟩).2 0 u hu
      simp only [Nat.zero_mul, Nat.add_zero, Addr.add, if_true] at h0
      obtain ⟨e1, e2⟩ := plain_addr h0
      refine ⟨a.block, a.off, by rw [← e1], Nat.zero_le _, e2, fun i x hx j u hu => ?_⟩
      have hin : i < n := by have := (List.getElem?_eq_some_iff.1 hx).1; simpa using this
      have hfx : f ⟨i, hin⟩ = x := by
        rw [List.getElem?_ofFn] at hx
        simpa [hin] using hx
      have := (hfs ⟨i, hin⟩).2 j u (by rw [hfx]; exact hu)
      rw [e1] at this
      simp only [Addr.add] at this
      split at this
      · rename_i hz
        have e : a.off + i * sz + j = a.off := by omega
        rw [e]; exact this
      · rw [show a.off + i * sz + j = a.off + (i * sz + j) from by omega]; exact this
    · obtain ⟨i, rfl⟩ := List.mem_ofFn.1 hx
      exact (hfs i).1
end
section
variable {H : Type} {enc : TypeId × Value → H} {W : World}
set_option maxRecDepth 100000 in
theorem reads_bytes {v : Value} {d : DataW H} {p : List MemPlace} (hv : Value.okWide Tryz.prog W .any 0 22 v) (h : DataW.Trod enc Tryz.prog W 0 (fun _ => true) true 22 v d p) :
    ∃ A n c l, v = .slice A n c ∧ Flat encU8 1 W 0 W.heap.size A n c l ∧ ∀ x ∈ l, 0 ≤ x ∧ x ≤ 255 :=
  reads_slice (by omega) encU8_len (Q := fun x => 0 ≤ x ∧ x ≤ 255) Tryz.underlying22 (by kernel_rfl) (fun n cs y hy => by
    obtain ⟨x, rfl, _, hw⟩ := DataW.trod_int Tryz.underlying5 hy
    exact ⟨x, rfl, bounds_u8 hw⟩) hv h
end
end Go.Proofs.YtemgilofjbnoaaaGreatDoor
