/- Putting a new node in place of one that has failed: impl.ChainSwap, spec.ChainSwap. -/
import Derived.Test.YtnbakpdphfdacaaAddI
import Derived.Test.YtnbakpdphfdacaaDropB
import Derived.Test.YtnbakpdphfdacaaVar
namespace Go.Proofs.Ytnbakpdphfdacaa
open Go.RowKit

set_option maxRecDepth 100000 in
set_option maxHeartbeats 4000000 in
theorem chainSwap_any (view : Int) (A : Option Addr) (n c : Nat) (l : List Nod) (old id : Int) (w : World) (h : Nods w 0 w.heap.size A n c l) (hn : n ≤ 1048576) (hlog : ∀ x ∈ l, x.log.length ≤ 1048576) :
    Calls Try.prog 36 #[.agg #[.int .i64 view, .slice A n c], .int .i64 old, .int .i64 id] w (ChainRes w (swapM view l old id)) := by
  have HG := Lib.hid hlog
  have H0 := Lib.hid ((h.box (.cells #[.int .i64 view, .slice A n c] 33)).box (.cells #[.int .i64 0, .slice none 0 0] 33))
  have FIN := Lib.hid (res_fin w)
  clear h hlog
  obtain ⟨o, ho⟩ : ∃ o, dropM view l old = o := ⟨_, rfl⟩
  rcases o with _ | ⟨u, r⟩
  · have HO := Lib.hid ho
    have HT := Lib.hid (show swapM view l old id = none by unfold swapM; rw [ho])
    clear ho
    go_enter Try.func36, Try.ntmps36
    go_wp2_with fail
    refine (chainDrop_any view _ _ _ l old _ H0.out hn HG.out).mono ?_
    rintro e w1 hq
    obtain ⟨A1, c1, rfl, hq2, hb⟩ := hq.not HO.out
    obtain ⟨k0, k1, b1⟩ := two_blks hb
    have s1 := k1.lt
    have FF := Lib.hid (FIN.out w1 k1 b1)
    have z0 := k1.cell (i := 0) (v := .int .i64 0) rfl
    have z1 := k1.cell (i := 1) (v := .slice none 0 0) rfl
    have y0 := k1.free 0
    have y1 := k1.free 1
    clear hq hq2 hb k0 k1 b1
    go_wp2_with fail
    have hlt : w.heap.size + 1 < ((w1.setCell ⟨w.heap.size + 1, 0, none⟩ (.int .i64 0)).setCell ⟨w.heap.size + 1, 1, none⟩ (.slice none 0 0)).heap.size := by simpa [World.setCell] using s1
    have t0 := fun o => (World.cell?_of_block (w := (w1.setCell ⟨w.heap.size + 1, 0, none⟩ (.int .i64 0)).setCell ⟨w.heap.size + 1, 1, none⟩ (.slice none 0 0)) (a := ⟨w.heap.size + 1, 0, none⟩) (Below.heap_alloc _ o _ hlt)).trans FF.out.2.2.1.1
    have t1 := fun o => (World.cell?_of_block (w := (w1.setCell ⟨w.heap.size + 1, 0, none⟩ (.int .i64 0)).setCell ⟨w.heap.size + 1, 1, none⟩ (.slice none 0 0)) (a := ⟨w.heap.size + 1, 1, none⟩) (Below.heap_alloc _ o _ hlt)).trans FF.out.2.2.1.2
    exact bodyPost_ret (v := .tuple #[.agg #[.int .i64 0, .slice none 0 0], .bool false]) (by simp [results, Try.results36, go_sem, t0, t1]) rfl (by rw [HT.out]; exact ChainRes.none_ (FF.out.2.2.2.alloc (by omega) _))
  · have HO := Lib.hid ho
    have HT := Lib.hid (show swapM view l old id = addM u r id by unfold swapM; rw [ho])
    have gg := good_ok (dropM_good ho)
    have HG2 := Lib.hid (show ∀ x ∈ r, x.log.length ≤ 1048576 from fun x hx => by have := gg.2 x hx; omega)
    have hr5 := gg.1
    clear ho gg
    go_enter Try.func36, Try.ntmps36
    go_wp2_with fail
    refine (chainDrop_any view _ _ _ l old _ H0.out hn HG.out).mono ?_
    rintro e w1 hq
    obtain ⟨A1, n1, c1, rfl, hq1, hq2, hb⟩ := hq.yes HO.out
    obtain ⟨k0, k1, b1⟩ := two_blks hb
    have s1 := k1.lt
    have hn1 : n1 ≤ 1048576 := by omega
    have K1 := Lib.hid (k1.alloc (.cells #[.int .i64 u, .slice A1 n1 c1] 33))
    have B1 := Lib.hid (b1.alloc b1.size (.cells #[.int .i64 u, .slice A1 n1 c1] 33))
    have F1 := Lib.hid (hq2.box (.cells #[.int .i64 u, .slice A1 n1 c1] 33))
    clear hq hq1 hq2 hb k0 k1 b1
    go_wp2_with fail
    refine (chainAdd_any u _ _ _ r id _ F1.out hn1 HG2.out).mono ?_
    rintro e w2 ⟨v2, A2, n2, c2, l2, e2, rfl, hl2, hrow2, hb2⟩
    have k2 := K1.out.below hb2
    have z0 := k2.cell (i := 0) (v := .int .i64 0) rfl
    have z1 := k2.cell (i := 1) (v := .slice none 0 0) rfl
    have y0 := k2.free 0
    have y1 := k2.free 1
    have K2 := Lib.hid k2
    have B2 := Lib.hid (B1.out.trans (hb2.mono B1.out.size))
    have R2 := Lib.hid (hrow2.lower B1.out.size)
    have E2 := Lib.hid e2
    have L2 := Lib.hid hl2
    obtain ⟨t0, t1⟩ := two_stores _ (w.heap.size + 1) z0 z1
    have E := Lib.hid (And.intro t0 t1)
    clear e2 hl2 hrow2 hb2 k2 t0 t1
    go_wp2_with fail
    obtain ⟨t0, t1⟩ := E.out
    refine bodyPost_ret (v := .tuple #[.agg #[.int .i64 v2, .slice A2 n2 c2], .bool (addM u r id).isSome]) (by simp [results, Try.results36, go_sem, t0, t1]) rfl ?_
    rw [HT.out]
    have hs : w.heap.size ≤ w.heap.size + 1 := by omega
    refine ⟨v2, A2, n2, c2, l2, E2.out, rfl, L2.out, ?_, (B2.out.setCell (p := ⟨w.heap.size + 1, 0, none⟩) hs _).setCell (p := ⟨w.heap.size + 1, 1, none⟩) hs _⟩
    have hc : w2.heap[w.heap.size + 1]? = some (.cells #[.int .i64 0, .slice none 0 0] 33 (0, 0)) := K2.out
    refine (R2.out.keepT (fun k ds t hk ht => ?_)).mono (by simp [World.setCell])
    have hne : k ≠ w.heap.size + 1 := by
      rintro rfl
      have := blk_type hk hc
      rcases ht with rfl | rfl <;> exact absurd this (by decide)
    rw [Below.heap_setCell _ _ _ _ hne, Below.heap_setCell _ _ _ _ hne]

set_option maxRecDepth 100000 in
set_option maxHeartbeats 4000000 in
theorem specChainSwap_any (view : Int) (A : Option Addr) (n c : Nat) (l : List Nod) (old id : Int) (w : World) (h : Nods w 0 w.heap.size A n c l) (hn : n ≤ 1048576) (hlog : ∀ x ∈ l, x.log.length ≤ 1048576) :
    Calls Try.prog 35 #[.agg #[.int .i64 view, .slice A n c], .int .i64 old, .int .i64 id] w (ChainRes w (swapM view l old id)) := by
  have HG := Lib.hid hlog
  have H0 := Lib.hid ((h.box (.cells #[.int .i64 view, .slice A n c] 33)).box (.cells #[.int .i64 0, .slice none 0 0] 33))
  have FIN := Lib.hid (res_fin w)
  clear h hlog
  obtain ⟨o, ho⟩ : ∃ o, dropM view l old = o := ⟨_, rfl⟩
  rcases o with _ | ⟨u, r⟩
  · have HO := Lib.hid ho
    have HT := Lib.hid (show swapM view l old id = none by unfold swapM; rw [ho])
    clear ho
    go_enter Try.func35, Try.ntmps35
    go_wp2_with fail
    refine (specChainDrop_any view _ _ _ l old _ H0.out hn HG.out).mono ?_
    rintro e w1 hq
    obtain ⟨A1, c1, rfl, hq2, hb⟩ := hq.not HO.out
    obtain ⟨k0, k1, b1⟩ := two_blks hb
    have s1 := k1.lt
    have FF := Lib.hid (FIN.out w1 k1 b1)
    have z0 := k1.cell (i := 0) (v := .int .i64 0) rfl
    have z1 := k1.cell (i := 1) (v := .slice none 0 0) rfl
    have y0 := k1.free 0
    have y1 := k1.free 1
    clear hq hq2 hb k0 k1 b1
    go_wp2_with fail
    have hlt : w.heap.size + 1 < ((w1.setCell ⟨w.heap.size + 1, 0, none⟩ (.int .i64 0)).setCell ⟨w.heap.size + 1, 1, none⟩ (.slice none 0 0)).heap.size := by simpa [World.setCell] using s1
    have t0 := fun o => (World.cell?_of_block (w := (w1.setCell ⟨w.heap.size + 1, 0, none⟩ (.int .i64 0)).setCell ⟨w.heap.size + 1, 1, none⟩ (.slice none 0 0)) (a := ⟨w.heap.size + 1, 0, none⟩) (Below.heap_alloc _ o _ hlt)).trans FF.out.2.2.1.1
    have t1 := fun o => (World.cell?_of_block (w := (w1.setCell ⟨w.heap.size + 1, 0, none⟩ (.int .i64 0)).setCell ⟨w.heap.size + 1, 1, none⟩ (.slice none 0 0)) (a := ⟨w.heap.size + 1, 1, none⟩) (Below.heap_alloc _ o _ hlt)).trans FF.out.2.2.1.2
    exact bodyPost_ret (v := .tuple #[.agg #[.int .i64 0, .slice none 0 0], .bool false]) (by simp [results, Try.results35, go_sem, t0, t1]) rfl (by rw [HT.out]; exact ChainRes.none_ (FF.out.2.2.2.alloc (by omega) _))
  · have HO := Lib.hid ho
    have HT := Lib.hid (show swapM view l old id = addM u r id by unfold swapM; rw [ho])
    have gg := good_ok (dropM_good ho)
    have HG2 := Lib.hid (show ∀ x ∈ r, x.log.length ≤ 1048576 from fun x hx => by have := gg.2 x hx; omega)
    have hr5 := gg.1
    clear ho gg
    go_enter Try.func35, Try.ntmps35
    go_wp2_with fail
    refine (specChainDrop_any view _ _ _ l old _ H0.out hn HG.out).mono ?_
    rintro e w1 hq
    obtain ⟨A1, n1, c1, rfl, hq1, hq2, hb⟩ := hq.yes HO.out
    obtain ⟨k0, k1, b1⟩ := two_blks hb
    have s1 := k1.lt
    have hn1 : n1 ≤ 1048576 := by omega
    have K1 := Lib.hid (k1.alloc (.cells #[.int .i64 u, .slice A1 n1 c1] 33))
    have B1 := Lib.hid (b1.alloc b1.size (.cells #[.int .i64 u, .slice A1 n1 c1] 33))
    have F1 := Lib.hid (hq2.box (.cells #[.int .i64 u, .slice A1 n1 c1] 33))
    clear hq hq1 hq2 hb k0 k1 b1
    go_wp2_with fail
    refine (specChainAdd_any u _ _ _ r id _ F1.out hn1 HG2.out).mono ?_
    rintro e w2 ⟨v2, A2, n2, c2, l2, e2, rfl, hl2, hrow2, hb2⟩
    have k2 := K1.out.below hb2
    have z0 := k2.cell (i := 0) (v := .int .i64 0) rfl
    have z1 := k2.cell (i := 1) (v := .slice none 0 0) rfl
    have y0 := k2.free 0
    have y1 := k2.free 1
    have K2 := Lib.hid k2
    have B2 := Lib.hid (B1.out.trans (hb2.mono B1.out.size))
    have R2 := Lib.hid (hrow2.lower B1.out.size)
    have E2 := Lib.hid e2
    have L2 := Lib.hid hl2
    obtain ⟨t0, t1⟩ := two_stores _ (w.heap.size + 1) z0 z1
    have E := Lib.hid (And.intro t0 t1)
    clear e2 hl2 hrow2 hb2 k2 t0 t1
    go_wp2_with fail
    obtain ⟨t0, t1⟩ := E.out
    refine bodyPost_ret (v := .tuple #[.agg #[.int .i64 v2, .slice A2 n2 c2], .bool (addM u r id).isSome]) (by simp [results, Try.results35, go_sem, t0, t1]) rfl ?_
    rw [HT.out]
    have hs : w.heap.size ≤ w.heap.size + 1 := by omega
    refine ⟨v2, A2, n2, c2, l2, E2.out, rfl, L2.out, ?_, (B2.out.setCell (p := ⟨w.heap.size + 1, 0, none⟩) hs _).setCell (p := ⟨w.heap.size + 1, 1, none⟩) hs _⟩
    have hc : w2.heap[w.heap.size + 1]? = some (.cells #[.int .i64 0, .slice none 0 0] 33 (0, 0)) := K2.out
    refine (R2.out.keepT (fun k ds t hk ht => ?_)).mono (by simp [World.setCell])
    have hne : k ≠ w.heap.size + 1 := by
      rintro rfl
      have := blk_type hk hc
      rcases ht with rfl | rfl <;> exact absurd this (by decide)
    rw [Below.heap_setCell _ _ _ _ hne, Below.heap_setCell _ _ _ _ hne]

end Go.Proofs.Ytnbakpdphfdacaa
