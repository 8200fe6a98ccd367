/- The walk of a law on dropping a node (laws.FnDropRead): it returns true, and writes nothing that was there. -/
import Derived.Test.YtagejkfeceeifaaVar
import Derived.Test.YtagejkfeceeifaaDrawL
import Derived.Test.YtagejkfeceeifaaDropB
import Derived.Test.YtagejkfeceeifaaSameC
namespace Go.Proofs.Ytagejkfeceeifaa
open Go.RowKit Go.Sort

set_option maxRecDepth 100000 in
set_option maxHeartbeats 16000000 in
theorem dropRead_walk (A : Option Addr) (n c : Nat) (l : List Int) (w : World) (h : Flat encU8 1 w 0 w.heap.size A n c l) (hl : ∀ x ∈ l, 0 ≤ x ∧ x ≤ 255) :
    Calls Try.prog 13 #[.slice A n c] w fun e w' => e = .returned (.bool true) ∧ Below w.heap.size w w' := by
  have H := Lib.hid h
  have HL := Lib.hid hl
  clear h hl
  by_cases hn : 1048576 < n
  · go_enter Try.func13, Try.ntmps13
    go_wp2
    go_ret
    exact ⟨rfl, Below.refl _ _⟩
  go_enter Try.func13, Try.ntmps13
  go_wp2_with fail
  refine (drawChainDrop_any _ _ _ l _ H.out HL.out).mono ?_
  rintro e w1 ⟨view, A1, n1, c1, r, id, rfl, h1, h2, h3, h4, h6, hb1⟩
  obtain ⟨hn1, hl1⟩ := nods_ok h1 h3 h4
  have HG := Lib.hid hl1
  have M1 := Lib.hid h1
  have Vc := Lib.hid (Var.row h6 view)
  have HB := Lib.hid (hb1.alloc hb1.size (.cells #[.int .i64 view, .slice A1 n1 c1] 29))
  clear h1 h4 h6 hb1 H HL hl1
  obtain ⟨o, ho⟩ : ∃ o, dropM view r id = o := ⟨_, rfl⟩
  rcases o with _ | ⟨u, r2⟩
  · have HO := Lib.hid ho
    clear ho
    go_wp2_with fail
    refine (chainDrop_any view _ _ _ r id _ Vc.out.nods hn1 HG.out).mono ?_
    rintro e w2 hq
    obtain ⟨A2, c2, rfl, hq2, hb⟩ := hq.not HO.out
    clear hq
    have Nc := Lib.hid (Vc.out.on hb)
    have NB := Lib.hid (HB.out.trans (hb.mono HB.out.size))
    clear hb HB Vc
    have Vc := Lib.hid Nc.out
    clear Nc
    have HB := Lib.hid NB.out
    clear NB
    have fc0 := Vc.out.c0
    have fc1 := Vc.out.c1
    have fcl := Vc.out.lt
    have Nc := Lib.hid (Vc.out.alloc (.cells #[.int .i64 0, .slice A2 0 c2] 29))
    have No := Lib.hid (Var.new hq2 0)
    have NB := Lib.hid (HB.out.alloc HB.out.size (.cells #[.int .i64 0, .slice A2 0 c2] 29))
    clear hq2
    clear HB Vc
    have Vc := Lib.hid Nc.out
    clear Nc
    have Vo := Lib.hid No.out
    clear No
    have HB := Lib.hid NB.out
    clear NB
    go_wp2_with fail
    refine (specChainDrop_any view _ _ _ r id _ Vc.out.nods hn1 HG.out).mono ?_
    rintro e w3 hq
    obtain ⟨A3, c3, rfl, hq2, hb⟩ := hq.not HO.out
    clear hq
    clear fc0 fc1 fcl
    have Nc := Lib.hid (Vc.out.on hb)
    have No := Lib.hid (Vo.out.on hb)
    have NB := Lib.hid (HB.out.trans (hb.mono HB.out.size))
    clear hb HB Vc Vo
    have Vc := Lib.hid Nc.out
    clear Nc
    have Vo := Lib.hid No.out
    clear No
    have HB := Lib.hid NB.out
    clear NB
    have fc0 := Vc.out.c0
    have fc1 := Vc.out.c1
    have fcl := Vc.out.lt
    have fo0 := Vo.out.c0
    have fo1 := Vo.out.c1
    have fol := Vo.out.lt
    have Nc := Lib.hid (Vc.out.alloc (.cells #[.int .i64 0, .slice A3 0 c3] 29))
    have No := Lib.hid (Vo.out.alloc (.cells #[.int .i64 0, .slice A3 0 c3] 29))
    have Nw := Lib.hid (Var.new hq2 0)
    have NB := Lib.hid (HB.out.alloc HB.out.size (.cells #[.int .i64 0, .slice A3 0 c3] 29))
    clear hq2
    clear HB Vc Vo
    have Vc := Lib.hid Nc.out
    clear Nc
    have Vo := Lib.hid No.out
    clear No
    have Vw := Lib.hid Nw.out
    clear Nw
    have HB := Lib.hid NB.out
    clear NB
    go_wp2_with fail
    refine (sameChain_same 0 _ _ 0 _ _ [] _ Vo.out.nods Vw.out.nods (by omega) (fun x h => by cases h)).mono ?_
    rintro e w4 ⟨rfl, hb⟩
    clear fc0 fc1 fcl fo0 fo1 fol
    have Nc := Lib.hid (Vc.out.on hb)
    have No := Lib.hid (Vo.out.on hb)
    have Nw := Lib.hid (Vw.out.on hb)
    have NB := Lib.hid (HB.out.trans (hb.mono HB.out.size))
    clear hb HB Vc Vo Vw
    have Vc := Lib.hid Nc.out
    clear Nc
    have Vo := Lib.hid No.out
    clear No
    have Vw := Lib.hid Nw.out
    clear Nw
    have HB := Lib.hid NB.out
    clear NB
    have fc0 := Vc.out.c0
    have fc1 := Vc.out.c1
    have fcl := Vc.out.lt
    have fo0 := Vo.out.c0
    have fo1 := Vo.out.c1
    have fol := Vo.out.lt
    have fw0 := Vw.out.c0
    have fw1 := Vw.out.c1
    have fwl := Vw.out.lt
    go_wp2_with fail
    refine (sameChain_same 0 _ _ 0 _ _ [] _ Vo.out.nods Vw.out.nods (by omega) (fun x h => by cases h)).mono ?_
    rintro e w5 ⟨rfl, hb⟩
    clear fc0 fc1 fcl fo0 fo1 fol fw0 fw1 fwl
    have Nc := Lib.hid (Vc.out.on hb)
    have No := Lib.hid (Vo.out.on hb)
    have Nw := Lib.hid (Vw.out.on hb)
    have NB := Lib.hid (HB.out.trans (hb.mono HB.out.size))
    clear hb HB Vc Vo Vw
    have Vc := Lib.hid Nc.out
    clear Nc
    have Vo := Lib.hid No.out
    clear No
    have Vw := Lib.hid Nw.out
    clear Nw
    have HB := Lib.hid NB.out
    clear NB
    have fc0 := Vc.out.c0
    have fc1 := Vc.out.c1
    have fcl := Vc.out.lt
    have fo0 := Vo.out.c0
    have fo1 := Vo.out.c1
    have fol := Vo.out.lt
    have fw0 := Vw.out.c0
    have fw1 := Vw.out.c1
    have fwl := Vw.out.lt
    go_wp2
    go_ret
    exact ⟨rfl, HB.out⟩
  have HO := Lib.hid ho
  clear ho
  go_wp2_with fail
  refine (chainDrop_any view _ _ _ r id _ Vc.out.nods hn1 HG.out).mono ?_
  rintro e w2 hq
  obtain ⟨A2, n2, c2, rfl, hq1, hq2, hb⟩ := hq.yes HO.out
  clear hq
  have Mo := Lib.hid hq1
  clear hq1
  have Nc := Lib.hid (Vc.out.on hb)
  have NB := Lib.hid (HB.out.trans (hb.mono HB.out.size))
  clear hb HB Vc
  have Vc := Lib.hid Nc.out
  clear Nc
  have HB := Lib.hid NB.out
  clear NB
  have fc0 := Vc.out.c0
  have fc1 := Vc.out.c1
  have fcl := Vc.out.lt
  have Nc := Lib.hid (Vc.out.alloc (.cells #[.int .i64 u, .slice A2 n2 c2] 29))
  have No := Lib.hid (Var.new hq2 u)
  have NB := Lib.hid (HB.out.alloc HB.out.size (.cells #[.int .i64 u, .slice A2 n2 c2] 29))
  clear hq2
  clear HB Vc
  have Vc := Lib.hid Nc.out
  clear Nc
  have Vo := Lib.hid No.out
  clear No
  have HB := Lib.hid NB.out
  clear NB
  go_wp2_with fail
  refine (specChainDrop_any view _ _ _ r id _ Vc.out.nods hn1 HG.out).mono ?_
  rintro e w3 hq
  obtain ⟨A3, n3, c3, rfl, hq1, hq2, hb⟩ := hq.yes HO.out
  clear hq
  have Mw := Lib.hid hq1
  clear hq1
  clear fc0 fc1 fcl
  have Nc := Lib.hid (Vc.out.on hb)
  have No := Lib.hid (Vo.out.on hb)
  have NB := Lib.hid (HB.out.trans (hb.mono HB.out.size))
  clear hb HB Vc Vo
  have Vc := Lib.hid Nc.out
  clear Nc
  have Vo := Lib.hid No.out
  clear No
  have HB := Lib.hid NB.out
  clear NB
  have fc0 := Vc.out.c0
  have fc1 := Vc.out.c1
  have fcl := Vc.out.lt
  have fo0 := Vo.out.c0
  have fo1 := Vo.out.c1
  have fol := Vo.out.lt
  have Nc := Lib.hid (Vc.out.alloc (.cells #[.int .i64 u, .slice A3 n3 c3] 29))
  have No := Lib.hid (Vo.out.alloc (.cells #[.int .i64 u, .slice A3 n3 c3] 29))
  have Nw := Lib.hid (Var.new hq2 u)
  have NB := Lib.hid (HB.out.alloc HB.out.size (.cells #[.int .i64 u, .slice A3 n3 c3] 29))
  clear hq2
  obtain rfl : n3 = n2 := by rw [← Mo.out, ← Mw.out]
  clear HB Vc Vo
  have Vc := Lib.hid Nc.out
  clear Nc
  have Vo := Lib.hid No.out
  clear No
  have Vw := Lib.hid Nw.out
  clear Nw
  have HB := Lib.hid NB.out
  clear NB
  go_wp2_with fail
  have hgood := dropM_some HO.out
  have hok5 := good_ok hgood.2.2.2.2.choose_spec.2.2.1
  have HG2 := Lib.hid (show ∀ x ∈ r2, x.log.length ≤ 1048576 from fun x hx => by have := hok5.2 x hx; omega)
  have hn5 : n3 ≤ 5 := by have := hok5.1; have := Mo.out; omega
  have hn3 : n3 ≤ 1048576 := by omega
  clear hgood hok5
  refine (sameChain_same u _ _ n3 _ _ r2 _ Vo.out.nods Vw.out.nods hn3 HG2.out).mono ?_
  rintro e w4 ⟨rfl, hb⟩
  clear fc0 fc1 fcl fo0 fo1 fol
  have Nc := Lib.hid (Vc.out.on hb)
  have No := Lib.hid (Vo.out.on hb)
  have Nw := Lib.hid (Vw.out.on hb)
  have NB := Lib.hid (HB.out.trans (hb.mono HB.out.size))
  clear hb HB Vc Vo Vw
  have Vc := Lib.hid Nc.out
  clear Nc
  have Vo := Lib.hid No.out
  clear No
  have Vw := Lib.hid Nw.out
  clear Nw
  have HB := Lib.hid NB.out
  clear NB
  have fc0 := Vc.out.c0
  have fc1 := Vc.out.c1
  have fcl := Vc.out.lt
  have fo0 := Vo.out.c0
  have fo1 := Vo.out.c1
  have fol := Vo.out.lt
  have fw0 := Vw.out.c0
  have fw1 := Vw.out.c1
  have fwl := Vw.out.lt
  clear Vw Mw fw0 fw1 fwl
  have hs := dropM_some HO.out
  have gl := hs.1
  have gr := hs.2.2.2.2.choose_spec.2.2.1
  have p1 : 0 < n1 := by have := hs.2.2.2.1; have := M1.out; omega
  have gr1 := gr.2.2.1
  have p3 : 0 < n3 := by have := Mo.out; omega
  obtain ⟨x, A5, m5, c5, hx, hf, ht⟩ := tail_regrown (view := view) Vc.out.nods p1 hn1
  obtain ⟨y, A6, m6, c6, hy, hf', ht'⟩ := tail_regrown (view := u) Vo.out.nods p3 hn3
  have hm5 : m5 ≤ 1048576 := by have := hf.len; have := HG.out x (List.mem_of_getElem? hx); omega
  have hm6 : m6 ≤ 1048576 := by have := hf'.len; have := HG2.out y (List.mem_of_getElem? hy); omega
  have hpre := drop_tail HO.out (by rw [M1.out]; exact hx) (by rw [Mo.out]; exact hy)
  have tr := logBegins_iff.2 ⟨nodeOk_log' (gl.2.2.2.2.1 x (List.mem_of_getElem? hx)), nodeOk_log' (gr.2.2.2.2.1 y (List.mem_of_getElem? hy)), hpre.1⟩
  have T1 := Lib.hid ht
  have T2 := Lib.hid ht'
  have T3 := Lib.hid (show ∀ (q : Nat) (os : Array Obj), Calls Try.prog 37 #[.slice A5 m5 c5, .slice A6 m6 c6] (grow (redrawn w4 q) os) fun e w' => e = .returned (.bool true) ∧ Below (grow (redrawn w4 q) os).heap.size (grow (redrawn w4 q) os) w' from fun q os => by
    have hb := below_regrown w4 q os
    have hc := logBegins_any A5 A6 m5 c5 m6 c6 x.log y.log (grow (redrawn w4 q) os) (hf.on hb) (hf'.on hb) hm5 hm6
    rwa [tr] at hc)
  have d0 := cell_regrown fc0
  have d1 := cell_regrown fc1
  have d2 := cell_regrown fo0
  have d3 := cell_regrown fo1
  have nf := node_field1
  clear hs gl gr hx hf ht hy hf' ht' hpre tr gr1
  go_wp2_with fail
  refine wp_region_quiet_below (by kernel_rfl) (by kernel_rfl) ?_
  repeat (go_big_quiet_step ((first | (go_at_call 22; first | with_reducible exact Calls.regrown_of (T1.out _ _) | with_reducible exact Calls.regrown_of (T2.out _ _)) | (go_at_call 37; with_reducible exact Calls.regrown_of (T3.out _ _)))))
  refine wpQuiet_nil ?_
  intro w5 hw5
  have hb := Lib.hid (below_of_regrown hw5)
  clear hw5 d0 d1 d2 d3
  go_wp2
  go_ret
  exact ⟨rfl, HB.out.trans (hb.out.mono HB.out.size)⟩
end Go.Proofs.Ytagejkfeceeifaa
