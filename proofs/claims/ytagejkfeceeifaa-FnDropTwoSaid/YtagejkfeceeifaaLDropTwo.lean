/- The walk of a law on dropping a node (laws.FnDropTwo): it returns true, and writes nothing that was there. -/
import Derived.Test.YtagejkfeceeifaaVar
import Derived.Test.YtagejkfeceeifaaDrawL
import Derived.Test.YtagejkfeceeifaaDropB
import Derived.Test.YtagejkfeceeifaaSameC
namespace Go.Proofs.Ytagejkfeceeifaa
open Go.RowKit Go.Sort

set_option maxRecDepth 100000 in
set_option maxHeartbeats 16000000 in
theorem dropTwo_walk (A : Option Addr) (n c : Nat) (l : List Int) (w : World) (h : Flat encU8 1 w 0 w.heap.size A n c l) (hl : ∀ x ∈ l, 0 ≤ x ∧ x ≤ 255) :
    Calls Try.prog 12 #[.slice A n c] w fun e w' => e = .returned (.bool true) ∧ Below w.heap.size w w' := by
  have H := Lib.hid h
  have HL := Lib.hid hl
  clear h hl
  by_cases hn : 1048576 < n
  · go_enter Try.func12, Try.ntmps12
    go_wp2
    go_ret
    exact ⟨rfl, Below.refl _ _⟩
  go_enter Try.func12, Try.ntmps12
  go_wp2_with fail
  refine (drawChainDrop_any _ _ _ l _ H.out HL.out).mono ?_
  rintro e w1 ⟨view, A1, n1, c1, r, id, rfl, h1, h2, h3, h4, h6, hb1⟩
  obtain ⟨hn1, hl1⟩ := nods_ok h1 h3 h4
  have HG := Lib.hid hl1
  have M1 := Lib.hid h1
  have Vc := Lib.hid (Var.row h6 view)
  have HB := Lib.hid (hb1.alloc hb1.size (.cells #[.int .i64 view, .slice A1 n1 c1] 29))
  clear h1 h4 h6 hb1 H HL hl1
  obtain ⟨o, ho⟩ : ∃ o, dropM view r id = o := ⟨_, rfl⟩
  rcases o with _ | ⟨u, r2⟩
  · have HO := Lib.hid ho
    clear ho
    go_wp2_with fail
    refine (chainDrop_any view _ _ _ r id _ Vc.out.nods hn1 HG.out).mono ?_
    rintro e w2 hq
    obtain ⟨A2, c2, rfl, hq2, hb⟩ := hq.not HO.out
    clear hq
    have Nc := Lib.hid (Vc.out.on hb)
    have NB := Lib.hid (HB.out.trans (hb.mono HB.out.size))
    clear hb HB Vc
    have Vc := Lib.hid Nc.out
    clear Nc
    have HB := Lib.hid NB.out
    clear NB
    have fc0 := Vc.out.c0
    have fc1 := Vc.out.c1
    have fcl := Vc.out.lt
    have Nc := Lib.hid (Vc.out.alloc (.cells #[.int .i64 0, .slice A2 0 c2] 29))
    have No := Lib.hid (Var.new hq2 0)
    have NB := Lib.hid (HB.out.alloc HB.out.size (.cells #[.int .i64 0, .slice A2 0 c2] 29))
    clear hq2
    clear HB Vc
    have Vc := Lib.hid Nc.out
    clear Nc
    have Vo := Lib.hid No.out
    clear No
    have HB := Lib.hid NB.out
    clear NB
    go_wp2_with fail
    refine (specChainDrop_any view _ _ _ r id _ Vc.out.nods hn1 HG.out).mono ?_
    rintro e w3 hq
    obtain ⟨A3, c3, rfl, hq2, hb⟩ := hq.not HO.out
    clear hq
    clear fc0 fc1 fcl
    have Nc := Lib.hid (Vc.out.on hb)
    have No := Lib.hid (Vo.out.on hb)
    have NB := Lib.hid (HB.out.trans (hb.mono HB.out.size))
    clear hb HB Vc Vo
    have Vc := Lib.hid Nc.out
    clear Nc
    have Vo := Lib.hid No.out
    clear No
    have HB := Lib.hid NB.out
    clear NB
    have fc0 := Vc.out.c0
    have fc1 := Vc.out.c1
    have fcl := Vc.out.lt
    have fo0 := Vo.out.c0
    have fo1 := Vo.out.c1
    have fol := Vo.out.lt
    have Nc := Lib.hid (Vc.out.alloc (.cells #[.int .i64 0, .slice A3 0 c3] 29))
    have No := Lib.hid (Vo.out.alloc (.cells #[.int .i64 0, .slice A3 0 c3] 29))
    have Nw := Lib.hid (Var.new hq2 0)
    have NB := Lib.hid (HB.out.alloc HB.out.size (.cells #[.int .i64 0, .slice A3 0 c3] 29))
    clear hq2
    clear HB Vc Vo
    have Vc := Lib.hid Nc.out
    clear Nc
    have Vo := Lib.hid No.out
    clear No
    have Vw := Lib.hid Nw.out
    clear Nw
    have HB := Lib.hid NB.out
    clear NB
    go_wp2_with fail
    refine (sameChain_same 0 _ _ 0 _ _ [] _ Vo.out.nods Vw.out.nods (by omega) (fun x h => by cases h)).mono ?_
    rintro e w4 ⟨rfl, hb⟩
    clear fc0 fc1 fcl fo0 fo1 fol
    have Nc := Lib.hid (Vc.out.on hb)
    have No := Lib.hid (Vo.out.on hb)
    have Nw := Lib.hid (Vw.out.on hb)
    have NB := Lib.hid (HB.out.trans (hb.mono HB.out.size))
    clear hb HB Vc Vo Vw
    have Vc := Lib.hid Nc.out
    clear Nc
    have Vo := Lib.hid No.out
    clear No
    have Vw := Lib.hid Nw.out
    clear Nw
    have HB := Lib.hid NB.out
    clear NB
    have fc0 := Vc.out.c0
    have fc1 := Vc.out.c1
    have fcl := Vc.out.lt
    have fo0 := Vo.out.c0
    have fo1 := Vo.out.c1
    have fol := Vo.out.lt
    have fw0 := Vw.out.c0
    have fw1 := Vw.out.c1
    have fwl := Vw.out.lt
    go_wp2_with fail
    refine (sameChain_same 0 _ _ 0 _ _ [] _ Vo.out.nods Vw.out.nods (by omega) (fun x h => by cases h)).mono ?_
    rintro e w5 ⟨rfl, hb⟩
    clear fc0 fc1 fcl fo0 fo1 fol fw0 fw1 fwl
    have Nc := Lib.hid (Vc.out.on hb)
    have No := Lib.hid (Vo.out.on hb)
    have Nw := Lib.hid (Vw.out.on hb)
    have NB := Lib.hid (HB.out.trans (hb.mono HB.out.size))
    clear hb HB Vc Vo Vw
    have Vc := Lib.hid Nc.out
    clear Nc
    have Vo := Lib.hid No.out
    clear No
    have Vw := Lib.hid Nw.out
    clear Nw
    have HB := Lib.hid NB.out
    clear NB
    have fc0 := Vc.out.c0
    have fc1 := Vc.out.c1
    have fcl := Vc.out.lt
    have fo0 := Vo.out.c0
    have fo1 := Vo.out.c1
    have fol := Vo.out.lt
    have fw0 := Vw.out.c0
    have fw1 := Vw.out.c1
    have fwl := Vw.out.lt
    go_wp2
    go_ret
    exact ⟨rfl, HB.out⟩
  have HO := Lib.hid ho
  clear ho
  go_wp2_with fail
  refine (chainDrop_any view _ _ _ r id _ Vc.out.nods hn1 HG.out).mono ?_
  rintro e w2 hq
  obtain ⟨A2, n2, c2, rfl, hq1, hq2, hb⟩ := hq.yes HO.out
  clear hq
  have Mo := Lib.hid hq1
  clear hq1
  have Nc := Lib.hid (Vc.out.on hb)
  have NB := Lib.hid (HB.out.trans (hb.mono HB.out.size))
  clear hb HB Vc
  have Vc := Lib.hid Nc.out
  clear Nc
  have HB := Lib.hid NB.out
  clear NB
  have fc0 := Vc.out.c0
  have fc1 := Vc.out.c1
  have fcl := Vc.out.lt
  have Nc := Lib.hid (Vc.out.alloc (.cells #[.int .i64 u, .slice A2 n2 c2] 29))
  have No := Lib.hid (Var.new hq2 u)
  have NB := Lib.hid (HB.out.alloc HB.out.size (.cells #[.int .i64 u, .slice A2 n2 c2] 29))
  clear hq2
  clear HB Vc
  have Vc := Lib.hid Nc.out
  clear Nc
  have Vo := Lib.hid No.out
  clear No
  have HB := Lib.hid NB.out
  clear NB
  go_wp2_with fail
  refine (specChainDrop_any view _ _ _ r id _ Vc.out.nods hn1 HG.out).mono ?_
  rintro e w3 hq
  obtain ⟨A3, n3, c3, rfl, hq1, hq2, hb⟩ := hq.yes HO.out
  clear hq
  have Mw := Lib.hid hq1
  clear hq1
  clear fc0 fc1 fcl
  have Nc := Lib.hid (Vc.out.on hb)
  have No := Lib.hid (Vo.out.on hb)
  have NB := Lib.hid (HB.out.trans (hb.mono HB.out.size))
  clear hb HB Vc Vo
  have Vc := Lib.hid Nc.out
  clear Nc
  have Vo := Lib.hid No.out
  clear No
  have HB := Lib.hid NB.out
  clear NB
  have fc0 := Vc.out.c0
  have fc1 := Vc.out.c1
  have fcl := Vc.out.lt
  have fo0 := Vo.out.c0
  have fo1 := Vo.out.c1
  have fol := Vo.out.lt
  have Nc := Lib.hid (Vc.out.alloc (.cells #[.int .i64 u, .slice A3 n3 c3] 29))
  have No := Lib.hid (Vo.out.alloc (.cells #[.int .i64 u, .slice A3 n3 c3] 29))
  have Nw := Lib.hid (Var.new hq2 u)
  have NB := Lib.hid (HB.out.alloc HB.out.size (.cells #[.int .i64 u, .slice A3 n3 c3] 29))
  clear hq2
  obtain rfl : n3 = n2 := by rw [← Mo.out, ← Mw.out]
  clear HB Vc Vo
  have Vc := Lib.hid Nc.out
  clear Nc
  have Vo := Lib.hid No.out
  clear No
  have Vw := Lib.hid Nw.out
  clear Nw
  have HB := Lib.hid NB.out
  clear NB
  go_wp2_with fail
  have hgood := dropM_some HO.out
  have hok5 := good_ok hgood.2.2.2.2.choose_spec.2.2.1
  have HG2 := Lib.hid (show ∀ x ∈ r2, x.log.length ≤ 1048576 from fun x hx => by have := hok5.2 x hx; omega)
  have hn5 : n3 ≤ 5 := by have := hok5.1; have := Mo.out; omega
  have hn3 : n3 ≤ 1048576 := by omega
  clear hgood hok5
  refine (sameChain_same u _ _ n3 _ _ r2 _ Vo.out.nods Vw.out.nods hn3 HG2.out).mono ?_
  rintro e w4 ⟨rfl, hb⟩
  clear fc0 fc1 fcl fo0 fo1 fol
  have Nc := Lib.hid (Vc.out.on hb)
  have No := Lib.hid (Vo.out.on hb)
  have Nw := Lib.hid (Vw.out.on hb)
  have NB := Lib.hid (HB.out.trans (hb.mono HB.out.size))
  clear hb HB Vc Vo Vw
  have Vc := Lib.hid Nc.out
  clear Nc
  have Vo := Lib.hid No.out
  clear No
  have Vw := Lib.hid Nw.out
  clear Nw
  have HB := Lib.hid NB.out
  clear NB
  have fc0 := Vc.out.c0
  have fc1 := Vc.out.c1
  have fcl := Vc.out.lt
  have fo0 := Vo.out.c0
  have fo1 := Vo.out.c1
  have fol := Vo.out.lt
  have fw0 := Vw.out.c0
  have fw1 := Vw.out.c1
  have fwl := Vw.out.lt
  clear Vw Mw fw0 fw1 fwl
  have hs := dropM_some HO.out
  have p1 : 0 < n1 := by have := hs.2.2.2.1; have := M1.out; omega
  have p1' : (0 : Int) < (n1 : Int) := by omega
  clear hs
  obtain ⟨b, off, a, A5, m5, d5, hA, _, hbB, ha, ca, _, _, _⟩ := Vc.out.nods.nod (k := 0) p1
  subst hA
  have ca0 : w4.cell? ⟨b, off, none⟩ = some (.int .i64 a.id) := by simpa using ca
  have HA := Lib.hid ha
  clear ca ha
  by_cases hid : a.id = id
  · have hid' : (a.id == id) = true := by simp [hid]
    go_wp2
    go_ret
    exact ⟨rfl, HB.out⟩
  have hid' : (a.id == id) = false := by simp [hid]
  have HID := Lib.hid hid
  clear hid
  obtain ⟨o5, ho5⟩ : ∃ o5, dropM u r2 a.id = o5 := ⟨_, rfl⟩
  rcases o5 with _ | ⟨u5, r5⟩
  · have HO5 := Lib.hid ho5
    clear ho5
    go_wp2_with fail
    refine (chainDrop_any u _ _ _ r2 a.id _ Vo.out.nods hn3 HG2.out).mono ?_
    rintro e w5 hq
    obtain ⟨A5, c5, rfl, hq2, hb⟩ := hq.not HO5.out
    clear hq
    clear fc0 fc1 fcl fo0 fo1 fol
    have Nc := Lib.hid (Vc.out.on hb)
    have No := Lib.hid (Vo.out.on hb)
    have NB := Lib.hid (HB.out.trans (hb.mono HB.out.size))
    clear hb HB Vc Vo
    have Vc := Lib.hid Nc.out
    clear Nc
    have Vo := Lib.hid No.out
    clear No
    have HB := Lib.hid NB.out
    clear NB
    have fc0 := Vc.out.c0
    have fc1 := Vc.out.c1
    have fcl := Vc.out.lt
    have fo0 := Vo.out.c0
    have fo1 := Vo.out.c1
    have fol := Vo.out.lt
    have Nc := Lib.hid (Vc.out.alloc (.cells #[.int .i64 0, .slice A5 0 c5] 29))
    have No := Lib.hid (Vo.out.alloc (.cells #[.int .i64 0, .slice A5 0 c5] 29))
    have Nx := Lib.hid (Var.new hq2 0)
    have NB := Lib.hid (HB.out.alloc HB.out.size (.cells #[.int .i64 0, .slice A5 0 c5] 29))
    clear hq2
    clear HB Vc Vo
    have Vc := Lib.hid Nc.out
    clear Nc
    have Vo := Lib.hid No.out
    clear No
    have Vx := Lib.hid Nx.out
    clear Nx
    have HB := Lib.hid NB.out
    clear NB
    go_wp2_with fail
    refine (chainDrop_any view _ _ _ r a.id _ Vc.out.nods hn1 HG.out).mono ?_
    rintro e w6 hq
    obtain ⟨v6, A6, n6, c6, l6, b6, rfl, hq1, hn6, hg6, hq2, hb⟩ := hq.any (fun _ _ h => dropM_good h)
    have HG6 := Lib.hid hg6
    clear hq hq1 hg6
    clear fc0 fc1 fcl fo0 fo1 fol
    have Nc := Lib.hid (Vc.out.on hb)
    have No := Lib.hid (Vo.out.on hb)
    have Nx := Lib.hid (Vx.out.on hb)
    have NB := Lib.hid (HB.out.trans (hb.mono HB.out.size))
    clear hb HB Vc Vo Vx
    have Vc := Lib.hid Nc.out
    clear Nc
    have Vo := Lib.hid No.out
    clear No
    have Vx := Lib.hid Nx.out
    clear Nx
    have HB := Lib.hid NB.out
    clear NB
    have fc0 := Vc.out.c0
    have fc1 := Vc.out.c1
    have fcl := Vc.out.lt
    have fo0 := Vo.out.c0
    have fo1 := Vo.out.c1
    have fol := Vo.out.lt
    have fx0 := Vx.out.c0
    have fx1 := Vx.out.c1
    have fxl := Vx.out.lt
    have Nc := Lib.hid (Vc.out.alloc (.cells #[.int .i64 v6, .slice A6 n6 c6] 29))
    have No := Lib.hid (Vo.out.alloc (.cells #[.int .i64 v6, .slice A6 n6 c6] 29))
    have Nx := Lib.hid (Vx.out.alloc (.cells #[.int .i64 v6, .slice A6 n6 c6] 29))
    have Ny := Lib.hid (Var.new hq2 v6)
    have NB := Lib.hid (HB.out.alloc HB.out.size (.cells #[.int .i64 v6, .slice A6 n6 c6] 29))
    clear hq2
    clear HB Vc Vo Vx
    have Vc := Lib.hid Nc.out
    clear Nc
    have Vo := Lib.hid No.out
    clear No
    have Vx := Lib.hid Nx.out
    clear Nx
    have Vy := Lib.hid Ny.out
    clear Ny
    have HB := Lib.hid NB.out
    clear NB
    go_wp2_with fail
    refine (chainDrop_any v6 _ _ _ l6 id _ Vy.out.nods hn6 HG6.out).mono ?_
    rintro e w7 hq
    obtain ⟨v7, A7, n7, c7, l7, b7, rfl, hq1, hn7, hg7, hq2, hb⟩ := hq.any (fun _ _ h => dropM_good h)
    clear hq hq1 hg7
    clear fc0 fc1 fcl fo0 fo1 fol fx0 fx1 fxl
    have Nc := Lib.hid (Vc.out.on hb)
    have No := Lib.hid (Vo.out.on hb)
    have Nx := Lib.hid (Vx.out.on hb)
    have Ny := Lib.hid (Vy.out.on hb)
    have NB := Lib.hid (HB.out.trans (hb.mono HB.out.size))
    clear hb HB Vc Vo Vx Vy
    have Vc := Lib.hid Nc.out
    clear Nc
    have Vo := Lib.hid No.out
    clear No
    have Vx := Lib.hid Nx.out
    clear Nx
    have Vy := Lib.hid Ny.out
    clear Ny
    have HB := Lib.hid NB.out
    clear NB
    have fc0 := Vc.out.c0
    have fc1 := Vc.out.c1
    have fcl := Vc.out.lt
    have fo0 := Vo.out.c0
    have fo1 := Vo.out.c1
    have fol := Vo.out.lt
    have fx0 := Vx.out.c0
    have fx1 := Vx.out.c1
    have fxl := Vx.out.lt
    have fy0 := Vy.out.c0
    have fy1 := Vy.out.c1
    have fyl := Vy.out.lt
    have Nc := Lib.hid (Vc.out.alloc (.cells #[.int .i64 v7, .slice A7 n7 c7] 29))
    have No := Lib.hid (Vo.out.alloc (.cells #[.int .i64 v7, .slice A7 n7 c7] 29))
    have Nx := Lib.hid (Vx.out.alloc (.cells #[.int .i64 v7, .slice A7 n7 c7] 29))
    have Ny := Lib.hid (Vy.out.alloc (.cells #[.int .i64 v7, .slice A7 n7 c7] 29))
    have Nz := Lib.hid (Var.new hq2 v7)
    have NB := Lib.hid (HB.out.alloc HB.out.size (.cells #[.int .i64 v7, .slice A7 n7 c7] 29))
    clear hq2
    clear HB Vc Vo Vx Vy
    have Vc := Lib.hid Nc.out
    clear Nc
    have Vo := Lib.hid No.out
    clear No
    have Vx := Lib.hid Nx.out
    clear Nx
    have Vy := Lib.hid Ny.out
    clear Ny
    have Vz := Lib.hid Nz.out
    clear Nz
    have HB := Lib.hid NB.out
    clear NB
    go_wp2
    go_ret
    exact ⟨rfl, HB.out⟩
  have hy := drop_two' HA.out HO.out HID.out ho5
  obtain ⟨y, hy1, hy2⟩ := hy
  have gy := good_ok (dropM_good hy1)
  have gx := good_ok (dropM_good ho5)
  have HGY := Lib.hid (show ∀ x ∈ y, x.log.length ≤ 1048576 from fun x hx => by have := gy.2 x hx; omega)
  have HGX := Lib.hid (show ∀ x ∈ r5, x.log.length ≤ 1048576 from fun x hx => by have := gx.2 x hx; omega)
  have hy5 := gy.1
  have hx5 := gx.1
  have HO5 := Lib.hid ho5
  have HY1 := Lib.hid hy1
  have HY2 := Lib.hid hy2
  clear ho5 hy1 hy2 gy gx
  go_wp2_with fail
  refine (chainDrop_any u _ _ _ r2 a.id _ Vo.out.nods hn3 HG2.out).mono ?_
  rintro e w5 hq
  obtain ⟨A5, n5, c5, rfl, hq1, hq2, hb⟩ := hq.yes HO5.out
  clear hq
  have Mx := Lib.hid hq1
  clear hq1
  clear fc0 fc1 fcl fo0 fo1 fol
  have Nc := Lib.hid (Vc.out.on hb)
  have No := Lib.hid (Vo.out.on hb)
  have NB := Lib.hid (HB.out.trans (hb.mono HB.out.size))
  clear hb HB Vc Vo
  have Vc := Lib.hid Nc.out
  clear Nc
  have Vo := Lib.hid No.out
  clear No
  have HB := Lib.hid NB.out
  clear NB
  have fc0 := Vc.out.c0
  have fc1 := Vc.out.c1
  have fcl := Vc.out.lt
  have fo0 := Vo.out.c0
  have fo1 := Vo.out.c1
  have fol := Vo.out.lt
  have Nc := Lib.hid (Vc.out.alloc (.cells #[.int .i64 u5, .slice A5 n5 c5] 29))
  have No := Lib.hid (Vo.out.alloc (.cells #[.int .i64 u5, .slice A5 n5 c5] 29))
  have Nx := Lib.hid (Var.new hq2 u5)
  have NB := Lib.hid (HB.out.alloc HB.out.size (.cells #[.int .i64 u5, .slice A5 n5 c5] 29))
  clear hq2
  have hn5x : n5 ≤ 5 := by have := Mx.out; omega
  clear HB Vc Vo
  have Vc := Lib.hid Nc.out
  clear Nc
  have Vo := Lib.hid No.out
  clear No
  have Vx := Lib.hid Nx.out
  clear Nx
  have HB := Lib.hid NB.out
  clear NB
  go_wp2_with fail
  refine (chainDrop_any view _ _ _ r a.id _ Vc.out.nods hn1 HG.out).mono ?_
  rintro e w6 hq
  obtain ⟨A6, n6, c6, rfl, hq1, hq2, hb⟩ := hq.yes HY1.out
  clear hq
  have My := Lib.hid hq1
  clear hq1
  clear fc0 fc1 fcl fo0 fo1 fol
  have Nc := Lib.hid (Vc.out.on hb)
  have No := Lib.hid (Vo.out.on hb)
  have Nx := Lib.hid (Vx.out.on hb)
  have NB := Lib.hid (HB.out.trans (hb.mono HB.out.size))
  clear hb HB Vc Vo Vx
  have Vc := Lib.hid Nc.out
  clear Nc
  have Vo := Lib.hid No.out
  clear No
  have Vx := Lib.hid Nx.out
  clear Nx
  have HB := Lib.hid NB.out
  clear NB
  have fc0 := Vc.out.c0
  have fc1 := Vc.out.c1
  have fcl := Vc.out.lt
  have fo0 := Vo.out.c0
  have fo1 := Vo.out.c1
  have fol := Vo.out.lt
  have fx0 := Vx.out.c0
  have fx1 := Vx.out.c1
  have fxl := Vx.out.lt
  have Nc := Lib.hid (Vc.out.alloc (.cells #[.int .i64 u, .slice A6 n6 c6] 29))
  have No := Lib.hid (Vo.out.alloc (.cells #[.int .i64 u, .slice A6 n6 c6] 29))
  have Nx := Lib.hid (Vx.out.alloc (.cells #[.int .i64 u, .slice A6 n6 c6] 29))
  have Ny := Lib.hid (Var.new hq2 u)
  have NB := Lib.hid (HB.out.alloc HB.out.size (.cells #[.int .i64 u, .slice A6 n6 c6] 29))
  clear hq2
  have hn6y : n6 ≤ 5 := by have := My.out; omega
  clear HB Vc Vo Vx
  have Vc := Lib.hid Nc.out
  clear Nc
  have Vo := Lib.hid No.out
  clear No
  have Vx := Lib.hid Nx.out
  clear Nx
  have Vy := Lib.hid Ny.out
  clear Ny
  have HB := Lib.hid NB.out
  clear NB
  go_wp2_with fail
  refine (chainDrop_any u _ _ _ y id _ Vy.out.nods (by omega) HGY.out).mono ?_
  rintro e w7 hq
  obtain ⟨A7, n7, c7, rfl, hq1, hq2, hb⟩ := hq.yes HY2.out
  clear hq
  have Mz := Lib.hid hq1
  clear hq1
  clear fc0 fc1 fcl fo0 fo1 fol fx0 fx1 fxl
  have Nc := Lib.hid (Vc.out.on hb)
  have No := Lib.hid (Vo.out.on hb)
  have Nx := Lib.hid (Vx.out.on hb)
  have Ny := Lib.hid (Vy.out.on hb)
  have NB := Lib.hid (HB.out.trans (hb.mono HB.out.size))
  clear hb HB Vc Vo Vx Vy
  have Vc := Lib.hid Nc.out
  clear Nc
  have Vo := Lib.hid No.out
  clear No
  have Vx := Lib.hid Nx.out
  clear Nx
  have Vy := Lib.hid Ny.out
  clear Ny
  have HB := Lib.hid NB.out
  clear NB
  have fc0 := Vc.out.c0
  have fc1 := Vc.out.c1
  have fcl := Vc.out.lt
  have fo0 := Vo.out.c0
  have fo1 := Vo.out.c1
  have fol := Vo.out.lt
  have fx0 := Vx.out.c0
  have fx1 := Vx.out.c1
  have fxl := Vx.out.lt
  have fy0 := Vy.out.c0
  have fy1 := Vy.out.c1
  have fyl := Vy.out.lt
  have Nc := Lib.hid (Vc.out.alloc (.cells #[.int .i64 u5, .slice A7 n7 c7] 29))
  have No := Lib.hid (Vo.out.alloc (.cells #[.int .i64 u5, .slice A7 n7 c7] 29))
  have Nx := Lib.hid (Vx.out.alloc (.cells #[.int .i64 u5, .slice A7 n7 c7] 29))
  have Ny := Lib.hid (Vy.out.alloc (.cells #[.int .i64 u5, .slice A7 n7 c7] 29))
  have Nz := Lib.hid (Var.new hq2 u5)
  have NB := Lib.hid (HB.out.alloc HB.out.size (.cells #[.int .i64 u5, .slice A7 n7 c7] 29))
  clear hq2
  obtain rfl : n7 = n5 := by rw [← Mx.out, ← Mz.out]
  clear HB Vc Vo Vx Vy
  have Vc := Lib.hid Nc.out
  clear Nc
  have Vo := Lib.hid No.out
  clear No
  have Vx := Lib.hid Nx.out
  clear Nx
  have Vy := Lib.hid Ny.out
  clear Ny
  have Vz := Lib.hid Nz.out
  clear Nz
  have HB := Lib.hid NB.out
  clear NB
  go_wp2_with fail
  refine (sameChain_same u5 _ _ n7 _ _ r5 _ Vx.out.nods Vz.out.nods (by omega) HGX.out).mono ?_
  rintro e w8 ⟨rfl, hb⟩
  clear fc0 fc1 fcl fo0 fo1 fol fx0 fx1 fxl fy0 fy1 fyl
  have Nc := Lib.hid (Vc.out.on hb)
  have No := Lib.hid (Vo.out.on hb)
  have Nx := Lib.hid (Vx.out.on hb)
  have Ny := Lib.hid (Vy.out.on hb)
  have Nz := Lib.hid (Vz.out.on hb)
  have NB := Lib.hid (HB.out.trans (hb.mono HB.out.size))
  clear hb HB Vc Vo Vx Vy Vz
  have Vc := Lib.hid Nc.out
  clear Nc
  have Vo := Lib.hid No.out
  clear No
  have Vx := Lib.hid Nx.out
  clear Nx
  have Vy := Lib.hid Ny.out
  clear Ny
  have Vz := Lib.hid Nz.out
  clear Nz
  have HB := Lib.hid NB.out
  clear NB
  have fc0 := Vc.out.c0
  have fc1 := Vc.out.c1
  have fcl := Vc.out.lt
  have fo0 := Vo.out.c0
  have fo1 := Vo.out.c1
  have fol := Vo.out.lt
  have fx0 := Vx.out.c0
  have fx1 := Vx.out.c1
  have fxl := Vx.out.lt
  have fy0 := Vy.out.c0
  have fy1 := Vy.out.c1
  have fyl := Vy.out.lt
  have fz0 := Vz.out.c0
  have fz1 := Vz.out.c1
  have fzl := Vz.out.lt
  go_wp2
  go_ret
  exact ⟨rfl, HB.out⟩
end Go.Proofs.Ytagejkfeceeifaa
