/- The walk of a law on swapping a node (laws.FnSwap): it returns true, and writes nothing that was there. -/
import Derived.Test.YtilfomfcfpccdaaVar
import Derived.Test.YtilfomfcfpccdaaDrawSW
import Derived.Test.YtilfomfcfpccdaaSwap
import Derived.Test.YtilfomfcfpccdaaSameC
namespace Go.Proofs.Ytilfomfcfpccdaa
open Go.RowKit Go.Sort

set_option maxRecDepth 100000 in
set_option maxHeartbeats 16000000 in
theorem swap_walk (A : Option Addr) (n c : Nat) (l : List Int) (w : World) (h : Flat encU8 1 w 0 w.heap.size A n c l) (hl : ∀ x ∈ l, 0 ≤ x ∧ x ≤ 255) :
    Calls Try.prog 12 #[.slice A n c] w fun e w' => e = .returned (.bool true) ∧ Below w.heap.size w w' := by
  have H := Lib.hid h
  have HL := Lib.hid hl
  clear h hl
  by_cases hn : 1048576 < n
  · go_enter Try.func12, Try.ntmps12
    go_wp2
    go_ret
    exact ⟨rfl, Below.refl _ _⟩
  go_enter Try.func12, Try.ntmps12
  go_wp2_with fail
  refine (drawChainSwap_any _ _ _ l _ H.out HL.out).mono ?_
  rintro e w1 ⟨view, A1, n1, c1, r, old, id, rfl, h1, h2, h3, h4, h6, hb1⟩
  obtain ⟨hn1, hl1⟩ := nods_ok h1 h3 h4
  have HG := Lib.hid hl1
  have M1 := Lib.hid h1
  have Vc := Lib.hid (Var.row h6 view)
  have HB := Lib.hid (hb1.alloc hb1.size (.cells #[.int .i64 view, .slice A1 n1 c1] 25))
  clear h1 h4 h6 hb1 H HL hl1
  obtain ⟨o, ho⟩ : ∃ o, swapM view r old id = o := ⟨_, rfl⟩
  rcases o with _ | ⟨u, r2⟩
  · have HO := Lib.hid ho
    clear ho
    go_wp2_with fail
    refine (chainSwap_any view _ _ _ r old id _ Vc.out.nods hn1 HG.out).mono ?_
    rintro e w2 hq
    obtain ⟨A2, c2, rfl, hq2, hb⟩ := hq.not HO.out
    clear hq
    have Nc := Lib.hid (Vc.out.on hb)
    have NB := Lib.hid (HB.out.trans (hb.mono HB.out.size))
    clear hb HB Vc
    have Vc := Lib.hid Nc.out
    clear Nc
    have HB := Lib.hid NB.out
    clear NB
    have fc0 := Vc.out.c0
    have fc1 := Vc.out.c1
    have fcl := Vc.out.lt
    have Nc := Lib.hid (Vc.out.alloc (.cells #[.int .i64 0, .slice A2 0 c2] 25))
    have No := Lib.hid (Var.new hq2 0)
    have NB := Lib.hid (HB.out.alloc HB.out.size (.cells #[.int .i64 0, .slice A2 0 c2] 25))
    clear hq2
    clear HB Vc
    have Vc := Lib.hid Nc.out
    clear Nc
    have Vo := Lib.hid No.out
    clear No
    have HB := Lib.hid NB.out
    clear NB
    go_wp2_with fail
    refine (specChainSwap_any view _ _ _ r old id _ Vc.out.nods hn1 HG.out).mono ?_
    rintro e w3 hq
    obtain ⟨A3, c3, rfl, hq2, hb⟩ := hq.not HO.out
    clear hq
    clear fc0 fc1 fcl
    have Nc := Lib.hid (Vc.out.on hb)
    have No := Lib.hid (Vo.out.on hb)
    have NB := Lib.hid (HB.out.trans (hb.mono HB.out.size))
    clear hb HB Vc Vo
    have Vc := Lib.hid Nc.out
    clear Nc
    have Vo := Lib.hid No.out
    clear No
    have HB := Lib.hid NB.out
    clear NB
    have fc0 := Vc.out.c0
    have fc1 := Vc.out.c1
    have fcl := Vc.out.lt
    have fo0 := Vo.out.c0
    have fo1 := Vo.out.c1
    have fol := Vo.out.lt
    have Nc := Lib.hid (Vc.out.alloc (.cells #[.int .i64 0, .slice A3 0 c3] 25))
    have No := Lib.hid (Vo.out.alloc (.cells #[.int .i64 0, .slice A3 0 c3] 25))
    have Nw := Lib.hid (Var.new hq2 0)
    have NB := Lib.hid (HB.out.alloc HB.out.size (.cells #[.int .i64 0, .slice A3 0 c3] 25))
    clear hq2
    clear HB Vc Vo
    have Vc := Lib.hid Nc.out
    clear Nc
    have Vo := Lib.hid No.out
    clear No
    have Vw := Lib.hid Nw.out
    clear Nw
    have HB := Lib.hid NB.out
    clear NB
    go_wp2_with fail
    refine (sameChain_same 0 _ _ 0 _ _ [] _ Vo.out.nods Vw.out.nods (by omega) (fun x h => by cases h)).mono ?_
    rintro e w4 ⟨rfl, hb⟩
    clear fc0 fc1 fcl fo0 fo1 fol
    have Nc := Lib.hid (Vc.out.on hb)
    have No := Lib.hid (Vo.out.on hb)
    have Nw := Lib.hid (Vw.out.on hb)
    have NB := Lib.hid (HB.out.trans (hb.mono HB.out.size))
    clear hb HB Vc Vo Vw
    have Vc := Lib.hid Nc.out
    clear Nc
    have Vo := Lib.hid No.out
    clear No
    have Vw := Lib.hid Nw.out
    clear Nw
    have HB := Lib.hid NB.out
    clear NB
    have fc0 := Vc.out.c0
    have fc1 := Vc.out.c1
    have fcl := Vc.out.lt
    have fo0 := Vo.out.c0
    have fo1 := Vo.out.c1
    have fol := Vo.out.lt
    have fw0 := Vw.out.c0
    have fw1 := Vw.out.c1
    have fwl := Vw.out.lt
    go_wp2_with fail
    refine (sameChain_same 0 _ _ 0 _ _ [] _ Vo.out.nods Vw.out.nods (by omega) (fun x h => by cases h)).mono ?_
    rintro e w5 ⟨rfl, hb⟩
    clear fc0 fc1 fcl fo0 fo1 fol fw0 fw1 fwl
    have Nc := Lib.hid (Vc.out.on hb)
    have No := Lib.hid (Vo.out.on hb)
    have Nw := Lib.hid (Vw.out.on hb)
    have NB := Lib.hid (HB.out.trans (hb.mono HB.out.size))
    clear hb HB Vc Vo Vw
    have Vc := Lib.hid Nc.out
    clear Nc
    have Vo := Lib.hid No.out
    clear No
    have Vw := Lib.hid Nw.out
    clear Nw
    have HB := Lib.hid NB.out
    clear NB
    have fc0 := Vc.out.c0
    have fc1 := Vc.out.c1
    have fcl := Vc.out.lt
    have fo0 := Vo.out.c0
    have fo1 := Vo.out.c1
    have fol := Vo.out.lt
    have fw0 := Vw.out.c0
    have fw1 := Vw.out.c1
    have fwl := Vw.out.lt
    go_wp2
    go_ret
    exact ⟨rfl, HB.out⟩
  obtain ⟨ud, rd, hd, ha⟩ : ∃ ud rd, dropM view r old = some (ud, rd) ∧ addM ud rd id = some (u, r2) := by
    unfold swapM at ho
    cases hd : dropM view r old with
    | none => rw [hd] at ho; cases ho
    | some p => rw [hd] at ho; exact ⟨p.1, p.2, rfl, ho⟩
  have HO := Lib.hid ho
  have HD := Lib.hid hd
  have HA := Lib.hid ha
  have gd := good_ok (dropM_good hd)
  have ga := good_ok (addM_good ha)
  have HGD := Lib.hid (show ∀ x ∈ rd, x.log.length ≤ 1048576 from fun x hx => by have := gd.2 x hx; omega)
  have HG2 := Lib.hid (show ∀ x ∈ r2, x.log.length ≤ 1048576 from fun x hx => by have := ga.2 x hx; omega)
  have hd5 := gd.1
  have ha5 := ga.1
  clear ho hd ha gd ga
  go_wp2_with fail
  refine (chainSwap_any view _ _ _ r old id _ Vc.out.nods hn1 HG.out).mono ?_
  rintro e w2 hq
  obtain ⟨A2, n2, c2, rfl, hq1, hq2, hb⟩ := hq.yes HO.out
  clear hq
  have Mo := Lib.hid hq1
  clear hq1
  have Nc := Lib.hid (Vc.out.on hb)
  have NB := Lib.hid (HB.out.trans (hb.mono HB.out.size))
  clear hb HB Vc
  have Vc := Lib.hid Nc.out
  clear Nc
  have HB := Lib.hid NB.out
  clear NB
  have fc0 := Vc.out.c0
  have fc1 := Vc.out.c1
  have fcl := Vc.out.lt
  have Nc := Lib.hid (Vc.out.alloc (.cells #[.int .i64 u, .slice A2 n2 c2] 25))
  have No := Lib.hid (Var.new hq2 u)
  have NB := Lib.hid (HB.out.alloc HB.out.size (.cells #[.int .i64 u, .slice A2 n2 c2] 25))
  clear hq2
  clear HB Vc
  have Vc := Lib.hid Nc.out
  clear Nc
  have Vo := Lib.hid No.out
  clear No
  have HB := Lib.hid NB.out
  clear NB
  go_wp2_with fail
  refine (specChainSwap_any view _ _ _ r old id _ Vc.out.nods hn1 HG.out).mono ?_
  rintro e w3 hq
  obtain ⟨A3, n3, c3, rfl, hq1, hq2, hb⟩ := hq.yes HO.out
  clear hq
  have Mw := Lib.hid hq1
  clear hq1
  clear fc0 fc1 fcl
  have Nc := Lib.hid (Vc.out.on hb)
  have No := Lib.hid (Vo.out.on hb)
  have NB := Lib.hid (HB.out.trans (hb.mono HB.out.size))
  clear hb HB Vc Vo
  have Vc := Lib.hid Nc.out
  clear Nc
  have Vo := Lib.hid No.out
  clear No
  have HB := Lib.hid NB.out
  clear NB
  have fc0 := Vc.out.c0
  have fc1 := Vc.out.c1
  have fcl := Vc.out.lt
  have fo0 := Vo.out.c0
  have fo1 := Vo.out.c1
  have fol := Vo.out.lt
  have Nc := Lib.hid (Vc.out.alloc (.cells #[.int .i64 u, .slice A3 n3 c3] 25))
  have No := Lib.hid (Vo.out.alloc (.cells #[.int .i64 u, .slice A3 n3 c3] 25))
  have Nw := Lib.hid (Var.new hq2 u)
  have NB := Lib.hid (HB.out.alloc HB.out.size (.cells #[.int .i64 u, .slice A3 n3 c3] 25))
  clear hq2
  obtain rfl : n3 = n2 := by rw [← Mo.out, ← Mw.out]
  have hn3 : n3 ≤ 1048576 := by have := Mo.out; omega
  clear HB Vc Vo
  have Vc := Lib.hid Nc.out
  clear Nc
  have Vo := Lib.hid No.out
  clear No
  have Vw := Lib.hid Nw.out
  clear Nw
  have HB := Lib.hid NB.out
  clear NB
  go_wp2_with fail
  refine (sameChain_same u _ _ n3 _ _ r2 _ Vo.out.nods Vw.out.nods hn3 HG2.out).mono ?_
  rintro e w4 ⟨rfl, hb⟩
  clear fc0 fc1 fcl fo0 fo1 fol
  have Nc := Lib.hid (Vc.out.on hb)
  have No := Lib.hid (Vo.out.on hb)
  have Nw := Lib.hid (Vw.out.on hb)
  have NB := Lib.hid (HB.out.trans (hb.mono HB.out.size))
  clear hb HB Vc Vo Vw
  have Vc := Lib.hid Nc.out
  clear Nc
  have Vo := Lib.hid No.out
  clear No
  have Vw := Lib.hid Nw.out
  clear Nw
  have HB := Lib.hid NB.out
  clear NB
  have fc0 := Vc.out.c0
  have fc1 := Vc.out.c1
  have fcl := Vc.out.lt
  have fo0 := Vo.out.c0
  have fo1 := Vo.out.c1
  have fol := Vo.out.lt
  have fw0 := Vw.out.c0
  have fw1 := Vw.out.c1
  have fwl := Vw.out.lt
  clear Vw Mw fw0 fw1 fwl
  have s1 := dropM_some HD.out
  have s2 := addM_some HA.out
  have hu1 := s1.2.1
  have hu2 := s2.2.1
  subst hu1
  subst hu2
  have hv0 := s1.1.1
  have hv9 := s1.2.2.1
  have hln : n3 = n1 := by obtain ⟨_, _, _, _, q, _, _, _, e⟩ := s1; have := s2.2.2.2.2.2; have := Mo.out; have := M1.out; omega
  have HLN := Lib.hid hln
  have hz : ((n3 : Int) == (n1 : Int)) = true := by simp [hln]
  clear s1 s2 hln
  go_wp2_with fail
  refine (chainDrop_any view _ _ _ r old _ Vc.out.nods hn1 HG.out).mono ?_
  rintro e w5 hq
  obtain ⟨A5, n5, c5, rfl, hq1, hq2, hb⟩ := hq.yes HD.out
  clear hq
  have Mx := Lib.hid hq1
  clear hq1
  clear fc0 fc1 fcl fo0 fo1 fol
  have Nc := Lib.hid (Vc.out.on hb)
  have No := Lib.hid (Vo.out.on hb)
  have NB := Lib.hid (HB.out.trans (hb.mono HB.out.size))
  clear hb HB Vc Vo
  have Vc := Lib.hid Nc.out
  clear Nc
  have Vo := Lib.hid No.out
  clear No
  have HB := Lib.hid NB.out
  clear NB
  have fc0 := Vc.out.c0
  have fc1 := Vc.out.c1
  have fcl := Vc.out.lt
  have fo0 := Vo.out.c0
  have fo1 := Vo.out.c1
  have fol := Vo.out.lt
  have Nc := Lib.hid (Vc.out.alloc (.cells #[.int .i64 (view + 1), .slice A5 n5 c5] 25))
  have No := Lib.hid (Vo.out.alloc (.cells #[.int .i64 (view + 1), .slice A5 n5 c5] 25))
  have Nx := Lib.hid (Var.new hq2 (view + 1))
  have NB := Lib.hid (HB.out.alloc HB.out.size (.cells #[.int .i64 (view + 1), .slice A5 n5 c5] 25))
  clear hq2
  have hn5 : n5 ≤ 1048576 := by have := Mx.out; omega
  clear HB Vc Vo
  have Vc := Lib.hid Nc.out
  clear Nc
  have Vo := Lib.hid No.out
  clear No
  have Vx := Lib.hid Nx.out
  clear Nx
  have HB := Lib.hid NB.out
  clear NB
  go_wp2_with fail
  refine (chainAdd_any (view + 1) _ _ _ rd id _ Vx.out.nods hn5 HGD.out).mono ?_
  rintro e w6 hq
  obtain ⟨A6, n6, c6, rfl, hq1, hq2, hb⟩ := hq.yes HA.out
  clear hq
  have My := Lib.hid hq1
  clear hq1
  clear fc0 fc1 fcl fo0 fo1 fol
  have Nc := Lib.hid (Vc.out.on hb)
  have No := Lib.hid (Vo.out.on hb)
  have Nx := Lib.hid (Vx.out.on hb)
  have NB := Lib.hid (HB.out.trans (hb.mono HB.out.size))
  clear hb HB Vc Vo Vx
  have Vc := Lib.hid Nc.out
  clear Nc
  have Vo := Lib.hid No.out
  clear No
  have Vx := Lib.hid Nx.out
  clear Nx
  have HB := Lib.hid NB.out
  clear NB
  have fc0 := Vc.out.c0
  have fc1 := Vc.out.c1
  have fcl := Vc.out.lt
  have fo0 := Vo.out.c0
  have fo1 := Vo.out.c1
  have fol := Vo.out.lt
  have fx0 := Vx.out.c0
  have fx1 := Vx.out.c1
  have fxl := Vx.out.lt
  have Nc := Lib.hid (Vc.out.alloc (.cells #[.int .i64 (view + 1 + 1), .slice A6 n6 c6] 25))
  have No := Lib.hid (Vo.out.alloc (.cells #[.int .i64 (view + 1 + 1), .slice A6 n6 c6] 25))
  have Nx := Lib.hid (Vx.out.alloc (.cells #[.int .i64 (view + 1 + 1), .slice A6 n6 c6] 25))
  have Ny := Lib.hid (Var.new hq2 (view + 1 + 1))
  have NB := Lib.hid (HB.out.alloc HB.out.size (.cells #[.int .i64 (view + 1 + 1), .slice A6 n6 c6] 25))
  clear hq2
  obtain rfl : n6 = n3 := by rw [← My.out, ← Mo.out]
  clear HB Vc Vo Vx
  have Vc := Lib.hid Nc.out
  clear Nc
  have Vo := Lib.hid No.out
  clear No
  have Vx := Lib.hid Nx.out
  clear Nx
  have Vy := Lib.hid Ny.out
  clear Ny
  have HB := Lib.hid NB.out
  clear NB
  go_wp2_with fail
  refine (sameChain_same (view + 1 + 1) _ _ _ _ _ r2 _ Vy.out.nods Vo.out.nods hn3 HG2.out).mono ?_
  rintro e w7 ⟨rfl, hb⟩
  clear fc0 fc1 fcl fo0 fo1 fol fx0 fx1 fxl
  have Nc := Lib.hid (Vc.out.on hb)
  have No := Lib.hid (Vo.out.on hb)
  have Nx := Lib.hid (Vx.out.on hb)
  have Ny := Lib.hid (Vy.out.on hb)
  have NB := Lib.hid (HB.out.trans (hb.mono HB.out.size))
  clear hb HB Vc Vo Vx Vy
  have Vc := Lib.hid Nc.out
  clear Nc
  have Vo := Lib.hid No.out
  clear No
  have Vx := Lib.hid Nx.out
  clear Nx
  have Vy := Lib.hid Ny.out
  clear Ny
  have HB := Lib.hid NB.out
  clear NB
  have fc0 := Vc.out.c0
  have fc1 := Vc.out.c1
  have fcl := Vc.out.lt
  have fo0 := Vo.out.c0
  have fo1 := Vo.out.c1
  have fol := Vo.out.lt
  have fx0 := Vx.out.c0
  have fx1 := Vx.out.c1
  have fxl := Vx.out.lt
  have fy0 := Vy.out.c0
  have fy1 := Vy.out.c1
  have fyl := Vy.out.lt
  have hq : (view + 1 + 1 == view + 2) = true := by simp; omega
  go_wp2
  go_ret
  exact ⟨rfl, HB.out⟩
end Go.Proofs.Ytilfomfcfpccdaa
