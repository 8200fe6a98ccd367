/- The walk of a law on dropping a node (laws.FnDropDone): it returns true, and writes nothing that was there. -/
import Derived.Test.YtagejkfeceeifaaVar
import Derived.Test.YtagejkfeceeifaaDrawL
import Derived.Test.YtagejkfeceeifaaDropB
import Derived.Test.YtagejkfeceeifaaSameC
namespace Go.Proofs.Ytagejkfeceeifaa
open Go.RowKit Go.Sort

set_option maxRecDepth 100000 in
set_option maxHeartbeats 16000000 in
theorem dropDone_walk (A : Option Addr) (n c : Nat) (l : List Int) (w : World) (h : Flat encU8 1 w 0 w.heap.size A n c l) (hl : ∀ x ∈ l, 0 ≤ x ∧ x ≤ 255) :
    Calls Try.prog 10 #[.slice A n c] w fun e w' => e = .returned (.bool true) ∧ Below w.heap.size w w' := by
  have H := Lib.hid h
  have HL := Lib.hid hl
  clear h hl
  by_cases hn : 1048576 < n
  · go_enter Try.func10, Try.ntmps10
    go_wp2
    go_ret
    exact ⟨rfl, Below.refl _ _⟩
  go_enter Try.func10, Try.ntmps10
  go_wp2_with fail
  refine (drawChainDrop_any _ _ _ l _ H.out HL.out).mono ?_
  rintro e w1 ⟨view, A1, n1, c1, r, id, rfl, h1, h2, h3, h4, h6, hb1⟩
  obtain ⟨hn1, hl1⟩ := nods_ok h1 h3 h4
  have HG := Lib.hid hl1
  have M1 := Lib.hid h1
  have Vc := Lib.hid (Var.row h6 view)
  have HB := Lib.hid (hb1.alloc hb1.size (.cells #[.int .i64 view, .slice A1 n1 c1] 29))
  clear h1 h4 h6 hb1 H HL hl1
  obtain ⟨o, ho⟩ : ∃ o, dropM view r id = o := ⟨_, rfl⟩
  rcases o with _ | ⟨u, r2⟩
  · have HO := Lib.hid ho
    clear ho
    go_wp2_with fail
    refine (chainDrop_any view _ _ _ r id _ Vc.out.nods hn1 HG.out).mono ?_
    rintro e w2 hq
    obtain ⟨A2, c2, rfl, hq2, hb⟩ := hq.not HO.out
    clear hq
    have Nc := Lib.hid (Vc.out.on hb)
    have NB := Lib.hid (HB.out.trans (hb.mono HB.out.size))
    clear hb HB Vc
    have Vc := Lib.hid Nc.out
    clear Nc
    have HB := Lib.hid NB.out
    clear NB
    have fc0 := Vc.out.c0
    have fc1 := Vc.out.c1
    have fcl := Vc.out.lt
    have Nc := Lib.hid (Vc.out.alloc (.cells #[.int .i64 0, .slice A2 0 c2] 29))
    have No := Lib.hid (Var.new hq2 0)
    have NB := Lib.hid (HB.out.alloc HB.out.size (.cells #[.int .i64 0, .slice A2 0 c2] 29))
    clear hq2
    clear HB Vc
    have Vc := Lib.hid Nc.out
    clear Nc
    have Vo := Lib.hid No.out
    clear No
    have HB := Lib.hid NB.out
    clear NB
    go_wp2_with fail
    refine (specChainDrop_any view _ _ _ r id _ Vc.out.nods hn1 HG.out).mono ?_
    rintro e w3 hq
    obtain ⟨A3, c3, rfl, hq2, hb⟩ := hq.not HO.out
    clear hq
    clear fc0 fc1 fcl
    have Nc := Lib.hid (Vc.out.on hb)
    have No := Lib.hid (Vo.out.on hb)
    have NB := Lib.hid (HB.out.trans (hb.mono HB.out.size))
    clear hb HB Vc Vo
    have Vc := Lib.hid Nc.out
    clear Nc
    have Vo := Lib.hid No.out
    clear No
    have HB := Lib.hid NB.out
    clear NB
    have fc0 := Vc.out.c0
    have fc1 := Vc.out.c1
    have fcl := Vc.out.lt
    have fo0 := Vo.out.c0
    have fo1 := Vo.out.c1
    have fol := Vo.out.lt
    have Nc := Lib.hid (Vc.out.alloc (.cells #[.int .i64 0, .slice A3 0 c3] 29))
    have No := Lib.hid (Vo.out.alloc (.cells #[.int .i64 0, .slice A3 0 c3] 29))
    have Nw := Lib.hid (Var.new hq2 0)
    have NB := Lib.hid (HB.out.alloc HB.out.size (.cells #[.int .i64 0, .slice A3 0 c3] 29))
    clear hq2
    clear HB Vc Vo
    have Vc := Lib.hid Nc.out
    clear Nc
    have Vo := Lib.hid No.out
    clear No
    have Vw := Lib.hid Nw.out
    clear Nw
    have HB := Lib.hid NB.out
    clear NB
    go_wp2_with fail
    refine (sameChain_same 0 _ _ 0 _ _ [] _ Vo.out.nods Vw.out.nods (by omega) (fun x h => by cases h)).mono ?_
    rintro e w4 ⟨rfl, hb⟩
    clear fc0 fc1 fcl fo0 fo1 fol
    have Nc := Lib.hid (Vc.out.on hb)
    have No := Lib.hid (Vo.out.on hb)
    have Nw := Lib.hid (Vw.out.on hb)
    have NB := Lib.hid (HB.out.trans (hb.mono HB.out.size))
    clear hb HB Vc Vo Vw
    have Vc := Lib.hid Nc.out
    clear Nc
    have Vo := Lib.hid No.out
    clear No
    have Vw := Lib.hid Nw.out
    clear Nw
    have HB := Lib.hid NB.out
    clear NB
    have fc0 := Vc.out.c0
    have fc1 := Vc.out.c1
    have fcl := Vc.out.lt
    have fo0 := Vo.out.c0
    have fo1 := Vo.out.c1
    have fol := Vo.out.lt
    have fw0 := Vw.out.c0
    have fw1 := Vw.out.c1
    have fwl := Vw.out.lt
    go_wp2_with fail
    refine (sameChain_same 0 _ _ 0 _ _ [] _ Vo.out.nods Vw.out.nods (by omega) (fun x h => by cases h)).mono ?_
    rintro e w5 ⟨rfl, hb⟩
    clear fc0 fc1 fcl fo0 fo1 fol fw0 fw1 fwl
    have Nc := Lib.hid (Vc.out.on hb)
    have No := Lib.hid (Vo.out.on hb)
    have Nw := Lib.hid (Vw.out.on hb)
    have NB := Lib.hid (HB.out.trans (hb.mono HB.out.size))
    clear hb HB Vc Vo Vw
    have Vc := Lib.hid Nc.out
    clear Nc
    have Vo := Lib.hid No.out
    clear No
    have Vw := Lib.hid Nw.out
    clear Nw
    have HB := Lib.hid NB.out
    clear NB
    have fc0 := Vc.out.c0
    have fc1 := Vc.out.c1
    have fcl := Vc.out.lt
    have fo0 := Vo.out.c0
    have fo1 := Vo.out.c1
    have fol := Vo.out.lt
    have fw0 := Vw.out.c0
    have fw1 := Vw.out.c1
    have fwl := Vw.out.lt
    go_wp2
    go_ret
    exact ⟨rfl, HB.out⟩
  have HO := Lib.hid ho
  clear ho
  go_wp2_with fail
  refine (chainDrop_any view _ _ _ r id _ Vc.out.nods hn1 HG.out).mono ?_
  rintro e w2 hq
  obtain ⟨A2, n2, c2, rfl, hq1, hq2, hb⟩ := hq.yes HO.out
  clear hq
  have Mo := Lib.hid hq1
  clear hq1
  have Nc := Lib.hid (Vc.out.on hb)
  have NB := Lib.hid (HB.out.trans (hb.mono HB.out.size))
  clear hb HB Vc
  have Vc := Lib.hid Nc.out
  clear Nc
  have HB := Lib.hid NB.out
  clear NB
  have fc0 := Vc.out.c0
  have fc1 := Vc.out.c1
  have fcl := Vc.out.lt
  have Nc := Lib.hid (Vc.out.alloc (.cells #[.int .i64 u, .slice A2 n2 c2] 29))
  have No := Lib.hid (Var.new hq2 u)
  have NB := Lib.hid (HB.out.alloc HB.out.size (.cells #[.int .i64 u, .slice A2 n2 c2] 29))
  clear hq2
  clear HB Vc
  have Vc := Lib.hid Nc.out
  clear Nc
  have Vo := Lib.hid No.out
  clear No
  have HB := Lib.hid NB.out
  clear NB
  go_wp2_with fail
  refine (specChainDrop_any view _ _ _ r id _ Vc.out.nods hn1 HG.out).mono ?_
  rintro e w3 hq
  obtain ⟨A3, n3, c3, rfl, hq1, hq2, hb⟩ := hq.yes HO.out
  clear hq
  have Mw := Lib.hid hq1
  clear hq1
  clear fc0 fc1 fcl
  have Nc := Lib.hid (Vc.out.on hb)
  have No := Lib.hid (Vo.out.on hb)
  have NB := Lib.hid (HB.out.trans (hb.mono HB.out.size))
  clear hb HB Vc Vo
  have Vc := Lib.hid Nc.out
  clear Nc
  have Vo := Lib.hid No.out
  clear No
  have HB := Lib.hid NB.out
  clear NB
  have fc0 := Vc.out.c0
  have fc1 := Vc.out.c1
  have fcl := Vc.out.lt
  have fo0 := Vo.out.c0
  have fo1 := Vo.out.c1
  have fol := Vo.out.lt
  have Nc := Lib.hid (Vc.out.alloc (.cells #[.int .i64 u, .slice A3 n3 c3] 29))
  have No := Lib.hid (Vo.out.alloc (.cells #[.int .i64 u, .slice A3 n3 c3] 29))
  have Nw := Lib.hid (Var.new hq2 u)
  have NB := Lib.hid (HB.out.alloc HB.out.size (.cells #[.int .i64 u, .slice A3 n3 c3] 29))
  clear hq2
  obtain rfl : n3 = n2 := by rw [← Mo.out, ← Mw.out]
  clear HB Vc Vo
  have Vc := Lib.hid Nc.out
  clear Nc
  have Vo := Lib.hid No.out
  clear No
  have Vw := Lib.hid Nw.out
  clear Nw
  have HB := Lib.hid NB.out
  clear NB
  go_wp2_with fail
  have hgood := dropM_some HO.out
  have hok5 := good_ok hgood.2.2.2.2.choose_spec.2.2.1
  have HG2 := Lib.hid (show ∀ x ∈ r2, x.log.length ≤ 1048576 from fun x hx => by have := hok5.2 x hx; omega)
  have hn5 : n3 ≤ 5 := by have := hok5.1; have := Mo.out; omega
  have hn3 : n3 ≤ 1048576 := by omega
  clear hgood hok5
  refine (sameChain_same u _ _ n3 _ _ r2 _ Vo.out.nods Vw.out.nods hn3 HG2.out).mono ?_
  rintro e w4 ⟨rfl, hb⟩
  clear fc0 fc1 fcl fo0 fo1 fol
  have Nc := Lib.hid (Vc.out.on hb)
  have No := Lib.hid (Vo.out.on hb)
  have Nw := Lib.hid (Vw.out.on hb)
  have NB := Lib.hid (HB.out.trans (hb.mono HB.out.size))
  clear hb HB Vc Vo Vw
  have Vc := Lib.hid Nc.out
  clear Nc
  have Vo := Lib.hid No.out
  clear No
  have Vw := Lib.hid Nw.out
  clear Nw
  have HB := Lib.hid NB.out
  clear NB
  have fc0 := Vc.out.c0
  have fc1 := Vc.out.c1
  have fcl := Vc.out.lt
  have fo0 := Vo.out.c0
  have fo1 := Vo.out.c1
  have fol := Vo.out.lt
  have fw0 := Vw.out.c0
  have fw1 := Vw.out.c1
  have fwl := Vw.out.lt
  clear Vw Mw fw0 fw1 fwl
  have KEY := Lib.hid (fun (x y : Nod) (hx : x ∈ r) (hy : y ∈ r2) => drop_done HO.out hx hy)
  have NN := Lib.hid (fun (x : Nod) (hx : x ∈ r) => (nodeOk_iff.1 ((dropM_some HO.out).1.2.2.2.2.1 x hx)).2.2.2)
  go_wp2_with fail
  clear fc0 fc1 fcl fo0 fo1 fol
  go_loopw [9] (fun i wr => ∃ k : Nat, i = .int .i64 k ∧ k ≤ n1 ∧ Below w4.heap.size w4 wr) (fun i _ => n1 - (intOf i).toNat)
  case atStart => exact ⟨0, rfl, Nat.zero_le _, Below.refl _ _⟩
  case round =>
    obtain ⟨k, rfl, hk, hB⟩ := hrel
    have Wc := Lib.hid (Vc.out.on hB)
    have Wo := Lib.hid (Vo.out.on hB)
    have WB := Lib.hid (HB.out.trans (hB.mono HB.out.size))
    have HB4 := Lib.hid hB
    clear hB
    have fc1 := Wc.out.c1
    by_cases hlt : k < n1
    · obtain ⟨w5, rfl⟩ : ∃ v : World, v = wr := ⟨_, rfl⟩
      obtain ⟨b, off, x, A5, m5, d5, hA, _, hbB, hx, _, c1, c2, hf⟩ := Wc.out.nods.nod hlt
      subst hA
      have hnn := NN.out x (List.mem_of_getElem? hx)
      obtain ⟨dn, hdn⟩ : ∃ dn : Nat, x.done = (dn : Int) := ⟨x.done.toNat, by omega⟩
      have hm5 := hf.len
      have hd5 : dn ≤ m5 := by omega
      have hdn13 : dn ≤ 1048576 := by have := HG.out x (List.mem_of_getElem? hx); omega
      have HF := Lib.hid (hf.take_ hd5)
      have hkey := fun (y : Nod) (hy : y ∈ r2) => KEY.out x y (List.mem_of_getElem? hx) hy
      rw [hdn] at c2 hkey
      have KEY2 := Lib.hid hkey
      have hmd := hf.2.1
      clear hx hf hnn hdn hm5 hkey
      go_wp2_with fail
      go_loopw [11] (fun j wx => ∃ q : Nat, j = .int .i64 q ∧ q ≤ n3 ∧ Below w5.heap.size w5 wx) (fun j _ => n3 - (intOf j).toNat)
      case atStart => exact ⟨0, rfl, Nat.zero_le _, Below.refl _ _⟩
      case round =>
        obtain ⟨q, rfl, hq, hB⟩ := hrel
        have Xo := Lib.hid (Wo.out.on hB)
        have XB := Lib.hid hB
        have F1 := Lib.hid (HF.out.on hB)
        have Xc := Lib.hid (Wc.out.on hB)
        have e1 := (hB.cell (p := ⟨b, off + k * 3 + 1, none⟩) hbB).trans c1
        clear hB
        have fo1 := Xo.out.c1
        have fc1' := Xc.out.c1
        by_cases hltq : q < n3
        · obtain ⟨b2, off2, y, A6, m6, d6, hA6, _, hbB2, hy, _, g1, _, hg⟩ := Xo.out.nods.nod hltq
          subst hA6
          have hky := KEY2.out y (List.mem_of_getElem? hy)
          have hlen := hg.len
          have hd6 : dn ≤ m6 := by omega
          have hg2 := hg.take_ hd6
          rw [show y.log.take dn = x.log.take dn from hky.2] at hg2
          have F2 := Lib.hid hg2
          have hmd6 := hg.2.1
          clear hy hg hg2 hky hlen
          have T3 := Lib.hid (show ∀ (p : Nat) (os : Array Obj), Calls Try.prog 30 #[.slice A6 dn d6, .slice A5 dn d5] (grow (redrawn wr p) os) fun e w' => e = .returned (.bool true) ∧ Below (grow (redrawn wr p) os).heap.size (grow (redrawn wr p) os) w' from fun p os => by
            have hb := below_regrown wr p os
            exact sameLog_same A6 A5 dn d6 d5 (x.log.take dn) _ (F2.out.on hb) (F1.out.on hb) hdn13)
          have i1 : (k : Int) < (n1 : Int) := by omega
          have i2 : (q : Int) < (n3 : Int) := by omega
          have i3 : (0 : Int) ≤ (k : Int) := by omega
          have i4 : (0 : Int) ≤ (q : Int) := by omega
          have i5 : decide (m6 < dn) = false := by simp; omega
          have i6 : (dn : Int) ≤ (d5 : Int) := by omega
          have i7 : (dn : Int) ≤ (d6 : Int) := by omega
          have i8 : dn ≤ d5 := by omega
          have i9 : dn ≤ d6 := by omega
          have d1 := cell_regrown fc1'
          have d2 := cell_regrown fo1
          have d3 := cell_regrown e1
          have d4 := cell_regrown g1
          go_wp2_with fail
          refine wp_region_quiet_below (by kernel_rfl) (by kernel_rfl) ?_
          repeat (go_big_quiet_step ((go_at_call 30; with_reducible exact Calls.regrown_of (T3.out _ _))))
          refine wpQuiet_nil ?_
          intro w6 hw6
          have hb := Lib.hid (below_of_regrown hw6)
          clear hw6 d1 d2 d3 d4
          go_wp2
          go_roundw
          case rel => exact ⟨q + 1, by go_num, by omega, XB.out.trans (hb.out.mono XB.out.size)⟩
          case measure => simp [intOf]; omega
        · go_wp2
          go_roundw
          case rel => exact ⟨k + 1, by go_num, by omega, HB4.out.trans (XB.out.mono HB4.out.size)⟩
          case measure => simp [intOf]; omega
    · go_wp2
      go_ret
      exact ⟨rfl, WB.out⟩
end Go.Proofs.Ytagejkfeceeifaa
