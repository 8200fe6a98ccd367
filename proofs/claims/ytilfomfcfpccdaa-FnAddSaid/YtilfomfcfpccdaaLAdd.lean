/- The walk of a law on adding a node (laws.FnAdd): it returns true, and writes nothing that was there. -/
import Derived.Test.YtilfomfcfpccdaaVar
import Derived.Test.YtilfomfcfpccdaaDrawA
import Derived.Test.YtilfomfcfpccdaaAddI
import Derived.Test.YtilfomfcfpccdaaSameC
import Derived.IntWalk
namespace Go.Proofs.Ytilfomfcfpccdaa
open Go.RowKit Go.Sort

set_option maxRecDepth 100000 in
set_option maxHeartbeats 16000000 in
theorem add_walk (A : Option Addr) (n c : Nat) (l : List Int) (w : World) (h : Flat encU8 1 w 0 w.heap.size A n c l) (hl : ∀ x ∈ l, 0 ≤ x ∧ x ≤ 255) :
    Calls Try.prog 3 #[.slice A n c] w fun e w' => e = .returned (.bool true) ∧ Below w.heap.size w w' := by
  have H := Lib.hid h
  have HL := Lib.hid hl
  clear h hl
  by_cases hn : 1048576 < n
  · go_enter Try.func3, Try.ntmps3
    go_wp2
    go_ret
    exact ⟨rfl, Below.refl _ _⟩
  go_enter Try.func3, Try.ntmps3
  go_wp2_with fail
  refine (drawChainAdd_any _ _ _ l _ H.out HL.out).mono ?_
  rintro e w1 ⟨view, A1, n1, c1, r, id, rfl, h1, h2, h3, h4, h6, hb1⟩
  obtain ⟨hn1, hl1⟩ := nods_ok h1 h3 h4
  have HG := Lib.hid hl1
  have M1 := Lib.hid h1
  have Vc := Lib.hid (Var.row h6 view)
  have HB := Lib.hid (hb1.alloc hb1.size (.cells #[.int .i64 view, .slice A1 n1 c1] 25))
  clear h1 h4 h6 hb1 H HL hl1
  obtain ⟨o, ho⟩ : ∃ o, addM view r id = o := ⟨_, rfl⟩
  rcases o with _ | ⟨u, r2⟩
  · have HO := Lib.hid ho
    clear ho
    go_wp2_with fail
    refine (chainAdd_any view _ _ _ r id _ Vc.out.nods hn1 HG.out).mono ?_
    rintro e w2 hq
    obtain ⟨A2, c2, rfl, hq2, hb⟩ := hq.not HO.out
    clear hq
    have Nc := Lib.hid (Vc.out.on hb)
    have NB := Lib.hid (HB.out.trans (hb.mono HB.out.size))
    clear hb HB Vc
    have Vc := Lib.hid Nc.out
    clear Nc
    have HB := Lib.hid NB.out
    clear NB
    have fc0 := Vc.out.c0
    have fc1 := Vc.out.c1
    have fcl := Vc.out.lt
    have Nc := Lib.hid (Vc.out.alloc (.cells #[.int .i64 0, .slice A2 0 c2] 25))
    have No := Lib.hid (Var.new hq2 0)
    have NB := Lib.hid (HB.out.alloc HB.out.size (.cells #[.int .i64 0, .slice A2 0 c2] 25))
    clear hq2
    clear HB Vc
    have Vc := Lib.hid Nc.out
    clear Nc
    have Vo := Lib.hid No.out
    clear No
    have HB := Lib.hid NB.out
    clear NB
    go_wp2_with fail
    refine (specChainAdd_any view _ _ _ r id _ Vc.out.nods hn1 HG.out).mono ?_
    rintro e w3 hq
    obtain ⟨A3, c3, rfl, hq2, hb⟩ := hq.not HO.out
    clear hq
    clear fc0 fc1 fcl
    have Nc := Lib.hid (Vc.out.on hb)
    have No := Lib.hid (Vo.out.on hb)
    have NB := Lib.hid (HB.out.trans (hb.mono HB.out.size))
    clear hb HB Vc Vo
    have Vc := Lib.hid Nc.out
    clear Nc
    have Vo := Lib.hid No.out
    clear No
    have HB := Lib.hid NB.out
    clear NB
    have fc0 := Vc.out.c0
    have fc1 := Vc.out.c1
    have fcl := Vc.out.lt
    have fo0 := Vo.out.c0
    have fo1 := Vo.out.c1
    have fol := Vo.out.lt
    have Nc := Lib.hid (Vc.out.alloc (.cells #[.int .i64 0, .slice A3 0 c3] 25))
    have No := Lib.hid (Vo.out.alloc (.cells #[.int .i64 0, .slice A3 0 c3] 25))
    have Nw := Lib.hid (Var.new hq2 0)
    have NB := Lib.hid (HB.out.alloc HB.out.size (.cells #[.int .i64 0, .slice A3 0 c3] 25))
    clear hq2
    clear HB Vc Vo
    have Vc := Lib.hid Nc.out
    clear Nc
    have Vo := Lib.hid No.out
    clear No
    have Vw := Lib.hid Nw.out
    clear Nw
    have HB := Lib.hid NB.out
    clear NB
    go_wp2_with fail
    refine (sameChain_same 0 _ _ 0 _ _ [] _ Vo.out.nods Vw.out.nods (by omega) (fun x h => by cases h)).mono ?_
    rintro e w4 ⟨rfl, hb⟩
    clear fc0 fc1 fcl fo0 fo1 fol
    have Nc := Lib.hid (Vc.out.on hb)
    have No := Lib.hid (Vo.out.on hb)
    have Nw := Lib.hid (Vw.out.on hb)
    have NB := Lib.hid (HB.out.trans (hb.mono HB.out.size))
    clear hb HB Vc Vo Vw
    have Vc := Lib.hid Nc.out
    clear Nc
    have Vo := Lib.hid No.out
    clear No
    have Vw := Lib.hid Nw.out
    clear Nw
    have HB := Lib.hid NB.out
    clear NB
    have fc0 := Vc.out.c0
    have fc1 := Vc.out.c1
    have fcl := Vc.out.lt
    have fo0 := Vo.out.c0
    have fo1 := Vo.out.c1
    have fol := Vo.out.lt
    have fw0 := Vw.out.c0
    have fw1 := Vw.out.c1
    have fwl := Vw.out.lt
    go_wp2_with fail
    refine (sameChain_same 0 _ _ 0 _ _ [] _ Vo.out.nods Vw.out.nods (by omega) (fun x h => by cases h)).mono ?_
    rintro e w5 ⟨rfl, hb⟩
    clear fc0 fc1 fcl fo0 fo1 fol fw0 fw1 fwl
    have Nc := Lib.hid (Vc.out.on hb)
    have No := Lib.hid (Vo.out.on hb)
    have Nw := Lib.hid (Vw.out.on hb)
    have NB := Lib.hid (HB.out.trans (hb.mono HB.out.size))
    clear hb HB Vc Vo Vw
    have Vc := Lib.hid Nc.out
    clear Nc
    have Vo := Lib.hid No.out
    clear No
    have Vw := Lib.hid Nw.out
    clear Nw
    have HB := Lib.hid NB.out
    clear NB
    have fc0 := Vc.out.c0
    have fc1 := Vc.out.c1
    have fcl := Vc.out.lt
    have fo0 := Vo.out.c0
    have fo1 := Vo.out.c1
    have fol := Vo.out.lt
    have fw0 := Vw.out.c0
    have fw1 := Vw.out.c1
    have fwl := Vw.out.lt
    go_wp2
    go_ret
    exact ⟨rfl, HB.out⟩
  have HO := Lib.hid ho
  clear ho
  go_wp2_with fail
  refine (chainAdd_any view _ _ _ r id _ Vc.out.nods hn1 HG.out).mono ?_
  rintro e w2 hq
  obtain ⟨A2, n2, c2, rfl, hq1, hq2, hb⟩ := hq.yes HO.out
  clear hq
  have Mo := Lib.hid hq1
  clear hq1
  have Nc := Lib.hid (Vc.out.on hb)
  have NB := Lib.hid (HB.out.trans (hb.mono HB.out.size))
  clear hb HB Vc
  have Vc := Lib.hid Nc.out
  clear Nc
  have HB := Lib.hid NB.out
  clear NB
  have fc0 := Vc.out.c0
  have fc1 := Vc.out.c1
  have fcl := Vc.out.lt
  have Nc := Lib.hid (Vc.out.alloc (.cells #[.int .i64 u, .slice A2 n2 c2] 25))
  have No := Lib.hid (Var.new hq2 u)
  have NB := Lib.hid (HB.out.alloc HB.out.size (.cells #[.int .i64 u, .slice A2 n2 c2] 25))
  clear hq2
  clear HB Vc
  have Vc := Lib.hid Nc.out
  clear Nc
  have Vo := Lib.hid No.out
  clear No
  have HB := Lib.hid NB.out
  clear NB
  go_wp2_with fail
  refine (specChainAdd_any view _ _ _ r id _ Vc.out.nods hn1 HG.out).mono ?_
  rintro e w3 hq
  obtain ⟨A3, n3, c3, rfl, hq1, hq2, hb⟩ := hq.yes HO.out
  clear hq
  have Mw := Lib.hid hq1
  clear hq1
  clear fc0 fc1 fcl
  have Nc := Lib.hid (Vc.out.on hb)
  have No := Lib.hid (Vo.out.on hb)
  have NB := Lib.hid (HB.out.trans (hb.mono HB.out.size))
  clear hb HB Vc Vo
  have Vc := Lib.hid Nc.out
  clear Nc
  have Vo := Lib.hid No.out
  clear No
  have HB := Lib.hid NB.out
  clear NB
  have fc0 := Vc.out.c0
  have fc1 := Vc.out.c1
  have fcl := Vc.out.lt
  have fo0 := Vo.out.c0
  have fo1 := Vo.out.c1
  have fol := Vo.out.lt
  have Nc := Lib.hid (Vc.out.alloc (.cells #[.int .i64 u, .slice A3 n3 c3] 25))
  have No := Lib.hid (Vo.out.alloc (.cells #[.int .i64 u, .slice A3 n3 c3] 25))
  have Nw := Lib.hid (Var.new hq2 u)
  have NB := Lib.hid (HB.out.alloc HB.out.size (.cells #[.int .i64 u, .slice A3 n3 c3] 25))
  clear hq2
  obtain rfl : n3 = n2 := by rw [← Mo.out, ← Mw.out]
  clear HB Vc Vo
  have Vc := Lib.hid Nc.out
  clear Nc
  have Vo := Lib.hid No.out
  clear No
  have Vw := Lib.hid Nw.out
  clear Nw
  have HB := Lib.hid NB.out
  clear NB
  go_wp2_with fail
  have hgood := addM_some HO.out
  have hok5 := good_ok hgood.2.2.2.2.1
  have HG2 := Lib.hid (show ∀ x ∈ r2, x.log.length ≤ 1048576 from fun x hx => by have := hok5.2 x hx; omega)
  have hn5 : n3 ≤ 5 := by have := hok5.1; have := Mo.out; omega
  have hn3 : n3 ≤ 1048576 := by omega
  clear hgood hok5
  refine (sameChain_same u _ _ n3 _ _ r2 _ Vo.out.nods Vw.out.nods hn3 HG2.out).mono ?_
  rintro e w4 ⟨rfl, hb⟩
  clear fc0 fc1 fcl fo0 fo1 fol
  have Nc := Lib.hid (Vc.out.on hb)
  have No := Lib.hid (Vo.out.on hb)
  have Nw := Lib.hid (Vw.out.on hb)
  have NB := Lib.hid (HB.out.trans (hb.mono HB.out.size))
  clear hb HB Vc Vo Vw
  have Vc := Lib.hid Nc.out
  clear Nc
  have Vo := Lib.hid No.out
  clear No
  have Vw := Lib.hid Nw.out
  clear Nw
  have HB := Lib.hid NB.out
  clear NB
  have fc0 := Vc.out.c0
  have fc1 := Vc.out.c1
  have fcl := Vc.out.lt
  have fo0 := Vo.out.c0
  have fo1 := Vo.out.c1
  have fol := Vo.out.lt
  have fw0 := Vw.out.c0
  have fw1 := Vw.out.c1
  have fwl := Vw.out.lt
  clear Vw Mw fw0 fw1 fwl
  have hs := addM_some HO.out
  obtain ⟨t, ht⟩ : ∃ t, r[r.length - 1]? = some t := ⟨_, List.getElem?_eq_getElem (by have := hs.1.2.2.1; omega)⟩
  have hr2 := add_tail HO.out ht
  have hu := hs.2.1
  subst hu
  have hv0 := hs.1.1
  have hv9 := hs.2.2.1
  obtain rfl : n3 = n1 + 1 := by have := Mo.out; have := M1.out; have := hs.2.2.2.2.2; omega
  have CK := Lib.hid (good_iff.2 (addM_good HO.out))
  have p1 : 0 < n1 := by have := hs.1.2.2.1; have := M1.out; omega
  have HT := Lib.hid ht
  have HR2 := Lib.hid hr2
  clear hs ht hr2
  go_wp2_with fail
  refine (lawsTailOf_any _ _ _ _ r2 _ Vo.out.nods hn3 (by omega)).mono ?_
  rintro e w5 ⟨x, A5, m5, c5, hx, rfl, hf, hb⟩
  obtain rfl : x = ⟨id, t.log, t.log.length⟩ := by
    rw [HR2.out] at hx
    have e : n1 + 1 - 1 = r.length := by have := M1.out; omega
    rw [e] at hx; simp at hx; exact hx.symm
  have F5 := Lib.hid (hf.on hb)
  have hm5 : m5 ≤ 1048576 := by have := hf.len; have := HG.out t (List.mem_of_getElem? HT.out); have : t.log.length = m5 := hf.len; omega
  have hl5 := Lib.hid (show t.log.length = m5 from hf.len)
  dsimp only
  rw [hl5.out]
  clear hx hf
  clear fc0 fc1 fcl fo0 fo1 fol
  have Nc := Lib.hid (Vc.out.on hb)
  have No := Lib.hid (Vo.out.on hb)
  have NB := Lib.hid (HB.out.trans (hb.mono HB.out.size))
  clear hb HB Vc Vo
  have Vc := Lib.hid Nc.out
  clear Nc
  have Vo := Lib.hid No.out
  clear No
  have HB := Lib.hid NB.out
  clear NB
  have fc0 := Vc.out.c0
  have fc1 := Vc.out.c1
  have fcl := Vc.out.lt
  have fo0 := Vo.out.c0
  have fo1 := Vo.out.c1
  have fol := Vo.out.lt
  have A5b := Lib.hid (show ∀ o : Obj, Below w5.heap.size w5 (w5.alloc o) from fun o => (Below.refl _ _).alloc (Nat.le_refl _) _)
  go_wp2_with fail
  generalize hW : w5.alloc (.cells #[.int .i64 id, .slice A5 m5 c5, .int .i64 (m5 : Int)] 33) = W at *
  have nb : Blk W w5.heap.size #[.int .i64 id, .slice A5 m5 c5, .int .i64 (m5 : Int)] 33 := by rw [← hW]; exact Blk.new _ _ _
  have hbW : Below w5.heap.size w5 W := by rw [← hW]; exact A5b.out _
  have Xc := Lib.hid (Vc.out.on hbW)
  have Xo := Lib.hid (Vo.out.on hbW)
  have XB := Lib.hid (HB.out.trans (hbW.mono HB.out.size))
  have X5 := Lib.hid (F5.out.on hbW)
  clear hW fc0 fc1 fcl fo0 fo1 fol Vc Vo HB F5 A5b hbW
  obtain ⟨x6, A6, m6, c6, hx6, hf6, ht6⟩ := tail_regrown (view := view) Xc.out.nods p1 hn1
  obtain rfl : x6 = t := by have h1 := HT.out; rw [M1.out] at h1; rw [h1] at hx6; injection hx6 with e; exact e.symm
  obtain rfl : m6 = m5 := by rw [← hf6.len]; exact hl5.out
  have F6 := Lib.hid hf6
  have T3 := Lib.hid ht6
  have T1 := Lib.hid (show ∀ (q : Nat) (os : Array Obj), Calls Try.prog 20 #[.agg #[.int .i64 (view + 1), .slice A2 (n1 + 1) c2]] (grow (redrawn W q) os) fun e w' => e = .returned (.bool true) ∧ Below (grow (redrawn W q) os).heap.size (grow (redrawn W q) os) w' from fun q os => by
    have hc := chainValid_any (view + 1) A2 (n1 + 1) c2 r2 (grow (redrawn W q) os) (Xo.out.nods.on (below_regrown W q os)) hn3 HG2.out
    rw [CK.out] at hc; exact hc)
  have T2 := Lib.hid (show ∀ (q : Nat) (os : Array Obj), Calls Try.prog 21 #[.slice A2 n1 c2, .slice A1 n1 c1] (grow (redrawn W q) os) fun e w' => e = .returned (.bool true) ∧ Below (grow (redrawn W q) os).heap.size (grow (redrawn W q) os) w' from fun q os => by
    have ht := (Xo.out.nods.on (below_regrown W q os)).take_ (k := n1) (by omega)
    have e : r2.take n1 = r := by rw [HR2.out, ← M1.out]; simp
    rw [e] at ht
    exact sameNodes_same A2 A1 n1 c2 c1 r _ ht (Xc.out.nods.on (below_regrown W q os)) hn1 HG.out)
  have T4 := Lib.hid (show ∀ (q : Nat) (os : Array Obj), Calls Try.prog 22 #[.slice A5 m6 c5, .slice A6 m6 c6] (grow (redrawn W q) os) fun e w' => e = .returned (.bool true) ∧ Below (grow (redrawn W q) os).heap.size (grow (redrawn W q) os) w' from fun q os => by
    have hb := below_regrown W q os
    exact sameLog_same A5 A6 m6 c5 c6 x6.log _ (X5.out.on hb) (F6.out.on hb) hm5)
  have hcap := Xo.out.nods.cap.1
  have i1 : (n1 : Int) ≤ (c2 : Int) := by omega
  have i2 : n1 ≤ c2 := by omega
  have i3 : (0 : Int) ≤ (n1 : Int) := by omega
  have d0 := cell_regrown Xc.out.c0
  have d1 := cell_regrown Xc.out.c1
  have d2 := cell_regrown Xo.out.c0
  have d3 := cell_regrown Xo.out.c1
  have d4 := cell_regrown (nb.cell (i := 0) (v := .int .i64 id) rfl)
  have d5 := cell_regrown (nb.cell (i := 1) (v := .slice A5 m6 c5) rfl)
  have nf := node_field1
  have hw1 : IntKind.i64.wrap (view + 1) = view + 1 := IntWalk.i64_in _ (by omega)
  have hw2 : IntKind.i64.wrap ((n1 : Int) + 1) = (n1 : Int) + 1 := IntWalk.i64_in _ (by omega)
  clear hx6 hf6 ht6 nb
  refine wp_region_quiet_below (by kernel_rfl) (by kernel_rfl) ?_
  repeat (go_big_quiet_step ((first | (go_at_call 20; with_reducible exact Calls.regrown_of (T1.out _ _)) | (go_at_call 21; with_reducible exact Calls.regrown_of (T2.out _ _)) | (go_at_call 19; with_reducible exact Calls.regrown_of (T3.out _ _)) | (go_at_call 22; with_reducible exact Calls.regrown_of (T4.out _ _)))))
  refine wpQuiet_nil ?_
  intro w6 hw6
  have hb := Lib.hid (below_of_regrown hw6)
  clear hw6 d0 d1 d2 d3 d4 d5
  go_wp2
  go_ret
  exact ⟨rfl, XB.out.trans (hb.out.mono XB.out.size)⟩
end Go.Proofs.Ytilfomfcfpccdaa
