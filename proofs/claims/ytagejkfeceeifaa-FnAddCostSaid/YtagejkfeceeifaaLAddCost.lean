/- The walk of a law on what adding costs (laws.FnAddCost): it returns true, and writes nothing that was there. -/
import Derived.Test.YtagejkfeceeifaaVar
import Derived.Test.YtagejkfeceeifaaAddI
import Derived.Test.YtagejkfeceeifaaDrawA
import Derived.Test.YtagejkfeceeifaaAddCost
namespace Go.Proofs.Ytagejkfeceeifaa
open Go.RowKit Go.Sort

set_option maxRecDepth 100000 in
set_option maxHeartbeats 16000000 in
theorem addCost_walk (A : Option Addr) (n c : Nat) (l : List Int) (w : World) (h : Flat encU8 1 w 0 w.heap.size A n c l) (hl : ∀ x ∈ l, 0 ≤ x ∧ x ≤ 255) :
    Calls Try.prog 4 #[.slice A n c] w fun e w' => e = .returned (.bool true) ∧ Below w.heap.size w w' := by
  have H := Lib.hid h
  have HL := Lib.hid hl
  clear h hl
  by_cases hn : 1048576 < n
  · go_enter Try.func4, Try.ntmps4
    go_wp2
    go_ret
    exact ⟨rfl, Below.refl _ _⟩
  go_enter Try.func4, Try.ntmps4
  go_wp2_with fail
  refine (drawAddCost_any _ _ _ l _ H.out HL.out).mono ?_
  rintro e w1 ⟨view, A1, n1, c1, r, rfl, h1, h2, h3, h4, h6, hb1⟩
  obtain ⟨hn1, hl1⟩ := nods_ok h1 h3 h4
  have HG := Lib.hid hl1
  have M1 := Lib.hid h1
  have Vc := Lib.hid (Var.row h6 view)
  have HB := Lib.hid (hb1.alloc hb1.size (.cells #[.int .i64 view, .slice A1 n1 c1] 29))
  have p1 : 0 < n1 := by omega
  clear h1 h4 h6 hb1 H HL hl1
  obtain ⟨v1, hv1⟩ : ∃ v1, addCost view r = v1 := ⟨_, rfl⟩
  have HV := Lib.hid hv1
  clear hv1
  have e1 : (v1 != v1) = false := by simp
  have e2 : (v1 == v1) = true := by simp
  go_wp2_with fail
  refine (addCost_any view _ _ _ r _ Vc.out.nods hn1 HG.out).mono ?_
  rintro e w2 ⟨rfl, hb⟩
  rw [HV.out]
  have Nc := Lib.hid (Vc.out.on hb)
  have NB := Lib.hid (HB.out.trans (hb.mono HB.out.size))
  clear hb HB Vc
  have Vc := Lib.hid Nc.out
  clear Nc
  have HB := Lib.hid NB.out
  clear NB
  have fc0 := Vc.out.c0
  have fc1 := Vc.out.c1
  have fcl := Vc.out.lt
  go_wp2_with fail
  refine (specAddCost_any view _ _ _ r _ Vc.out.nods hn1 HG.out).mono ?_
  rintro e w3 ⟨rfl, hb⟩
  rw [HV.out]
  clear fc0 fc1 fcl
  have Nc := Lib.hid (Vc.out.on hb)
  have NB := Lib.hid (HB.out.trans (hb.mono HB.out.size))
  clear hb HB Vc
  have Vc := Lib.hid Nc.out
  clear Nc
  have HB := Lib.hid NB.out
  clear NB
  have fc0 := Vc.out.c0
  have fc1 := Vc.out.c1
  have fcl := Vc.out.lt
  by_cases hv0 : v1 < 0
  · go_wp2
    go_ret
    exact ⟨rfl, HB.out⟩
  obtain ⟨o, ho⟩ : ∃ o, addM view r 99 = o := ⟨_, rfl⟩
  rcases o with _ | ⟨u, r2⟩
  · have HO := Lib.hid ho
    clear ho
    go_wp2_with fail
    refine (chainAdd_any view _ _ _ r 99 _ Vc.out.nods hn1 HG.out).mono ?_
    rintro e w4 hq
    obtain ⟨A4, c4, rfl, hq2, hb⟩ := hq.not HO.out
    clear hq
    clear fc0 fc1 fcl
    have Nc := Lib.hid (Vc.out.on hb)
    have NB := Lib.hid (HB.out.trans (hb.mono HB.out.size))
    clear hb HB Vc
    have Vc := Lib.hid Nc.out
    clear Nc
    have HB := Lib.hid NB.out
    clear NB
    have fc0 := Vc.out.c0
    have fc1 := Vc.out.c1
    have fcl := Vc.out.lt
    have Nc := Lib.hid (Vc.out.alloc (.cells #[.int .i64 0, .slice A4 0 c4] 29))
    have No := Lib.hid (Var.new hq2 0)
    have NB := Lib.hid (HB.out.alloc HB.out.size (.cells #[.int .i64 0, .slice A4 0 c4] 29))
    clear hq2
    clear HB Vc
    have Vc := Lib.hid Nc.out
    clear Nc
    have Vo := Lib.hid No.out
    clear No
    have HB := Lib.hid NB.out
    clear NB
    go_wp2
    go_ret
    exact ⟨rfl, HB.out⟩
  have HO := Lib.hid ho
  have hs := addM_some ho
  have hg5 := good_ok hs.2.2.2.2.1
  have HG2 := Lib.hid (show ∀ x ∈ r2, x.log.length ≤ 1048576 from fun x hx => by have := hg5.2 x hx; omega)
  have h5 := hg5.1
  have hl2 := hs.2.2.2.2.2
  have CK := Lib.hid (good_iff.2 hs.1)
  clear ho hs hg5
  go_wp2_with fail
  refine (chainAdd_any view _ _ _ r 99 _ Vc.out.nods hn1 HG.out).mono ?_
  rintro e w4 hq
  obtain ⟨A4, n4, c4, rfl, hq1, hq2, hb⟩ := hq.yes HO.out
  clear hq
  have Mo := Lib.hid hq1
  clear hq1
  clear fc0 fc1 fcl
  have Nc := Lib.hid (Vc.out.on hb)
  have NB := Lib.hid (HB.out.trans (hb.mono HB.out.size))
  clear hb HB Vc
  have Vc := Lib.hid Nc.out
  clear Nc
  have HB := Lib.hid NB.out
  clear NB
  have fc0 := Vc.out.c0
  have fc1 := Vc.out.c1
  have fcl := Vc.out.lt
  have Nc := Lib.hid (Vc.out.alloc (.cells #[.int .i64 u, .slice A4 n4 c4] 29))
  have No := Lib.hid (Var.new hq2 u)
  have NB := Lib.hid (HB.out.alloc HB.out.size (.cells #[.int .i64 u, .slice A4 n4 c4] 29))
  clear hq2
  clear HB Vc
  have Vc := Lib.hid Nc.out
  clear Nc
  have Vo := Lib.hid No.out
  clear No
  have HB := Lib.hid NB.out
  clear NB
  have hm4 : n4 ≤ 1048576 := by have := Mo.out; omega
  have hp4 : 0 < n4 := by have := Mo.out; omega
  have nf := node_field1
  go_wp2_with fail
  refine (lawsTailOf_any u _ _ _ r2 _ Vo.out.nods hm4 hp4).mono ?_
  rintro e w5 ⟨x, A5, m5, c5, hx, rfl, hf, hb⟩
  have hlen := hf.len
  obtain ⟨t, ht⟩ : ∃ t, r[n1 - 1]? = some t := ⟨_, List.getElem?_eq_getElem (by have := M1.out; omega)⟩
  have hcost := addCost_ok CK.out M1.out ht
  rw [HV.out] at hcost
  have hr2 := add_tail HO.out (by rw [M1.out]; exact ht)
  have hxl : x.log.length = t.log.length := by
    rw [hr2] at hx
    have e : n4 - 1 = r.length := by have := Mo.out; omega
    rw [e] at hx; simp at hx; subst hx; rfl
  have hz : ((m5 : Int) == v1) = true := by rw [hcost]; simp; omega
  clear hx hf hlen ht hcost hr2 hxl hl2
  clear fc0 fc1 fcl
  have Nc := Lib.hid (Vc.out.on hb)
  have No := Lib.hid (Vo.out.on hb)
  have NB := Lib.hid (HB.out.trans (hb.mono HB.out.size))
  clear hb HB Vc Vo
  have Vc := Lib.hid Nc.out
  clear Nc
  have Vo := Lib.hid No.out
  clear No
  have HB := Lib.hid NB.out
  clear NB
  go_wp2
  go_ret
  exact ⟨rfl, HB.out⟩
end Go.Proofs.Ytagejkfeceeifaa
