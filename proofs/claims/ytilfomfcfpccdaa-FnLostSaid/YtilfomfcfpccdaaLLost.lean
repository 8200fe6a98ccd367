/- The walk of a law on dropping a node (laws.FnLost): it returns true, and writes nothing that was there. -/
import Derived.Test.YtilfomfcfpccdaaVar
import Derived.Test.YtilfomfcfpccdaaDrawL
import Derived.Test.YtilfomfcfpccdaaDropB
import Derived.Test.YtilfomfcfpccdaaSameC
import Derived.Test.YtilfomfcfpccdaaDropLostS
import Derived.Test.YtilfomfcfpccdaaGoodB
namespace Go.Proofs.Ytilfomfcfpccdaa
open Go.RowKit Go.Sort

set_option maxRecDepth 100000 in
set_option maxHeartbeats 16000000 in
theorem lost_walk (A : Option Addr) (n c : Nat) (l : List Int) (w : World) (h : Flat encU8 1 w 0 w.heap.size A n c l) (hl : ∀ x ∈ l, 0 ≤ x ∧ x ≤ 255) :
    Calls Try.prog 7 #[.slice A n c] w fun e w' => e = .returned (.bool true) ∧ Below w.heap.size w w' := by
  have H := Lib.hid h
  have HL := Lib.hid hl
  clear h hl
  by_cases hn : 1048576 < n
  · go_enter Try.func7, Try.ntmps7
    go_wp2
    go_ret
    exact ⟨rfl, Below.refl _ _⟩
  go_enter Try.func7, Try.ntmps7
  go_wp2_with fail
  refine (drawChainDrop_any _ _ _ l _ H.out HL.out).mono ?_
  rintro e w1 ⟨view, A1, n1, c1, r, id, rfl, h1, h2, h3, h4, h6, hb1⟩
  obtain ⟨hn1, hl1⟩ := nods_ok h1 h3 h4
  have HG := Lib.hid hl1
  have M1 := Lib.hid h1
  have Vc := Lib.hid (Var.row h6 view)
  have HB := Lib.hid (hb1.alloc hb1.size (.cells #[.int .i64 view, .slice A1 n1 c1] 25))
  clear h1 h4 h6 hb1 H HL hl1
  obtain ⟨o, ho⟩ : ∃ o, dropM view r id = o := ⟨_, rfl⟩
  rcases o with _ | ⟨u, r2⟩
  · have HO := Lib.hid ho
    clear ho
    go_wp2_with fail
    refine (chainDrop_any view _ _ _ r id _ Vc.out.nods hn1 HG.out).mono ?_
    rintro e w2 hq
    obtain ⟨A2, c2, rfl, hq2, hb⟩ := hq.not HO.out
    clear hq
    have Nc := Lib.hid (Vc.out.on hb)
    have NB := Lib.hid (HB.out.trans (hb.mono HB.out.size))
    clear hb HB Vc
    have Vc := Lib.hid Nc.out
    clear Nc
    have HB := Lib.hid NB.out
    clear NB
    have fc0 := Vc.out.c0
    have fc1 := Vc.out.c1
    have fcl := Vc.out.lt
    have Nc := Lib.hid (Vc.out.alloc (.cells #[.int .i64 0, .slice A2 0 c2] 25))
    have No := Lib.hid (Var.new hq2 0)
    have NB := Lib.hid (HB.out.alloc HB.out.size (.cells #[.int .i64 0, .slice A2 0 c2] 25))
    clear hq2
    clear HB Vc
    have Vc := Lib.hid Nc.out
    clear Nc
    have Vo := Lib.hid No.out
    clear No
    have HB := Lib.hid NB.out
    clear NB
    go_wp2_with fail
    refine (specChainDrop_any view _ _ _ r id _ Vc.out.nods hn1 HG.out).mono ?_
    rintro e w3 hq
    obtain ⟨A3, c3, rfl, hq2, hb⟩ := hq.not HO.out
    clear hq
    clear fc0 fc1 fcl
    have Nc := Lib.hid (Vc.out.on hb)
    have No := Lib.hid (Vo.out.on hb)
    have NB := Lib.hid (HB.out.trans (hb.mono HB.out.size))
    clear hb HB Vc Vo
    have Vc := Lib.hid Nc.out
    clear Nc
    have Vo := Lib.hid No.out
    clear No
    have HB := Lib.hid NB.out
    clear NB
    have fc0 := Vc.out.c0
    have fc1 := Vc.out.c1
    have fcl := Vc.out.lt
    have fo0 := Vo.out.c0
    have fo1 := Vo.out.c1
    have fol := Vo.out.lt
    have Nc := Lib.hid (Vc.out.alloc (.cells #[.int .i64 0, .slice A3 0 c3] 25))
    have No := Lib.hid (Vo.out.alloc (.cells #[.int .i64 0, .slice A3 0 c3] 25))
    have Nw := Lib.hid (Var.new hq2 0)
    have NB := Lib.hid (HB.out.alloc HB.out.size (.cells #[.int .i64 0, .slice A3 0 c3] 25))
    clear hq2
    clear HB Vc Vo
    have Vc := Lib.hid Nc.out
    clear Nc
    have Vo := Lib.hid No.out
    clear No
    have Vw := Lib.hid Nw.out
    clear Nw
    have HB := Lib.hid NB.out
    clear NB
    go_wp2_with fail
    refine (sameChain_same 0 _ _ 0 _ _ [] _ Vo.out.nods Vw.out.nods (by omega) (fun x h => by cases h)).mono ?_
    rintro e w4 ⟨rfl, hb⟩
    clear fc0 fc1 fcl fo0 fo1 fol
    have Nc := Lib.hid (Vc.out.on hb)
    have No := Lib.hid (Vo.out.on hb)
    have Nw := Lib.hid (Vw.out.on hb)
    have NB := Lib.hid (HB.out.trans (hb.mono HB.out.size))
    clear hb HB Vc Vo Vw
    have Vc := Lib.hid Nc.out
    clear Nc
    have Vo := Lib.hid No.out
    clear No
    have Vw := Lib.hid Nw.out
    clear Nw
    have HB := Lib.hid NB.out
    clear NB
    have fc0 := Vc.out.c0
    have fc1 := Vc.out.c1
    have fcl := Vc.out.lt
    have fo0 := Vo.out.c0
    have fo1 := Vo.out.c1
    have fol := Vo.out.lt
    have fw0 := Vw.out.c0
    have fw1 := Vw.out.c1
    have fwl := Vw.out.lt
    go_wp2_with fail
    refine (sameChain_same 0 _ _ 0 _ _ [] _ Vo.out.nods Vw.out.nods (by omega) (fun x h => by cases h)).mono ?_
    rintro e w5 ⟨rfl, hb⟩
    clear fc0 fc1 fcl fo0 fo1 fol fw0 fw1 fwl
    have Nc := Lib.hid (Vc.out.on hb)
    have No := Lib.hid (Vo.out.on hb)
    have Nw := Lib.hid (Vw.out.on hb)
    have NB := Lib.hid (HB.out.trans (hb.mono HB.out.size))
    clear hb HB Vc Vo Vw
    have Vc := Lib.hid Nc.out
    clear Nc
    have Vo := Lib.hid No.out
    clear No
    have Vw := Lib.hid Nw.out
    clear Nw
    have HB := Lib.hid NB.out
    clear NB
    have fc0 := Vc.out.c0
    have fc1 := Vc.out.c1
    have fcl := Vc.out.lt
    have fo0 := Vo.out.c0
    have fo1 := Vo.out.c1
    have fol := Vo.out.lt
    have fw0 := Vw.out.c0
    have fw1 := Vw.out.c1
    have fwl := Vw.out.lt
    go_wp2
    go_ret
    exact ⟨rfl, HB.out⟩
  have HO := Lib.hid ho
  clear ho
  go_wp2_with fail
  refine (chainDrop_any view _ _ _ r id _ Vc.out.nods hn1 HG.out).mono ?_
  rintro e w2 hq
  obtain ⟨A2, n2, c2, rfl, hq1, hq2, hb⟩ := hq.yes HO.out
  clear hq
  have Mo := Lib.hid hq1
  clear hq1
  have Nc := Lib.hid (Vc.out.on hb)
  have NB := Lib.hid (HB.out.trans (hb.mono HB.out.size))
  clear hb HB Vc
  have Vc := Lib.hid Nc.out
  clear Nc
  have HB := Lib.hid NB.out
  clear NB
  have fc0 := Vc.out.c0
  have fc1 := Vc.out.c1
  have fcl := Vc.out.lt
  have Nc := Lib.hid (Vc.out.alloc (.cells #[.int .i64 u, .slice A2 n2 c2] 25))
  have No := Lib.hid (Var.new hq2 u)
  have NB := Lib.hid (HB.out.alloc HB.out.size (.cells #[.int .i64 u, .slice A2 n2 c2] 25))
  clear hq2
  clear HB Vc
  have Vc := Lib.hid Nc.out
  clear Nc
  have Vo := Lib.hid No.out
  clear No
  have HB := Lib.hid NB.out
  clear NB
  go_wp2_with fail
  refine (specChainDrop_any view _ _ _ r id _ Vc.out.nods hn1 HG.out).mono ?_
  rintro e w3 hq
  obtain ⟨A3, n3, c3, rfl, hq1, hq2, hb⟩ := hq.yes HO.out
  clear hq
  have Mw := Lib.hid hq1
  clear hq1
  clear fc0 fc1 fcl
  have Nc := Lib.hid (Vc.out.on hb)
  have No := Lib.hid (Vo.out.on hb)
  have NB := Lib.hid (HB.out.trans (hb.mono HB.out.size))
  clear hb HB Vc Vo
  have Vc := Lib.hid Nc.out
  clear Nc
  have Vo := Lib.hid No.out
  clear No
  have HB := Lib.hid NB.out
  clear NB
  have fc0 := Vc.out.c0
  have fc1 := Vc.out.c1
  have fcl := Vc.out.lt
  have fo0 := Vo.out.c0
  have fo1 := Vo.out.c1
  have fol := Vo.out.lt
  have Nc := Lib.hid (Vc.out.alloc (.cells #[.int .i64 u, .slice A3 n3 c3] 25))
  have No := Lib.hid (Vo.out.alloc (.cells #[.int .i64 u, .slice A3 n3 c3] 25))
  have Nw := Lib.hid (Var.new hq2 u)
  have NB := Lib.hid (HB.out.alloc HB.out.size (.cells #[.int .i64 u, .slice A3 n3 c3] 25))
  clear hq2
  obtain rfl : n3 = n2 := by rw [← Mo.out, ← Mw.out]
  clear HB Vc Vo
  have Vc := Lib.hid Nc.out
  clear Nc
  have Vo := Lib.hid No.out
  clear No
  have Vw := Lib.hid Nw.out
  clear Nw
  have HB := Lib.hid NB.out
  clear NB
  go_wp2_with fail
  have hgood := dropM_some HO.out
  have hok5 := good_ok hgood.2.2.2.2.choose_spec.2.2.1
  have HG2 := Lib.hid (show ∀ x ∈ r2, x.log.length ≤ 1048576 from fun x hx => by have := hok5.2 x hx; omega)
  have hn5 : n3 ≤ 5 := by have := hok5.1; have := Mo.out; omega
  have hn3 : n3 ≤ 1048576 := by omega
  clear hgood hok5
  refine (sameChain_same u _ _ n3 _ _ r2 _ Vo.out.nods Vw.out.nods hn3 HG2.out).mono ?_
  rintro e w4 ⟨rfl, hb⟩
  clear fc0 fc1 fcl fo0 fo1 fol
  have Nc := Lib.hid (Vc.out.on hb)
  have No := Lib.hid (Vo.out.on hb)
  have Nw := Lib.hid (Vw.out.on hb)
  have NB := Lib.hid (HB.out.trans (hb.mono HB.out.size))
  clear hb HB Vc Vo Vw
  have Vc := Lib.hid Nc.out
  clear Nc
  have Vo := Lib.hid No.out
  clear No
  have Vw := Lib.hid Nw.out
  clear Nw
  have HB := Lib.hid NB.out
  clear NB
  have fc0 := Vc.out.c0
  have fc1 := Vc.out.c1
  have fcl := Vc.out.lt
  have fo0 := Vo.out.c0
  have fo1 := Vo.out.c1
  have fol := Vo.out.lt
  have fw0 := Vw.out.c0
  have fw1 := Vw.out.c1
  have fwl := Vw.out.lt
  clear Vw Mw fw0 fw1 fwl
  have hs := dropM_some HO.out
  have p1 : 0 < n1 := by have := hs.2.2.2.1; have := M1.out; omega
  have p3 : 0 < n3 := by have := hs.2.2.2.1; obtain ⟨_, _, _, _, q, _, _, _, e⟩ := hs; have := Mo.out; omega
  have p1' : (0 : Int) < (n1 : Int) := by omega
  have p3' : (0 : Int) < (n3 : Int) := by omega
  obtain ⟨a, ha⟩ : ∃ a, r[0]? = some a := ⟨_, List.getElem?_eq_getElem (by have := M1.out; omega)⟩
  obtain ⟨b, hb0⟩ : ∃ b, r2[0]? = some b := ⟨_, List.getElem?_eq_getElem (by have := Mo.out; omega)⟩
  obtain ⟨hlost, hid⟩ := drop_lost HO.out ha hb0
  have hpre := drop_head HO.out ha hb0
  obtain ⟨L, hL⟩ : ∃ L, lost view r id = L := ⟨_, rfl⟩
  rw [hL] at hlost hid
  have LL := Lib.hid hL
  have HLO := Lib.hid hlost
  have HID := Lib.hid hid
  have HPRE := Lib.hid hpre
  have HA := Lib.hid ha
  have HB0 := Lib.hid hb0
  have hma := HG.out a (List.mem_of_getElem? ha)
  clear hs ha hb0 hlost hid hpre hL
  go_wp2_with fail
  have hc := dropLost_any view _ _ _ r id _ Vc.out.nods hn1 HG.out
  rw [LL.out] at hc
  refine hc.mono ?_
  clear hc
  rintro e w5 ⟨A5, m5, c5, rfl, hl5, ho5, hb⟩
  have F5 := Lib.hid ((own_flat' Upd.len ho5 hl5).mono (Nat.zero_le _) (Nat.le_refl _))
  have M5 := Lib.hid hl5
  clear ho5 hl5
  clear fc0 fc1 fcl fo0 fo1 fol
  have Nc := Lib.hid (Vc.out.on hb)
  have No := Lib.hid (Vo.out.on hb)
  have NB := Lib.hid (HB.out.trans (hb.mono HB.out.size))
  clear hb HB Vc Vo
  have Vc := Lib.hid Nc.out
  clear Nc
  have Vo := Lib.hid No.out
  clear No
  have HB := Lib.hid NB.out
  clear NB
  have fc0 := Vc.out.c0
  have fc1 := Vc.out.c1
  have fcl := Vc.out.lt
  have fo0 := Vo.out.c0
  have fo1 := Vo.out.c1
  have fol := Vo.out.lt
  obtain ⟨ba, offa, a', A6, ma, d6, hA6, _, hbA, ha', ca0, ca1, _, hfa⟩ := Vc.out.nods.nod (k := 0) p1
  subst hA6
  rw [HA.out] at ha'; injection ha' with ha'; subst ha'
  obtain ⟨bb, offb, b', A7, mb, d7, hA7, _, hbB, hb', cb0, cb1, _, hfb⟩ := Vo.out.nods.nod (k := 0) p3
  subst hA7
  rw [HB0.out] at hb'; injection hb' with hb'; subst hb'
  have e0 : w5.cell? ⟨ba, offa, none⟩ = some (.int .i64 a.id) := by simpa using ca0
  have e1 : w5.cell? ⟨ba, offa + 1, none⟩ = some (.slice A6 ma d6) := by simpa using ca1
  have e2 : w5.cell? ⟨bb, offb + 1, none⟩ = some (.slice A7 mb d7) := by simpa using cb1
  have hla := hfa.len
  have hlb := hfb.len
  have hle : mb ≤ ma := by have := HPRE.out; omega
  have hll : m5 = ma - mb := by have := M5.out; rw [← HLO.out, List.length_drop] at this; omega
  subst hll
  have hm5 : ma - mb ≤ 1048576 := by omega
  have hmc := hfa.2.1
  have hmx := hfa.2.2.1
  unfold maxLen at hmx
  have i1 : (mb : Int) ≤ (ma : Int) := by omega
  have i2 : (mb : Int) ≤ (d6 : Int) := by omega
  have i3 : mb ≤ d6 := by omega
  have FA := Lib.hid hfa
  have hd : a.log.drop mb = L := by rw [← hlb]; exact HLO.out
  have HD := Lib.hid hd
  clear ca0 ca1 cb0 cb1 hla hlb hfa hfb hd
  by_cases hlt : mb < ma
  · obtain ⟨b1, off1, u1, hA1, _⟩ := FA.out.at_ hlt
    subst hA1
    have D := FA.out.drop_at hlt
    rw [HD.out] at D
    have FD := Lib.hid D
    have hck : ¬ d6 = mb := by omega
    have hne : L ≠ [] := by intro e; have := M5.out; rw [e] at this; simp at this; omega
    have hida : (id == a.id) = true := by rcases HID.out with h | h; simp [h]; exact absurd h hne
    clear D hne
    go_wp2_with fail
    refine (sameLog_same _ A5 (ma - mb) _ c5 L _ FD.out F5.out hm5).mono ?_
    rintro e w6 ⟨rfl, hb⟩
    clear fc0 fc1 fcl fo0 fo1 fol
    have e0' := (hb.cell (p := ⟨ba, offa, none⟩) hbA).trans e0
    clear e0 e1 e2
    have Nc := Lib.hid (Vc.out.on hb)
    have No := Lib.hid (Vo.out.on hb)
    have NB := Lib.hid (HB.out.trans (hb.mono HB.out.size))
    clear hb HB Vc Vo
    have Vc := Lib.hid Nc.out
    clear Nc
    have Vo := Lib.hid No.out
    clear No
    have HB := Lib.hid NB.out
    clear NB
    have fc0 := Vc.out.c0
    have fc1 := Vc.out.c1
    have fcl := Vc.out.lt
    go_wp2
    go_ret
    exact ⟨rfl, HB.out⟩
  obtain rfl : ma = mb := by omega
  have hnil : L = [] := by rw [← HD.out]; exact List.drop_eq_nil_of_le (by rw [FA.out.len]; exact Nat.le_refl _)
  subst hnil
  have e00 : ma - ma = 0 := Nat.sub_self ma
  have hw5 : w5.heap.size ≤ w5.heap.size := Nat.le_refl _
  obtain ⟨b9, hb9⟩ : ∃ b9, (id == a.id) = b9 := ⟨_, rfl⟩
  rw [e00] at F5 hm5
  rcases Nat.lt_or_eq_of_le hmc with hcn | hcn
  · have hcn' : ¬ d6 = ma := by omega
    have FD := Lib.hid (Flat.empty Upd.enc 2 w5 0 w5.heap.size (A6.map (·.add (ma * 2))) (d6 - ma) (by unfold maxLen; omega))
    cases b9
    all_goals
      go_wp2_with fail
      refine (sameLog_same _ A5 0 _ c5 [] _ FD.out F5.out hm5).mono ?_
      rintro e w6 ⟨rfl, hb⟩
      have e0' := (hb.cell (p := ⟨ba, offa, none⟩) hbA).trans e0
      have X := Lib.hid (Vc.out.on hb)
      have NB := Lib.hid (HB.out.trans (hb.mono HB.out.size))
      have x1 := X.out.c1
      have x2 := X.out.lt
      clear hb fc0 fc1 fcl fo0 fo1 fol e0 e1 e2
      go_wp2
      go_ret
      exact ⟨rfl, NB.out⟩
  · subst hcn
    have FD := Lib.hid (Flat.empty Upd.enc 2 w5 0 w5.heap.size A6 0 (by unfold maxLen; omega))
    cases b9
    all_goals
      go_wp2_with fail
      refine (sameLog_same _ A5 0 _ c5 [] _ FD.out F5.out hm5).mono ?_
      rintro e w6 ⟨rfl, hb⟩
      have e0' := (hb.cell (p := ⟨ba, offa, none⟩) hbA).trans e0
      have X := Lib.hid (Vc.out.on hb)
      have NB := Lib.hid (HB.out.trans (hb.mono HB.out.size))
      have x1 := X.out.c1
      have x2 := X.out.lt
      clear hb fc0 fc1 fcl fo0 fo1 fol e0 e1 e2
      go_wp2
      go_ret
      exact ⟨rfl, NB.out⟩
end Go.Proofs.Ytilfomfcfpccdaa
