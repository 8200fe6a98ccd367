/- The walk of a law on what a drop loses (laws.FnLostDone): it returns true, and writes nothing that was there. -/
import Derived.Test.YtagejkfeceeifaaVar
import Derived.Test.YtagejkfeceeifaaDropLostS
import Derived.Test.YtagejkfeceeifaaDrawJ
import Derived.Test.YtagejkfeceeifaaSame
namespace Go.Proofs.Ytagejkfeceeifaa
open Go.RowKit Go.Sort

set_option maxRecDepth 100000 in
set_option maxHeartbeats 16000000 in
theorem lostDone_walk (A : Option Addr) (n c : Nat) (l : List Int) (w : World) (h : Flat encU8 1 w 0 w.heap.size A n c l) (hl : ∀ x ∈ l, 0 ≤ x ∧ x ≤ 255) :
    Calls Try.prog 6 #[.slice A n c] w fun e w' => e = .returned (.bool true) ∧ Below w.heap.size w w' := by
  have H := Lib.hid h
  have HL := Lib.hid hl
  clear h hl
  by_cases hn : 1048576 < n
  · go_enter Try.func6, Try.ntmps6
    go_wp2
    go_ret
    exact ⟨rfl, Below.refl _ _⟩
  go_enter Try.func6, Try.ntmps6
  go_wp2_with fail
  refine (drawDropLost_any _ _ _ l _ H.out HL.out).mono ?_
  rintro e w1 ⟨view, A1, n1, c1, r, id, rfl, h1, h2, h3, h4, h6, hb1⟩
  obtain ⟨hn1, hl1⟩ := nods_ok h1 h3 h4
  have HG := Lib.hid hl1
  have M1 := Lib.hid h1
  have Vc := Lib.hid (Var.row h6 view)
  have HB := Lib.hid (hb1.alloc hb1.size (.cells #[.int .i64 view, .slice A1 n1 c1] 29))
  clear h1 h4 h6 hb1 H HL hl1
  obtain ⟨L, hL⟩ : ∃ L, lost view r id = L := ⟨_, rfl⟩
  have LL := Lib.hid hL
  have hL20 := Lib.hid (show L.length ≤ 1048576 from by
    rw [← hL]; unfold lost; split
    · split
      · rename_i a b ha hb; rw [List.length_drop]; have := HG.out a (List.mem_of_getElem? ha); omega
      · simp
    · simp)
  clear hL
  go_wp2_with fail
  have hc := dropLost_any view _ _ _ r id _ Vc.out.nods hn1 HG.out
  rw [LL.out] at hc
  refine hc.mono ?_
  clear hc
  rintro e w2 ⟨A2, m2, c2, rfl, hl2, ho2, hb⟩
  have F2 := Lib.hid ((own_flat' Upd.len ho2 hl2).mono (Nat.zero_le _) (Nat.le_refl _))
  have M2 := Lib.hid hl2
  have hm2 : m2 ≤ 1048576 := by have := hL20.out; omega
  clear ho2 hl2
  have Nc := Lib.hid (Vc.out.on hb)
  have NB := Lib.hid (HB.out.trans (hb.mono HB.out.size))
  clear hb HB Vc
  have Vc := Lib.hid Nc.out
  clear Nc
  have HB := Lib.hid NB.out
  clear NB
  have fc0 := Vc.out.c0
  have fc1 := Vc.out.c1
  have fcl := Vc.out.lt
  go_wp2_with fail
  have hc := specDropLost_any view _ _ _ r id _ Vc.out.nods hn1 HG.out
  rw [LL.out] at hc
  refine hc.mono ?_
  clear hc
  rintro e w3 ⟨A3, m3, c3, rfl, hl3, ho3, hb⟩
  obtain rfl : m3 = m2 := by rw [← hl3]; exact M2.out
  have G2 := Lib.hid (F2.out.on hb)
  have F3 := Lib.hid ((own_flat' Upd.len ho3 hl3).mono (Nat.zero_le _) (Nat.le_refl _))
  clear ho3 hl3 F2
  clear fc0 fc1 fcl
  have Nc := Lib.hid (Vc.out.on hb)
  have NB := Lib.hid (HB.out.trans (hb.mono HB.out.size))
  clear hb HB Vc
  have Vc := Lib.hid Nc.out
  clear Nc
  have HB := Lib.hid NB.out
  clear NB
  have fc0 := Vc.out.c0
  have fc1 := Vc.out.c1
  have fcl := Vc.out.lt
  go_wp2_with fail
  refine (sameLog_same A2 A3 m3 c2 c3 L _ G2.out F3.out hm2).mono ?_
  rintro e w4 ⟨rfl, hb⟩
  have F2 := Lib.hid (G2.out.on hb)
  have G3 := Lib.hid (F3.out.on hb)
  clear F3 G2
  clear fc0 fc1 fcl
  have Nc := Lib.hid (Vc.out.on hb)
  have NB := Lib.hid (HB.out.trans (hb.mono HB.out.size))
  clear hb HB Vc
  have Vc := Lib.hid Nc.out
  clear Nc
  have HB := Lib.hid NB.out
  clear NB
  have fc0 := Vc.out.c0
  have fc1 := Vc.out.c1
  have fcl := Vc.out.lt
  by_cases hz : m3 = 0
  · have hz' : ((m3 : Int) == 0) = true := by simp [hz]
    clear hz
    go_wp2_with fail
    refine (sameLog_same A2 A3 m3 c2 c3 L _ F2.out G3.out hm2).mono ?_
    rintro e w5 ⟨rfl, hb⟩
    clear fc0 fc1 fcl
    have Nc := Lib.hid (Vc.out.on hb)
    have NB := Lib.hid (HB.out.trans (hb.mono HB.out.size))
    clear hb HB Vc
    have Vc := Lib.hid Nc.out
    clear Nc
    have HB := Lib.hid NB.out
    clear NB
    go_wp2
    go_ret
    exact ⟨rfl, HB.out⟩
  have hz' : ((m3 : Int) == 0) = false := by simp; omega
  have hr1 : dropRole view r id = 1 := by
    by_cases hr : dropRole view r id = 1
    · exact hr
    · have h0 := lost_not hr
      rw [LL.out] at h0
      have := M2.out
      rw [h0] at this
      exact absurd this.symm hz
  have h2 := (head_of hr1).2.2
  obtain ⟨b, off, a, A5, m5, d5, hA, _, hbB, ha, ca0, ca1, ca2, hfa⟩ := Vc.out.nods.nod (k := 0) (by have := M1.out; omega)
  subst hA
  obtain ⟨y, hy⟩ : ∃ y, r[1]? = some y := ⟨_, List.getElem?_eq_getElem h2⟩
  obtain ⟨hlost, hle, hdone, hok⟩ := lost_pending hr1 ha hy
  have n0 : 0 < n1 := by have := M1.out; omega
  have n0' : (0 : Int) < (n1 : Int) := by omega
  have hm5 : m5 ≤ 1048576 := by have := hfa.len; have := HG.out a (List.mem_of_getElem? ha); omega
  have hpd : pending a = a.log.drop a.done.toNat := by unfold pending; rw [hok]; rfl
  have PD := Lib.hid hpd
  have hd0 := (nodeOk_iff.1 hok).2.2.2.1
  have hbig := hfa.len
  rw [LL.out] at hlost
  have hll := M2.out
  rw [hlost, List.length_drop] at hll
  have HLO := Lib.hid hlost
  have e0 : w4.cell? ⟨b, off, none⟩ = some (.int .i64 a.id) := by simpa using ca0
  have e1 : w4.cell? ⟨b, off + 1, none⟩ = some (.slice A5 m5 d5) := by simpa using ca1
  have e2 : w4.cell? ⟨b, off + 2, none⟩ = some (.int .i64 a.done) := by simpa using ca2
  obtain ⟨k, hk⟩ : ∃ k, a.done.toNat + k = y.log.length := ⟨y.log.length - a.done.toNat, by omega⟩
  have hk2 : k + m3 = m5 - a.done.toNat := by omega
  have HK := Lib.hid hk
  have HK2 := Lib.hid hk2
  have FA := Lib.hid hfa
  have hpos : 0 < m3 := by omega
  clear hz hr1 h2 ha hy hle hdone hok hpd hd0 hbig hll hlost hfa ca0 ca1 ca2 hk hk2
  go_wp2_with fail
  refine (nodePending_any a A5 m5 d5 _ FA.out hm5).mono ?_
  rintro e w5 ⟨A6, m6, c6, rfl, hl6, ho6, hb⟩
  have hlen6 := hl6
  rw [PD.out, List.length_drop, FA.out.len] at hlen6
  obtain rfl : m6 = k + m3 := by have := HK2.out; omega
  have F6 := (own_flat' Upd.len ho6 hl6).mono (Nat.zero_le _) (Nat.le_refl _) (lo' := 0) (hi' := w5.heap.size)
  have hc6 := F6.2.1
  have hc6m := F6.2.2.1
  unfold maxLen at hc6m
  obtain ⟨b6, off6, x6, e6, _⟩ := F6.at_ (k := 0) (by omega)
  subst e6
  have D6 := F6.drop_at (k := k) (by omega)
  have hlist : (pending a).drop k = L := by rw [PD.out, List.drop_drop, HLO.out, HK.out]
  rw [hlist, Nat.add_sub_cancel_left] at D6
  have D := Lib.hid D6
  have G2 := Lib.hid (F2.out.on hb)
  have hck : ¬ c6 = k := by omega
  have hkc : k ≤ c6 := by omega
  have hkm : k ≤ k + m3 := by omega
  have hkm' : (m3 : Int) ≤ (k : Int) + (m3 : Int) := by omega
  clear hl6 ho6 hlen6 F6 D6 hlist e0 e1 e2
  clear fc0 fc1 fcl
  have Nc := Lib.hid (Vc.out.on hb)
  have NB := Lib.hid (HB.out.trans (hb.mono HB.out.size))
  clear hb HB Vc
  have Vc := Lib.hid Nc.out
  clear Nc
  have HB := Lib.hid NB.out
  clear NB
  go_wp2_with fail
  refine (sameLog_same _ A2 m3 _ c2 L _ D.out G2.out hm2).mono ?_
  rintro e w6 ⟨rfl, hb⟩
  have Nc := Lib.hid (Vc.out.on hb)
  have NB := Lib.hid (HB.out.trans (hb.mono HB.out.size))
  clear hb HB Vc
  have Vc := Lib.hid Nc.out
  clear Nc
  have HB := Lib.hid NB.out
  clear NB
  go_wp2
  go_ret
  exact ⟨rfl, HB.out⟩
end Go.Proofs.Ytagejkfeceeifaa
