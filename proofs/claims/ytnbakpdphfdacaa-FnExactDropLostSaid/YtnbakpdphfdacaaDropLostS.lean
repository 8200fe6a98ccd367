/- What dropping a node loses: spec.DropLost. -/
import Derived.Test.YtnbakpdphfdacaaDropLost
import Derived.Test.YtnbakpdphfdacaaCopyC
namespace Go.Proofs.Ytnbakpdphfdacaa
open Go.RowKit

set_option maxRecDepth 100000 in
set_option maxHeartbeats 4000000 in
theorem specDropLost_any (view : Int) (A : Option Addr) (n c : Nat) (l : List Nod) (id : Int) (w : World) (h : Nods w 0 w.heap.size A n c l) (hn : n ≤ 1048576) (hlog : ∀ x ∈ l, x.log.length ≤ 1048576) :
    Calls Try.prog 23 #[.agg #[.int .i64 view, .slice A n c], .int .i64 id] w (LogLeft w (lost view l id)) := by
  obtain ⟨i0, hi, hz0, hz1, hz2⟩ := info_parts infoUpd
  have HL := Lib.hid h.len
  have HG := Lib.hid hlog
  have H := Lib.hid (h.box (.cells #[.int .i64 view, .slice A n c] 33))
  have H1 := Lib.hid h
  clear h hlog
  obtain ⟨pl, hpl⟩ : ∃ pl, placeI (placeOf l id) = pl := ⟨_, rfl⟩
  have HPL := Lib.hid hpl
  by_cases hr : dropRole view l id = 1
  · obtain ⟨hok, hp0, h2⟩ := head_of hr
    rw [HL.out] at h2
    rw [hp0] at hpl
    subst hpl
    obtain ⟨b, off, x, A1, m1, d1, rfl, _, hbs, hx, _, c1, _, hf1⟩ := H1.out.nod (k := 0) (by omega)
    obtain ⟨b', off', y, A2, m2, d2, e, _, _, hy, _, c2, _, hf2⟩ := H1.out.nod (k := 1) (by omega)
    injection e with e; injection e with e1 e2
    subst e1; subst e2
    have hle := lost_len hok hx hy
    have hlo := lost_head hr hx hy
    rw [hf1.len, hf2.len] at hle
    rw [hf2.len] at hlo
    have hpl : (x.log.drop m2).length = m1 - m2 := by rw [List.length_drop, hf1.len]
    have HLO := Lib.hid hlo
    have HPX := Lib.hid hpl
    have m20 : m1 ≤ 1048576 := by have := HG.out x (List.mem_of_getElem? hx); rw [hf1.len] at this; exact this
    have hk20 : m1 - m2 ≤ 1048576 := by omega
    have hmc := hf1.2.1
    have hmx := hf1.2.2.1
    unfold maxLen at hmx
    have HO := Lib.hid hok
    have hn0 : (0 : Int) < (n : Int) := by omega
    have hn1 : (1 : Int) < (n : Int) := by omega
    have hm0 : 0 < n := by omega
    have hm1 : 1 < n := by omega
    have hz1n : ((n : Int) == 1) = false := by simp; omega
    have m2le : (m2 : Int) ≤ (m1 : Int) := by omega
    have m2c : (m2 : Int) ≤ (d1 : Int) := by omega
    have m2c' : m2 ≤ d1 := by omega
    clear hr hok hle hlo hpl hx hy hf2 hp0 h2
    have c1' : w.cell? ⟨b, off + 1, none⟩ = some (.slice A1 m1 d1) := by simpa using c1
    have c2' : w.cell? ⟨b, off + 3 + 1, none⟩ = some (.slice A2 m2 d2) := by simpa using c2
    have HF := Lib.hid hf1
    clear c1 c2 hf1
    go_enter Try.func23, Try.ntmps23
    go_wp2_with fail
    refine (specChainValid_any _ _ _ _ l _ H.out hn HG.out).mono ?_
    rintro e w1 ⟨rfl, hb1⟩
    rw [HO.out]
    have B1 := Lib.hid (below_box hb1)
    have K1 := Lib.hid ((Blk.new w #[.int .i64 view, .slice (some ⟨b, off, none⟩) n c] 33).below hb1)
    have q0 := K1.out.cell (i := 0) (v := .int .i64 view) rfl
    have q1 := K1.out.cell (i := 1) (v := .slice (some ⟨b, off, none⟩) n c) rfl
    have F1 := Lib.hid (H1.out.on B1.out)
    clear hb1
    go_wp2_with fail
    refine (l11At_any _ _ _ _ l _ _ F1.out hn).mono ?_
    rintro e w2 ⟨rfl, hb2⟩
    rw [HPL.out]
    have B2 := Lib.hid (B1.out.trans (hb2.mono B1.out.size))
    have K2 := Lib.hid (K1.out.below hb2)
    clear hb2 q0 q1 K1 F1
    have q1 := K2.out.cell (i := 1) (v := .slice (some ⟨b, off, none⟩) n c) rfl
    have p1 := (B2.out.cell (p := ⟨b, off + 1, none⟩) hbs).trans c1'
    have p2 := (B2.out.cell (p := ⟨b, off + 3 + 1, none⟩) hbs).trans c2'
    have s2 : w.heap.size < w2.heap.size := K2.out.lt
    have sb : b < w2.heap.size := by omega
    have HO2 := Lib.hid (made0 w2 w2.heap.size w.heap.size 72 2 rfl B2.out.size).drew
    have hwb : w.heap.size ≤ (w2.alloc (.cells #[] 72)).drew.heap.size := by simp; omega
    have BB := Lib.hid ((B2.out.alloc B2.out.size (.cells #[] 72)).drew)
    by_cases hlt : m2 < m1
    · obtain ⟨b1, off1, u, rfl, _⟩ := HF.out.at_ hlt
      have SR := Lib.hid (flat_src Upd.len (by omega) (((HF.out.drop_at hlt).on B2.out |>.box (.cells #[] 72)).below (Below.refl _ _).drew (Nat.le_refl _)))
      have hck : ¬ d1 = m2 := by omega
      have HPL2 := Lib.hid (show (x.log.drop m2).length = m1 - m2 from HPX.out)
      go_wp2_with fail
      go_region_held3 (fun V => V.cell? ⟨w.heap.size, 1, none⟩ = some (.slice (some ⟨b, off, none⟩) n c) ∧ V.cell? ⟨b, off + 1, none⟩ = some (.slice (some ⟨b1, off1, none⟩) m1 d1) ∧ V.cell? ⟨b, off + 3 + 1, none⟩ = some (.slice A2 m2 d2)) (go_keep) ((first
        | (refine step_append_src _ (by rfl) (.tmp 21) (.tmp 33) 40 (by rfl) w.heap.size 72 i0 _ 2 16 Try.underlying40 hi hz0 hz1 hz2 rfl (by omega) (.slice (some ⟨w2.heap.size, 0, none⟩) 0 0) 0 [] (by rfl) HO2.out (some ⟨b1, off1 + m2 * 2, none⟩) (m1 - m2) (d1 - m2) _ (by rfl) SR.out (one_enc Upd.one _) (by unfold maxLen; omega) (by omega) hwb ?_; intro v6 w6 hown6 hg6
           rw [Nat.zero_add, List.nil_append] at hown6; obtain ⟨A6, c6, rfl, _⟩ := own_flat Upd.len hown6 HPL2.out; have O6 := Lib.hid hown6; have B6 := Lib.hid (BB.out.grown hg6 hwb (fun k e => by cases e; exact B2.out.size)); have k1 := (K2.out.alloc (.cells #[] 72)).drew.grown hg6 (by intro e; simp [Value.ownBlock] at e; omega) |>.cell (i := 1) (v := .slice (some ⟨b, off, none⟩) n c) rfl; have k2 := (B6.out.cell (p := ⟨b, off + 1, none⟩) hbs).trans c1'; have k3 := (B6.out.cell (p := ⟨b, off + 3 + 1, none⟩) hbs).trans c2'; clear hown6 hg6)))
      all_goals
        go_wp2
        go_ret
        exact ⟨A6, (m1 - m2), c6, rfl, by rw [HLO.out]; exact HPX.out, by rw [HLO.out]; exact O6.out, B6.out⟩
    · obtain rfl : m1 = m2 := by omega
      have hnil : x.log.drop m1 = [] := List.drop_eq_nil_of_le (by rw [HF.out.len]; exact Nat.le_refl _)
      have e0 : m1 - m1 = 0 := Nat.sub_self m1
      have HPL2 := Lib.hid (show ([] : List Upd).length = 0 from rfl)
      rw [hnil] at HLO
      clear hnil HPX
      have HPX := Lib.hid (show ([] : List Upd).length = 0 from rfl)
      have SRN := Lib.hid (show ∀ A : Option Addr, Src (w2.alloc (.cells #[] 72)).drew 2 A 0 (([] : List Upd).flatMap Upd.enc) from fun A => ⟨rfl, fun _ => rfl, fun ad _ j u hu => by simp at hu⟩)
      rcases Nat.lt_or_eq_of_le hmc with hcn | hcn
      · have hcn' : ¬ d1 = m1 := by omega
        have SR := Lib.hid (SRN.out (A1.map (·.add (m1 * 2))))
        go_wp2_with fail
        go_region_held3 (fun V => V.cell? ⟨w.heap.size, 1, none⟩ = some (.slice (some ⟨b, off, none⟩) n c) ∧ V.cell? ⟨b, off + 1, none⟩ = some (.slice A1 m1 d1) ∧ V.cell? ⟨b, off + 3 + 1, none⟩ = some (.slice A2 m1 d2)) (go_keep) ((first
          | (refine step_append_src _ (by rfl) (.tmp 21) (.tmp 33) 40 (by rfl) w.heap.size 72 i0 _ 2 16 Try.underlying40 hi hz0 hz1 hz2 rfl (by omega) (.slice (some ⟨w2.heap.size, 0, none⟩) 0 0) 0 [] (by rfl) HO2.out (A1.map (·.add (m1 * 2))) 0 (d1 - m1) _ (by rfl) SR.out (one_enc Upd.one _) (by unfold maxLen; omega) (by omega) hwb ?_; intro v6 w6 hown6 hg6
             rw [Nat.zero_add, List.nil_append] at hown6; obtain ⟨A6, c6, rfl, _⟩ := own_flat Upd.len hown6 HPL2.out; have O6 := Lib.hid hown6; have B6 := Lib.hid (BB.out.grown hg6 hwb (fun k e => by cases e; exact B2.out.size)); have k1 := (K2.out.alloc (.cells #[] 72)).drew.grown hg6 (by intro e; simp [Value.ownBlock] at e; omega) |>.cell (i := 1) (v := .slice (some ⟨b, off, none⟩) n c) rfl; have k2 := (B6.out.cell (p := ⟨b, off + 1, none⟩) hbs).trans c1'; have k3 := (B6.out.cell (p := ⟨b, off + 3 + 1, none⟩) hbs).trans c2'; clear hown6 hg6)))
        all_goals
          go_wp2
          go_ret
          exact ⟨A6, 0, c6, rfl, by rw [HLO.out]; exact HPX.out, by rw [HLO.out]; exact O6.out, B6.out⟩
      · subst hcn
        have SR := Lib.hid (SRN.out A1)
        go_wp2_with fail
        go_region_held3 (fun V => V.cell? ⟨w.heap.size, 1, none⟩ = some (.slice (some ⟨b, off, none⟩) n c) ∧ V.cell? ⟨b, off + 1, none⟩ = some (.slice A1 m1 m1) ∧ V.cell? ⟨b, off + 3 + 1, none⟩ = some (.slice A2 m1 d2)) (go_keep) ((first
          | (refine step_append_src _ (by rfl) (.tmp 21) (.tmp 33) 40 (by rfl) w.heap.size 72 i0 _ 2 16 Try.underlying40 hi hz0 hz1 hz2 rfl (by omega) (.slice (some ⟨w2.heap.size, 0, none⟩) 0 0) 0 [] (by rfl) HO2.out A1 0 0 _ (by rfl) SR.out (one_enc Upd.one _) (by unfold maxLen; omega) (by omega) hwb ?_; intro v6 w6 hown6 hg6
             rw [Nat.zero_add, List.nil_append] at hown6; obtain ⟨A6, c6, rfl, _⟩ := own_flat Upd.len hown6 HPL2.out; have O6 := Lib.hid hown6; have B6 := Lib.hid (BB.out.grown hg6 hwb (fun k e => by cases e; exact B2.out.size)); have k1 := (K2.out.alloc (.cells #[] 72)).drew.grown hg6 (by intro e; simp [Value.ownBlock] at e; omega) |>.cell (i := 1) (v := .slice (some ⟨b, off, none⟩) n c) rfl; have k2 := (B6.out.cell (p := ⟨b, off + 1, none⟩) hbs).trans c1'; have k3 := (B6.out.cell (p := ⟨b, off + 3 + 1, none⟩) hbs).trans c2'; clear hown6 hg6)))
        all_goals
          go_wp2
          go_ret
          exact ⟨A6, 0, c6, rfl, by rw [HLO.out]; exact HPX.out, by rw [HLO.out]; exact O6.out, B6.out⟩
  · have HLO := Lib.hid (lost_not hr)
    obtain ⟨ok, hok⟩ : ∃ ok, chainOk view l = ok := ⟨_, rfl⟩
    have hge : -1 ≤ pl := by rw [← hpl]; exact placeI_ge _
    have hlt : pl < (n : Int) ∨ n = 0 := by have := placeI_lt (l := l) (id := id); rw [hpl, HL.out] at this; exact this
    have hcases : ok = false ∨ (ok = true ∧ (pl != 0) = true) ∨ (ok = true ∧ pl = 0 ∧ n = 1) := by
      cases ok with
      | false => exact .inl rfl
      | true =>
        by_cases h0 : pl = 0
        · refine .inr (.inr ⟨rfl, h0, ?_⟩)
          have hd := dropRole_ok (id := id) hok HL.out
          rw [hpl, h0] at hd
          have := chainOk_len hok
          rw [HL.out] at this
          by_cases h1 : n = 1
          · exact h1
          · exact absurd (hd.trans (roleOf1 (by omega) (by omega) (by omega) rfl)) hr
        · exact .inr (.inl ⟨rfl, by simp [h0]⟩)
    have HO := Lib.hid hok
    clear hr hok hpl hlt
    have key : ∀ w1 : World, Below w.heap.size w w1 → LogLeft w (lost view l id) (.returned (.slice (some ⟨w1.heap.size, 0, none⟩) 0 0)) (w1.alloc (.cells #[] 72)) := fun w1 hb => by rw [HLO.out]; exact logLeft_nil hb
    have KEY := Lib.hid key
    clear key
    go_enter Try.func23, Try.ntmps23
    go_wp2_with fail
    refine (specChainValid_any _ _ _ _ l _ H.out hn HG.out).mono ?_
    rintro e w1 ⟨rfl, hb1⟩
    rw [HO.out]
    have B1 := Lib.hid (below_box hb1)
    have K1 := Lib.hid ((Blk.new w #[.int .i64 view, .slice A n c] 33).below hb1)
    have q0 := K1.out.cell (i := 0) (v := .int .i64 view) rfl
    have q1 := K1.out.cell (i := 1) (v := .slice A n c) rfl
    have F1 := Lib.hid (H1.out.on B1.out)
    clear hb1
    rcases hcases with rfl | ⟨rfl, h0⟩ | ⟨rfl, rfl, rfl⟩
    · go_wp2
      go_ret
      exact KEY.out _ B1.out
    · go_wp2_with fail
      refine (l11At_any _ _ _ _ l _ _ F1.out hn).mono ?_
      rintro e w2 ⟨rfl, hb2⟩
      rw [HPL.out]
      have B2 := Lib.hid (B1.out.trans (hb2.mono B1.out.size))
      clear hb2 q0 q1
      go_wp2
      go_ret
      exact KEY.out _ B2.out
    · go_wp2_with fail
      refine (l11At_any _ _ _ _ l _ _ F1.out hn).mono ?_
      rintro e w2 ⟨rfl, hb2⟩
      rw [HPL.out]
      have B2 := Lib.hid (B1.out.trans (hb2.mono B1.out.size))
      have K2 := Lib.hid (K1.out.below hb2)
      clear hb2 q0 q1
      have q1 := K2.out.cell (i := 1) (v := .slice A 1 c) rfl
      go_wp2
      go_ret
      exact KEY.out _ B2.out
end Go.Proofs.Ytnbakpdphfdacaa
