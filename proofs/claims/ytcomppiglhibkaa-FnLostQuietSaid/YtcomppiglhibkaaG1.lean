/- The texts DropLost, joined. -/
import Derived.Test.YtcomppiglhibkaaB2
/- What dropping a node loses: impl.DropLost and spec.DropLost. -/
namespace Go.Proofs.Ytcomppiglhibkaa
open Go.RowKit

set_option maxHeartbeats 2000000 in
theorem dropLost_any (view : Int) (A : Option Addr) (n c : Nat) (l : List Nod) (id : Int) (w : World) (h : Nods w 0 w.heap.size A n c l) (hn : n ≤ 1048576) (hlog : ∀ x ∈ l, x.log.length ≤ 1048576) :
    Calls Mo.prog 17 #[.agg #[.int .i64 view, .slice A n c], .int .i64 id] w (LogLeft w (lost view l id)) := by
  have HL := Lib.hid h.len
  have HG := Lib.hid hlog
  have H := Lib.hid (h.box (.cells #[.int .i64 view, .slice A n c] 25))
  have H1 := Lib.hid h
  clear h hlog
  by_cases hr : dropRole view l id = 1
  · obtain ⟨hok, _, h2⟩ := head_of hr
    rw [HL.out] at h2
    obtain ⟨b, off, x, A1, m1, d1, rfl, _, hbs, hx, _, c1, _, hf1⟩ := H1.out.nod (k := 0) (by omega)
    obtain ⟨b', off', y, A2, m2, d2, e, _, _, hy, _, c2, _, hf2⟩ := H1.out.nod (k := 1) (by omega)
    injection e with e; injection e with e1 e2
    subst e1; subst e2
    have hle := lost_len hok hx hy
    have hlo := lost_head hr hx hy
    rw [hf1.len, hf2.len] at hle
    rw [hf2.len] at hlo
    rw [hlo]
    have hpl : (x.log.drop m2).length = m1 - m2 := by rw [List.length_drop, hf1.len]
    have HPL := Lib.hid hpl
    have m20 : m1 ≤ 1048576 := by have := HG.out x (List.mem_of_getElem? hx); rw [hf1.len] at this; exact this
    have hk20 : m1 - m2 ≤ 1048576 := by omega
    have hmc := hf1.2.1
    have hmx := hf1.2.2.1
    unfold maxLen at hmx
    have HR := Lib.hid hr
    have hn0 : (0 : Int) < (n : Int) := by omega
    have hn1 : (1 : Int) < (n : Int) := by omega
    have hm0 : 0 < n := by omega
    have hm1 : 1 < n := by omega
    have m2le : (m2 : Int) ≤ (m1 : Int) := by omega
    clear hr hok hle hlo hpl hx hy hf2
    have c1' : w.cell? ⟨b, off + 1, none⟩ = some (.slice A1 m1 d1) := by simpa using c1
    have c2' : w.cell? ⟨b, off + 3 + 1, none⟩ = some (.slice A2 m2 d2) := by simpa using c2
    have HF := Lib.hid hf1
    clear c1 c2 hf1
    by_cases hlt : m2 < m1
    · obtain ⟨b1, off1, u, rfl, _⟩ := HF.out.at_ hlt
      have D := Lib.hid (HF.out.drop_at hlt)
      have hck : ¬ d1 = m2 := by omega
      go_enter Mo.func17, Try.ntmps17
      go_wp2_with fail
      refine (dropRole_any view _ _ _ l id _ H.out hn HG.out).mono ?_
      rintro e w1 ⟨rfl, hb1⟩
      rw [HR.out]
      have B1 := Lib.hid (below_box hb1).drew
      have q1 := box_cell (i := 1) hb1 (v := .slice (some ⟨b, off, none⟩) n c) rfl
      have p1 := ((below_box hb1).cell (p := ⟨b, off + 1, none⟩) hbs).trans c1'
      have p2 := ((below_box hb1).cell (p := ⟨b, off + 3 + 1, none⟩) hbs).trans c2'
      have F1 := Lib.hid (D.out.on B1.out)
      have hw1 : w.heap.size < w1.heap.size := by have := hb1.size; simp at this; omega
      have hbw : b < w1.heap.size := by omega
      clear hb1
      go_wp2_with fail
      go_region_held3 (fun V => V.cell? ⟨w.heap.size, 1, none⟩ = some (.slice (some ⟨b, off, none⟩) n c) ∧ V.cell? ⟨b, off + 1, none⟩ = some (.slice (some ⟨b1, off1, none⟩) m1 d1) ∧ V.cell? ⟨b, off + 3 + 1, none⟩ = some (.slice A2 m2 d2)) (go_keep) ((go_at_call 42; (with_reducible refine (copyLog_any _ _ _ (x.log.drop m2) _ F1.out hk20).mono ?_); rintro e w2 ⟨rfl, hown2, hb2⟩; have k1 := (hb2.cell (p := ⟨w.heap.size, 1, none⟩) hw1).trans q1; have k2 := (hb2.cell (p := ⟨b, off + 1, none⟩) hbw).trans p1; have k3 := (hb2.cell (p := ⟨b, off + 3 + 1, none⟩) hbw).trans p2; have O2 := Lib.hid hown2; have B2 := Lib.hid (B1.out.trans (hb2.mono B1.out.size)); clear hown2 hb2))
      go_wp2
      go_ret
      exact ⟨_, _, _, rfl, HPL.out, O2.out.mono B1.out.size, B2.out⟩
    · obtain rfl : m1 = m2 := by omega
      have hnil : x.log.drop m1 = [] := List.drop_eq_nil_of_le (by rw [HF.out.len]; exact Nat.le_refl _)
      have e0 : m1 - m1 = 0 := Nat.sub_self m1
      have hk20 : 0 ≤ 1048576 := by omega
      rw [hnil]
      clear hnil HPL
      rcases Nat.lt_or_eq_of_le hmc with hcn | hcn
      · have hcn' : ¬ d1 = m1 := by omega
        go_enter Mo.func17, Try.ntmps17
        go_wp2_with fail
        refine (dropRole_any view _ _ _ l id _ H.out hn HG.out).mono ?_
        rintro e w1 ⟨rfl, hb1⟩
        rw [HR.out]
        have B1 := Lib.hid (below_box hb1).drew
        have q1 := box_cell (i := 1) hb1 (v := .slice (some ⟨b, off, none⟩) n c) rfl
        have p1 := ((below_box hb1).cell (p := ⟨b, off + 1, none⟩) hbs).trans c1'
        have p2 := ((below_box hb1).cell (p := ⟨b, off + 3 + 1, none⟩) hbs).trans c2'
        have F1 := Lib.hid (Flat.empty Upd.enc 2 w1.drew 0 w1.drew.heap.size (A1.map (·.add (m1 * 2))) (d1 - m1) (by unfold maxLen; omega))
        have hw1 : w.heap.size < w1.heap.size := by have := hb1.size; simp at this; omega
        have hbw : b < w1.heap.size := by omega
        clear hb1
        go_wp2_with fail
        go_region_held3 (fun V => V.cell? ⟨w.heap.size, 1, none⟩ = some (.slice (some ⟨b, off, none⟩) n c) ∧ V.cell? ⟨b, off + 1, none⟩ = some (.slice A1 m1 d1) ∧ V.cell? ⟨b, off + 3 + 1, none⟩ = some (.slice A2 m1 d2)) (go_keep) ((go_at_call 42; (with_reducible refine (copyLog_any _ _ _ [] _ F1.out hk20).mono ?_); rintro e w2 ⟨rfl, hown2, hb2⟩; have k1 := (hb2.cell (p := ⟨w.heap.size, 1, none⟩) hw1).trans q1; have k2 := (hb2.cell (p := ⟨b, off + 1, none⟩) hbw).trans p1; have k3 := (hb2.cell (p := ⟨b, off + 3 + 1, none⟩) hbw).trans p2; have O2 := Lib.hid hown2; have B2 := Lib.hid (B1.out.trans (hb2.mono B1.out.size)); clear hown2 hb2))
        go_wp2
        go_ret
        exact ⟨_, _, _, rfl, rfl, O2.out.mono B1.out.size, B2.out⟩
      · subst hcn
        go_enter Mo.func17, Try.ntmps17
        go_wp2_with fail
        refine (dropRole_any view _ _ _ l id _ H.out hn HG.out).mono ?_
        rintro e w1 ⟨rfl, hb1⟩
        rw [HR.out]
        have B1 := Lib.hid (below_box hb1).drew
        have q1 := box_cell (i := 1) hb1 (v := .slice (some ⟨b, off, none⟩) n c) rfl
        have p1 := ((below_box hb1).cell (p := ⟨b, off + 1, none⟩) hbs).trans c1'
        have p2 := ((below_box hb1).cell (p := ⟨b, off + 3 + 1, none⟩) hbs).trans c2'
        have F1 := Lib.hid (Flat.empty Upd.enc 2 w1.drew 0 w1.drew.heap.size A1 0 (by unfold maxLen; omega))
        have hw1 : w.heap.size < w1.heap.size := by have := hb1.size; simp at this; omega
        have hbw : b < w1.heap.size := by omega
        clear hb1
        go_wp2_with fail
        go_region_held3 (fun V => V.cell? ⟨w.heap.size, 1, none⟩ = some (.slice (some ⟨b, off, none⟩) n c) ∧ V.cell? ⟨b, off + 1, none⟩ = some (.slice A1 m1 m1) ∧ V.cell? ⟨b, off + 3 + 1, none⟩ = some (.slice A2 m1 d2)) (go_keep) ((go_at_call 42; (with_reducible refine (copyLog_any _ _ _ [] _ F1.out hk20).mono ?_); rintro e w2 ⟨rfl, hown2, hb2⟩; have k1 := (hb2.cell (p := ⟨w.heap.size, 1, none⟩) hw1).trans q1; have k2 := (hb2.cell (p := ⟨b, off + 1, none⟩) hbw).trans p1; have k3 := (hb2.cell (p := ⟨b, off + 3 + 1, none⟩) hbw).trans p2; have O2 := Lib.hid hown2; have B2 := Lib.hid (B1.out.trans (hb2.mono B1.out.size)); clear hown2 hb2))
        go_wp2
        go_ret
        exact ⟨_, _, _, rfl, rfl, O2.out.mono B1.out.size, B2.out⟩
  · rw [lost_not hr]
    obtain ⟨r, hr'⟩ : ∃ r, dropRole view l id = r := ⟨_, rfl⟩
    rw [hr'] at hr
    have HR := Lib.hid hr'
    have hne : (r == 1) = false := by simp [hr]
    have hne' : (r != 1) = true := by simp [hr]
    clear hr' hr
    go_enter Mo.func17, Try.ntmps17
    go_wp2_with (go_at_call 41; refine (dropRole_any view _ _ _ l id _ H.out hn HG.out).mono ?_; rintro e w1 ⟨rfl, hb1⟩; rw [HR.out]; have B1 := Lib.hid (below_box hb1); clear hb1)
    go_ret
    exact logLeft_nil B1.out
end Go.Proofs.Ytcomppiglhibkaa
