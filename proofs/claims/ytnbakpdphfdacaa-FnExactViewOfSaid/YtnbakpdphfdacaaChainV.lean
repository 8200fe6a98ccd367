/- Chains are valid: the program's walk. -/
import Derived.Test.YtnbakpdphfdacaaChainB
namespace Go.Proofs.Ytnbakpdphfdacaa
open Go.RowKit

theorem chainOk_ends {v : Int} {l : List Nod} (h : ¬ (0 ≤ v ∧ v ≤ 999 ∧ 1 ≤ l.length ∧ l.length ≤ 5)) : chainOk v l = false := by
  cases hc : chainOk v l
  · rfl
  · exfalso; apply h
    unfold chainOk inB at hc
    simp only [Bool.and_eq_true, decide_eq_true_eq] at hc
    exact ⟨hc.1.1.1.1.1, hc.1.1.1.1.2, hc.1.1.1.2, hc.1.1.2⟩
theorem chainOk_mk {v : Int} {l : List Nod} (h0 : 0 ≤ v) (h1 : v ≤ 999) (h2 : 1 ≤ l.length) (h3 : l.length ≤ 5) (h : (List.range l.length).all (nodAt l) = true) : chainOk v l = tailOk l := by
  unfold chainOk inB; rw [h]; simp [h0, h1, h2, h3]
theorem tailOk_at {l : List Nod} {x : Nod} {n : Nat} (hl : l.length = n) (hx : l[n - 1]? = some x) : tailOk l = decide (x.done = x.log.length) := by
  unfold tailOk; rw [hl, hx]
theorem mem_len {l : List Nod} {k : Nat} {x : Nod} (h : ∀ x ∈ l, x.log.length ≤ 1048576) (hx : l[k]? = some x) : x.log.length ≤ 1048576 := h x (List.mem_of_getElem? hx)

set_option maxHeartbeats 4000000 in
theorem chainValid_any (view : Int) (A : Option Addr) (n c : Nat) (l : List Nod) (w : World) (h : Nods w 0 w.heap.size A n c l) (hn : n ≤ 1048576) (hlog : ∀ x ∈ l, x.log.length ≤ 1048576) :
    Calls Try.prog 49 #[.agg #[.int .i64 view, .slice A n c]] w fun e w' => e = .returned (.bool (chainOk view l)) ∧ Below w.heap.size w w' := by
  have HL := Lib.hid h.len
  have HG := Lib.hid hlog
  have H := Lib.hid h
  clear h hlog
  by_cases hin : 0 ≤ view ∧ view ≤ 999 ∧ 1 ≤ n ∧ n ≤ 5
  case neg =>
    rw [chainOk_ends (by rw [HL.out]; exact hin)]
    by_cases h0 : 0 ≤ view
    case neg =>
      clear hin
      go_enter Try.func49, Try.ntmps49
      go_wp2
      go_ret
      exact ⟨rfl, (Below.refl _ _).alloc (Nat.le_refl _) _⟩
    by_cases h1 : view ≤ 999
    case neg =>
      clear hin
      go_enter Try.func49, Try.ntmps49
      go_wp2
      go_ret
      exact ⟨rfl, (Below.refl _ _).alloc (Nat.le_refl _) _⟩
    by_cases h2 : 1 ≤ n
    case neg =>
      clear hin
      obtain rfl : n = 0 := by omega
      go_enter Try.func49, Try.ntmps49
      go_wp2
      go_ret
      exact ⟨rfl, (Below.refl _ _).alloc (Nat.le_refl _) _⟩
    have h3 : ¬ n ≤ 5 := fun h3 => hin ⟨h0, h1, h2, h3⟩
    clear hin
    go_enter Try.func49, Try.ntmps49
    go_wp2
    go_ret
    exact ⟨rfl, (Below.refl _ _).alloc (Nat.le_refl _) _⟩
  obtain ⟨h0, h1, h2, h3⟩ := hin
  have h2' : (1 : Int) ≤ (n : Int) := by omega
  have h3' : (n : Int) ≤ 5 := by omega
  obtain ⟨W0, hW0⟩ : ∃ W0, W0 = w.alloc (.cells #[.int .i64 view, .slice A n c] 33) := ⟨_, rfl⟩
  have K0 := Lib.hid (show Blk W0 w.heap.size #[.int .i64 view, .slice A n c] 33 by rw [hW0]; exact Blk.new _ _ _)
  have B0 := Lib.hid (show Below w.heap.size w W0 by rw [hW0]; exact (Below.refl _ _).alloc (Nat.le_refl _) _)
  have s0 : w.heap.size < W0.heap.size := by rw [hW0]; simp
  have HW0 := Lib.hid hW0
  clear hW0
  go_enter Try.func49, Try.ntmps49
  go_wp2_with fail
  go_loopw [30] (fun i wr => ∃ k : Nat, k ≤ n ∧ i = .int .i64 k ∧ Hid ((List.range k).all (nodAt l) = true) ∧ Below W0.heap.size W0 wr)
    (fun i _ => n - (intOf i).toNat)
  case atStart => exact ⟨0, Nat.zero_le _, rfl, rfl, by rw [HW0.out]; exact Below.refl _ _⟩
  case round =>
    obtain ⟨k, hk, rfl, hall, hB⟩ := hrel
    have HK := Lib.hid (K0.out.below hB)
    have HB := Lib.hid (B0.out.trans (hB.mono (Nat.le_of_lt s0)))
    have HB0 := Lib.hid hB
    have HW := Lib.hid (H.out.on HB.out)
    have hsz : w.heap.size < wr.heap.size := Nat.lt_of_lt_of_le s0 hB.size
    have hsz0 := hB.size
    clear hB
    have b0 := HK.out.cell (i := 0) (v := .int .i64 view) rfl
    have b1 := HK.out.cell (i := 1) (v := .slice A n c) rfl
    by_cases hlt : k < n
    · obtain ⟨b, off, x, A', m, d, rfl, _, hbB, hx, c0, c1, c2, hf⟩ := HW.out.nod hlt
      have hm : m ≤ 1048576 := by have := hf.len; have := mem_len HG.out hx; omega
      have Hx := Lib.hid hx
      have HF := Lib.hid (hf.box (.cells #[.int .i64 x.id, .slice A' m d, .int .i64 x.done] 57))
      have X0 := Lib.hid (Blk.new wr #[.int .i64 x.id, .slice A' m d, .int .i64 x.done] 57)
      have K1 := Lib.hid (HK.out.alloc (.cells #[.int .i64 x.id, .slice A' m d, .int .i64 x.done] 57))
      clear hx hf
      cases hok : nodeOk x
      · go_wp2_with (go_at_call 86; refine (nodeValid_any x _ _ _ _ HF.out hm).mono ?_; rintro e w1 ⟨rfl, hb1⟩; rw [hok]; have B1 := Lib.hid (below_box hb1); clear hb1)
        go_ret
        exact ⟨ret_bool (chainOk_bad (nodAt_node Hx.out hok) (by have := HL.out; omega)).symm, HB.out.trans (B1.out.mono (by omega))⟩
      have HO := Lib.hid hok
      clear hok
      obtain ⟨pl, hpl⟩ : ∃ pl, placeI (placeOf l x.id) = pl := ⟨_, rfl⟩
      by_cases hp : placeOf l x.id = some k
      case neg =>
        have hne : (pl != (k : Int)) = true := by
          rw [← hpl]
          cases he : placeOf l x.id with
          | none => simp [placeI]; try omega
          | some j => rw [he] at hp; simp [placeI]; intro e; exact hp (by rw [show j = k by omega])
        have HP := Lib.hid hp
        have HPL := Lib.hid hpl
        clear hp hpl
        go_wp2_with fail
        refine (nodeValid_any x _ _ _ _ HF.out hm).mono ?_
        rintro e w1 ⟨rfl, hb1⟩
        rw [HO.out]
        have B1 := Lib.hid (below_box hb1)
        have k1 := K1.out.below hb1
        have x1 := X0.out.below hb1
        have q0 := k1.cell (i := 0) (v := .int .i64 view) rfl
        have q1 := k1.cell (i := 1) (v := .slice (some ⟨b, off, none⟩) n c) rfl
        have r0 := x1.cell (i := 0) (v := .int .i64 x.id) rfl
        have F1 := Lib.hid (HW.out.on B1.out)
        clear hb1 k1 x1
        go_wp2_with (go_at_call 60; refine (chainPlace_any _ _ _ _ l _ _ F1.out hn).mono ?_; rintro e w2 ⟨rfl, hb2⟩; rw [HPL.out]; have B2 := Lib.hid (B1.out.trans (hb2.mono B1.out.size)); clear hb2)
        go_ret
        exact ⟨ret_bool (chainOk_bad (nodAt_place Hx.out HP.out) (by have := HL.out; omega)).symm, HB.out.trans (B2.out.mono (by omega))⟩
      have hne : (pl != (k : Int)) = false := by rw [← hpl, hp]; simp [placeI]
      have HP := Lib.hid hp
      have HPL := Lib.hid hpl
      clear hp hpl
      by_cases hk0 : k = 0
      · have hz : ((k : Int) == 0) = true := by simp [hk0]
        have HK0 := Lib.hid hk0
        clear hk0
        go_wp2_with fail
        refine (nodeValid_any x _ _ _ _ HF.out hm).mono ?_
        rintro e w1 ⟨rfl, hb1⟩
        rw [HO.out]
        have B1 := Lib.hid (below_box hb1)
        have k1 := K1.out.below hb1
        have x1 := X0.out.below hb1
        have q0 := k1.cell (i := 0) (v := .int .i64 view) rfl
        have q1 := k1.cell (i := 1) (v := .slice (some ⟨b, off, none⟩) n c) rfl
        have r0 := x1.cell (i := 0) (v := .int .i64 x.id) rfl
        have F1 := Lib.hid (HW.out.on B1.out)
        clear hb1 k1 x1
        go_wp2_with (go_at_call 60; refine (chainPlace_any _ _ _ _ l _ _ F1.out hn).mono ?_; rintro e w2 ⟨rfl, hb2⟩; rw [HPL.out]; have B2 := Lib.hid (B1.out.trans (hb2.mono B1.out.size)); clear hb2)
        go_roundw
        case rel =>
          refine ⟨k + 1, by omega, by go_num, all_range_succ hall.out ?_, HB0.out.trans (B2.out.mono hsz0)⟩
          have e := HK0.out
          have hx0 := Hx.out
          have hp0 := HP.out
          rw [e] at hx0 hp0 ⊢
          rw [nodAt_zero hx0, HO.out, hp0]; simp
        case measure => simp [intOf]; omega
      have hz : ((k : Int) == 0) = false := by simp [hk0]
      obtain ⟨b', off', y, A'', m', d', e', _, _, hy, y0, y1, y2, hfy⟩ := HW.out.nod (show k - 1 < n by omega)
      obtain ⟨rfl, rfl⟩ : b = b' ∧ off = off' := by injection e' with e'; injection e' with e1 e2; exact ⟨e1, e2⟩
      have hm' : m' ≤ 1048576 := by have := hfy.len; have := mem_len HG.out hy; omega
      have Hy := Lib.hid hy
      have HFy := Lib.hid hfy
      have hbr : b < wr.heap.size := by omega
      have hk1 : (1 : Int) ≤ (k : Int) := by omega
      have HK0 := Lib.hid hk0
      clear hk0 hy hfy e'
      obtain ⟨lb, hlb⟩ : ∃ lb, logBegins x.log y.log = lb := ⟨_, rfl⟩
      have HLB := Lib.hid hlb
      clear hlb
      have ahead : nodAt l k = (lb && decide (y.done ≤ x.done)) := by
        have hx0 := Hx.out
        have hy0 := Hy.out
        have hp0 := HP.out
        have hk' := HK0.out
        obtain ⟨j, rfl⟩ : ∃ j, k = j + 1 := ⟨k - 1, by omega⟩
        rw [nodAt_succ hx0 hy0, HO.out, hp0, HLB.out]; simp
      have HA := Lib.hid ahead
      clear ahead
      go_wp2_with fail
      refine (nodeValid_any x _ _ _ _ HF.out hm).mono ?_
      rintro e w1 ⟨rfl, hb1⟩
      rw [HO.out]
      have B1 := Lib.hid (below_box hb1)
      have k1 := K1.out.below hb1
      have x1 := X0.out.below hb1
      have q0 := k1.cell (i := 0) (v := .int .i64 view) rfl
      have q1 := k1.cell (i := 1) (v := .slice (some ⟨b, off, none⟩) n c) rfl
      have r0 := x1.cell (i := 0) (v := .int .i64 x.id) rfl
      have KK1 := Lib.hid k1
      have XX1 := Lib.hid x1
      have F1 := Lib.hid (HW.out.on B1.out)
      have s1 : wr.heap.size < w1.heap.size := x1.lt
      clear hb1 k1 x1
      go_wp2_with fail
      refine (chainPlace_any _ _ _ _ l _ _ F1.out hn).mono ?_
      rintro e w2 ⟨rfl, hb2⟩
      rw [HPL.out]
      have B2 := Lib.hid (B1.out.trans (hb2.mono B1.out.size))
      have k2 := KK1.out.below hb2
      have x2 := XX1.out.below hb2
      have q0 := k2.cell (i := 0) (v := .int .i64 view) rfl
      have q1 := k2.cell (i := 1) (v := .slice (some ⟨b, off, none⟩) n c) rfl
      have r0 := x2.cell (i := 0) (v := .int .i64 x.id) rfl
      have r1 := x2.cell (i := 1) (v := .slice A' m d) rfl
      have r2 := x2.cell (i := 2) (v := .int .i64 x.done) rfl
      have yy0 := (B2.out.cell (p := ⟨b, off + (k - 1) * 3, none⟩) hbr).trans y0
      have yy1 := (B2.out.cell (p := ⟨b, off + (k - 1) * 3 + 1, none⟩) hbr).trans y1
      have yy2 := (B2.out.cell (p := ⟨b, off + (k - 1) * 3 + 2, none⟩) hbr).trans y2
      have s2 : w1.heap.size ≤ w2.heap.size := hb2.size
      have XX2 := Lib.hid (x2.alloc (.cells #[.int .i64 y.id, .slice A'' m' d', .int .i64 y.done] 57))
      have YY2 := Lib.hid (Blk.new w2 #[.int .i64 y.id, .slice A'' m' d', .int .i64 y.done] 57)
      have Fx := Lib.hid (((HF.out.on (show Below (wr.alloc (.cells #[.int .i64 x.id, .slice A' m d, .int .i64 x.done] 57)).heap.size _ w2 from ⟨B2.out.os, B2.out.tape, B2.out.output, by simp; omega, fun q hq => by
        by_cases e : q < wr.heap.size
        · exact (B2.out.block q e).trans (Below.heap_alloc _ _ _ e).symm
        · simp at hq
          obtain rfl : q = wr.heap.size := by omega
          exact (show w2.heap[wr.heap.size]? = _ from x2).trans (heap_alloc_new wr _).symm⟩))).box (.cells #[.int .i64 y.id, .slice A'' m' d', .int .i64 y.done] 57))
      have Fy := Lib.hid ((HFy.out.on B2.out).box (.cells #[.int .i64 y.id, .slice A'' m' d', .int .i64 y.done] 57))
      have hnn : wr.heap.size ≠ w2.heap.size := by omega
      have hnl : wr.heap.size < w2.heap.size := by omega
      have hnl' : w.heap.size < w2.heap.size := by omega
      have hnb : b ≠ w2.heap.size := by omega
      clear hb2 k2 x2
      go_wp2_with fail
      refine (logBegins_any _ _ _ _ _ _ x.log y.log _ Fx.out Fy.out hm hm').mono ?_
      rintro e w3 ⟨rfl, hb3⟩
      rw [HLB.out]
      have B3 := Lib.hid (B2.out.trans ((below_box hb3).mono B2.out.size))
      have x3 := (XX2.out.below hb3).cell (i := 2) (v := .int .i64 x.done) rfl
      have y3 := (YY2.out.below hb3).cell (i := 2) (v := .int .i64 y.done) rfl
      clear hb3 HF X0 K1 KK1 XX1 F1 XX2 YY2 Fx Fy HFy q0 q1 r0 r1 r2 yy0 yy1 yy2
      cases lb
      · go_wp2
        go_ret
        exact ⟨ret_bool (chainOk_bad (by rw [HA.out]; rfl) (by have := HL.out; omega)).symm, HB.out.trans (B3.out.mono (by omega))⟩
      · by_cases hd : x.done < y.done
        · go_wp2
          go_ret
          exact ⟨ret_bool (chainOk_bad (by rw [HA.out]; simp; omega) (by have := HL.out; omega)).symm, HB.out.trans (B3.out.mono (by omega))⟩
        · go_wp2
          go_roundw
          case rel => exact ⟨k + 1, by omega, by go_num, all_range_succ hall.out (by rw [HA.out]; simp; omega), HB0.out.trans (B3.out.mono hsz0)⟩
          case measure => simp [intOf]; omega
    · obtain rfl : n = k := by omega
      go_wp2_with fail
      refine (tailOf_any _ _ _ _ l _ HW.out hn (by omega)).mono ?_
      rintro e w1 ⟨x, A', m, d, hx, rfl, hf, hb1⟩
      have B1 := Lib.hid (HB.out.trans (hb1.mono (by omega)))
      have hml : x.log.length = m := hf.len
      have hT := tailOk_at HL.out hx
      have hC := chainOk_mk h0 h1 (by rw [HL.out]; exact h2) (by rw [HL.out]; exact h3) (by rw [HL.out]; exact hall.out)
      have HC := Lib.hid (hC.trans hT)
      have HML := Lib.hid hml
      clear hb1 hf hx hml hT hC
      have s1 := B1.out.size
      go_wp2
      go_ret
      exact ⟨ret_bool (by rw [HC.out, HML.out, Bool.eq_iff_iff]; simp), B1.out.alloc s1 _⟩
end Go.Proofs.Ytnbakpdphfdacaa
