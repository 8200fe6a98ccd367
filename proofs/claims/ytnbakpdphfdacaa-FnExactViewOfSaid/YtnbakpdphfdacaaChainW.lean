/- Chains are valid: the reference's walk. -/
import Derived.Test.YtnbakpdphfdacaaChainV
import Derived.Lib.QuietBelow
namespace Go.Proofs.Ytnbakpdphfdacaa
open Go.RowKit Go.Sort

theorem placeOf_take {l : List Nod} {k : Nat} {x : Nod} (hx : l[k]? = some x) : (placeOf (l.take k) x.id).isSome = !decide (placeOf l x.id = some k) := by
  cases h : placeOf (l.take k) x.id with
  | none =>
    have : placeOf l x.id = some k := placeOf_at hx rfl fun i y hi hy e => by
      have hy' : (l.take k)[i]? = some y := by rw [List.getElem?_take, if_pos hi]; exact hy
      have : placeOf (l.take k) x.id ≠ none := by
        unfold placeOf
        rw [ne_eq, List.findIdx?_eq_none_iff]
        intro hall
        have := hall y (List.mem_of_getElem? hy')
        simp [e] at this
      exact this h
    simp [this]
  | some j =>
    obtain ⟨y, hy, he, hb⟩ := placeOf_some h
    have hj := placeOf_lt h
    rw [List.length_take] at hj
    have hy' : l[j]? = some y := by rw [List.getElem?_take, if_pos (by omega)] at hy; exact hy
    have : placeOf l x.id = some j := placeOf_at hy' he fun i z hi hz => hb i z hi (by rw [List.getElem?_take, if_pos (by omega)]; exact hz)
    rw [this]; simp; omega
theorem nodeOk_lg {x : Nod} (h : nodeOk x = true) : logOk x.log = true := by simp only [nodeOk, Bool.and_eq_true] at h; exact h.1.2
theorem nodAt_ok {l : List Nod} {i : Nat} {x : Nod} (hx : l[i]? = some x) (h : nodAt l i = true) : nodeOk x = true := by
  unfold nodAt at h; rw [hx] at h; simp only [Bool.and_eq_true] at h; exact h.1.1
theorem chainOk_tail {v : Int} {l : List Nod} (h : tailOk l = false) : chainOk v l = false := by unfold chainOk; rw [h]; simp
theorem chainOk_last {v : Int} {l : List Nod} {n : Nat} (hl : l.length = n) (h : (List.range n).all (nodAt l) = true) (ht : n ≠ 0 → tailOk l = true) : chainOk v l = (inB n 1 5 && inB v 0 999) := by
  subst hl
  unfold chainOk
  rw [h]
  by_cases h0 : l.length = 0
  · simp [h0, inB]
  · rw [ht h0, Bool.eq_iff_iff]
    simp [inB]
    omega

theorem l4Has_below (A : Option Addr) (n c : Nat) (l : List Nod) (id : Int) (w : World) (h : Nods w 0 w.heap.size A n c l) (hn : n ≤ 1048576) :
    Calls Try.prog 83 #[.slice A n c, .int .i64 id] w fun e w' => e = .returned (.bool (placeOf l id).isSome) ∧ Below w.heap.size w w' :=
  (l4Has_any A n c l id w h hn).mono fun e w' ⟨h1, h2⟩ => ⟨h1, by subst h2; exact Below.refl _ _⟩

set_option maxHeartbeats 8000000 in
theorem specChainValid_any (view : Int) (A : Option Addr) (n c : Nat) (l : List Nod) (w : World) (h : Nods w 0 w.heap.size A n c l) (hn : n ≤ 1048576) (hlog : ∀ x ∈ l, x.log.length ≤ 1048576) :
    Calls Try.prog 47 #[.agg #[.int .i64 view, .slice A n c]] w fun e w' => e = .returned (.bool (chainOk view l)) ∧ Below w.heap.size w w' := by
  have HL := Lib.hid h.len
  have HG := Lib.hid hlog
  have H := Lib.hid h
  have hnc := h.cap.1
  have hcm := h.cap.2
  unfold maxLen at hcm
  clear h hlog
  obtain ⟨W0, hW0⟩ : ∃ W0, W0 = w.alloc (.cells #[.int .i64 view, .slice A n c] 33) := ⟨_, rfl⟩
  have K0 := Lib.hid (show Blk W0 w.heap.size #[.int .i64 view, .slice A n c] 33 by rw [hW0]; exact Blk.new _ _ _)
  have B0 := Lib.hid (show Below w.heap.size w W0 by rw [hW0]; exact (Below.refl _ _).alloc (Nat.le_refl _) _)
  have s0 : w.heap.size < W0.heap.size := by rw [hW0]; simp
  have HW0 := Lib.hid hW0
  clear hW0
  go_enter Try.func47, Try.ntmps47
  go_wp2_with fail
  go_loopw [3] (fun i wr => ∃ k : Nat, k ≤ n ∧ i = .int .i64 k ∧ Hid ((List.range k).all (nodAt l) = true) ∧ Hid (k = n → n ≠ 0 → tailOk l = true) ∧ Below W0.heap.size W0 wr)
    (fun i _ => n - (intOf i).toNat)
  case atStart => exact ⟨0, Nat.zero_le _, rfl, rfl, (fun e h => absurd e.symm h), by rw [HW0.out]; exact Below.refl _ _⟩
  case round =>
    obtain ⟨k, hk, rfl, hall, htl, hB⟩ := hrel
    have HK := Lib.hid (K0.out.below hB)
    have HB := Lib.hid (B0.out.trans (hB.mono (Nat.le_of_lt s0)))
    have HB0 := Lib.hid hB
    have HW := Lib.hid (H.out.on HB.out)
    have hsz : w.heap.size < wr.heap.size := Nat.lt_of_lt_of_le s0 hB.size
    have hsz0 := hB.size
    clear hB
    have b0 := HK.out.cell (i := 0) (v := .int .i64 view) rfl
    have b1 := HK.out.cell (i := 1) (v := .slice A n c) rfl
    by_cases hlt : k < n
    · obtain ⟨b, off, x, A', m, d, rfl, _, hbB, hx, c0, c1, c2, hf⟩ := HW.out.nod hlt
      have hm : m ≤ 1048576 := by have := hf.len; have := mem_len HG.out hx; omega
      have hml : x.log.length = m := hf.len
      have HML := Lib.hid hml
      have Hx := Lib.hid hx
      obtain ⟨W, hW⟩ : ∃ W, W = wr.alloc (.cells #[.int .i64 x.id, .slice A' m d, .int .i64 x.done] 57) := ⟨_, rfl⟩
      have hbW : Below wr.heap.size wr W := by rw [hW]; exact (Below.refl _ _).alloc (Nat.le_refl _) _
      have X0 := Lib.hid (show Blk W wr.heap.size #[.int .i64 x.id, .slice A' m d, .int .i64 x.done] 57 by rw [hW]; exact Blk.new _ _ _)
      have K1 := Lib.hid (HK.out.below hbW)
      have HF := Lib.hid (hf.on hbW)
      have HN := Lib.hid ((HW.out.on hbW).take_ (Nat.le_of_lt hlt))
      have BW := Lib.hid hbW
      have HWE := Lib.hid hW
      clear hx hf hml hbW hW
      have d0 := cell_regrown (X0.out.cell (i := 0) (v := .int .i64 x.id) rfl)
      have d1 := cell_regrown (X0.out.cell (i := 1) (v := .slice A' m d) rfl)
      have d2 := cell_regrown (X0.out.cell (i := 2) (v := .int .i64 x.done) rfl)
      have d3 := cell_regrown (K1.out.cell (i := 1) (v := .slice (some ⟨b, off, none⟩) n c) rfl)
      have hkc : (k : Int) ≤ (c : Int) := by omega
      have hk0 : (0 : Int) ≤ (k : Int) := by omega
      cases hok : nodeOk x
      · go_wp2_with fail
        rw [← HWE.out]
        refine wp_region_quiet_below (by kernel_rfl) (by kernel_rfl) ?_
        repeat (go_big_quiet_step ((go_at_call 82; exact Calls.regrown_of (specNodeValid_any x _ _ _ _ (HF.out.on (below_regrown _ _ _)) hm))))
        refine wpQuiet_nil ?_
        intro w2 hw2
        have hb2 := Lib.hid (below_of_regrown hw2)
        clear hw2 d0 d1 d2 d3
        go_wp2
        go_ret
        exact ⟨ret_bool (chainOk_bad (nodAt_node Hx.out hok) (by have := HL.out; omega)).symm, HB.out.trans ((BW.out.mono (by omega)).trans (hb2.out.mono (by have := BW.out.size; omega)))⟩
      have hps := placeOf_take Hx.out
      have HPS := Lib.hid hps
      clear hps
      cases hhas : (placeOf (l.take k) x.id).isSome
      case true =>
        go_wp2_with fail
        rw [← HWE.out]
        refine wp_region_quiet_below (by kernel_rfl) (by kernel_rfl) ?_
        repeat (go_big_quiet_step ((first | (go_at_call 82; exact Calls.regrown_of (specNodeValid_any x _ _ _ _ (HF.out.on (below_regrown _ _ _)) hm)) | (go_at_call 83; exact Calls.regrown_of (l4Has_below _ _ _ (l.take k) _ _ (HN.out.on (below_regrown _ _ _)) (by omega))))))
        refine wpQuiet_nil ?_
        intro w2 hw2
        have hb2 := Lib.hid (below_of_regrown hw2)
        clear hw2 d0 d1 d2 d3
        go_wp2
        go_ret
        refine ⟨ret_bool (chainOk_bad (nodAt_place Hx.out ?_) (by have := HL.out; omega)).symm, HB.out.trans ((BW.out.mono (by omega)).trans (hb2.out.mono (by have := BW.out.size; omega)))⟩
        have := HPS.out
        rw [hhas] at this
        intro e; rw [e] at this; simp at this
      case false =>
      have hpl : placeOf l x.id = some k := by
        have := HPS.out
        rw [hhas] at this
        simpa using this
      have HPL := Lib.hid hpl
      clear hpl
      go_wp2_with fail
      rw [← HWE.out]
      refine wp_region_quiet_below (by kernel_rfl) (by kernel_rfl) ?_
      repeat (go_big_quiet_step ((first | (go_at_call 82; exact Calls.regrown_of (specNodeValid_any x _ _ _ _ (HF.out.on (below_regrown _ _ _)) hm)) | (go_at_call 83; exact Calls.regrown_of (l4Has_below _ _ _ (l.take k) _ _ (HN.out.on (below_regrown _ _ _)) (by omega))))))
      refine wpQuiet_nil ?_
      intro w2 hw2
      have hb2 := below_of_regrown hw2
      have B2 := Lib.hid (HB.out.trans ((BW.out.mono (by omega)).trans (hb2.mono (by have := BW.out.size; omega))))
      have B20 := Lib.hid (HB0.out.trans ((BW.out.mono hsz0).trans (hb2.mono (by have := BW.out.size; omega))))
      have BR := Lib.hid (BW.out.trans (hb2.mono BW.out.size))
      have X2 := Lib.hid (X0.out.below hb2)
      have K2 := Lib.hid (K1.out.below hb2)
      have F2 := Lib.hid (HF.out.on hb2)
      have s2 : wr.heap.size < w2.heap.size := X2.out.lt
      clear hw2 d0 d1 d2 d3 hb2
      have HO := Lib.hid hok
      have HH := Lib.hid hhas
      clear hok hhas
      have r0 := X2.out.cell (i := 0) (v := .int .i64 x.id) rfl
      have r1 := X2.out.cell (i := 1) (v := .slice A' m d) rfl
      have r2 := X2.out.cell (i := 2) (v := .int .i64 x.done) rfl
      have t1 := K2.out.cell (i := 1) (v := .slice (some ⟨b, off, none⟩) n c) rfl
      rcases Nat.eq_zero_or_pos k with hkz | hkp
      · have na : nodAt l k = true := by
          have hx0 := Hx.out
          have hp0 := HPL.out
          rw [hkz] at hx0 hp0 ⊢
          rw [nodAt_zero hx0, HO.out, hp0]; simp
        have NA := Lib.hid na
        have hg : decide ((0 : Int) < (k : Int)) = false := by simp; omega
        have hgn : decide (0 < k) = false := by simp; omega
        clear na hkz
        go_wp2_with fail
        refine wp_region_quiet_below (by kernel_rfl) (by kernel_rfl) ?_
        repeat (go_big_quiet_step (fail))
        refine wpQuiet_nil ?_
        intro w3 hw3
        have hb3 := below_of_regrown hw3
        have B3 := Lib.hid (B2.out.trans (hb3.mono B2.out.size))
        have B30 := Lib.hid (B20.out.trans (hb3.mono B20.out.size))
        have X3 := Lib.hid (X2.out.below hb3)
        have K3 := Lib.hid (K2.out.below hb3)
        clear hw3 hb3 r0 r1 r2 t1
        have r2 := X3.out.cell (i := 2) (v := .int .i64 x.done) rfl
        have r1 := X3.out.cell (i := 1) (v := .slice A' m d) rfl
        have t1 := K3.out.cell (i := 1) (v := .slice (some ⟨b, off, none⟩) n c) rfl
        by_cases hlast : k + 1 = n
        · have hl1 : (((k : Int) + 1) == (n : Int)) = true := by simp; omega
          by_cases hdone : x.done = (m : Int)
          · have hd1 : (x.done != (m : Int)) = false := by simp [hdone]
            have HD := Lib.hid hdone
            have HLA := Lib.hid hlast
            clear hdone hlast
            go_wp2
            go_roundw
            case rel => exact ⟨k + 1, by omega, by go_num, all_range_succ hall.out NA.out, (fun _ _ => by rw [tailOk_at HL.out (by rw [← HLA.out]; exact Hx.out), HD.out, HML.out]; simp), B30.out⟩
            case measure => simp [intOf]; omega
          · have hd1 : (x.done != (m : Int)) = true := by simp [hdone]
            have HD := Lib.hid hdone
            have HLA := Lib.hid hlast
            clear hdone hlast
            go_wp2
            go_ret
            exact ⟨ret_bool (chainOk_tail (by rw [tailOk_at HL.out (by rw [← HLA.out]; exact Hx.out), HML.out]; simp; exact HD.out)).symm, B3.out⟩
        · have hl1 : (((k : Int) + 1) == (n : Int)) = false := by simp; omega
          have HLA := Lib.hid hlast
          clear hlast
          go_wp2
          go_roundw
          case rel => exact ⟨k + 1, by omega, by go_num, all_range_succ hall.out NA.out, (fun e _ => absurd e HLA.out), B30.out⟩
          case measure => simp [intOf]; omega
      · obtain ⟨b', off', y, A'', m', d', e', _, _, hy, y0, y1, y2, hfy⟩ := HW.out.nod (show k - 1 < n by omega)
        obtain ⟨rfl, rfl⟩ : b = b' ∧ off = off' := by injection e' with e'; injection e' with e1 e2; exact ⟨e1, e2⟩
        have hm' : m' ≤ 1048576 := by have := hfy.len; have := mem_len HG.out hy; omega
        have hyo := nodAt_ok hy (all_range_at hall.out (show k - 1 < k by omega))
        have Hy := Lib.hid hy
        have HFy := Lib.hid (hfy.on BR.out)
        have hbr : b < wr.heap.size := by omega
        have hk1 : (1 : Int) ≤ (k : Int) := by omega
        have hk1' : (0 : Int) ≤ (k : Int) - 1 := by omega
        have hkn1 : (k : Int) - 1 < (n : Int) := by omega
        have hg : decide ((0 : Int) < (k : Int)) = true := by simp; omega
        have hgn : decide (0 < k) = true := by simp; omega
        have wr1 : IntKind.i64.wrap ((k : Int) - 1) = (k : Int) - 1 := IntWalk.i64_in _ (by omega)
        have wr2 : ((k : Int) - 1).toNat = k - 1 := by omega
        have e0 := cell_regrown (X2.out.cell (i := 0) (v := .int .i64 x.id) rfl)
        have e1 := cell_regrown (X2.out.cell (i := 1) (v := .slice A' m d) rfl)
        have e2 := cell_regrown (X2.out.cell (i := 2) (v := .int .i64 x.done) rfl)
        have e3 := cell_regrown (K2.out.cell (i := 1) (v := .slice (some ⟨b, off, none⟩) n c) rfl)
        have e4 := cell_regrown ((BR.out.cell (p := ⟨b, off + (k - 1) * 3 + 1, none⟩) hbr).trans y1)
        have e5 := cell_regrown ((BR.out.cell (p := ⟨b, off + (k - 1) * 3 + 2, none⟩) hbr).trans y2)
        obtain ⟨cm, hcm'⟩ : ∃ cm, common x.log y.log = cm := ⟨_, rfl⟩
        have ahead : nodAt l k = (decide (cm = m) && decide (y.done ≤ x.done)) := by
          have hx0 := Hx.out
          have hy0 := hy
          have hp0 := HPL.out
          obtain ⟨j, rfl⟩ : ∃ j, k = j + 1 := ⟨k - 1, by omega⟩
          have hl1 := nodeOk_lg HO.out
          have hl2 := nodeOk_lg hyo
          rw [nodAt_succ hx0 hy0, HO.out, hp0]
          unfold logBegins
          rw [hl1, hl2, hcm', HML.out]; simp
        have HA := Lib.hid ahead
        have hle : cm ≤ m := by have := (common_le x.log y.log).1; have := HML.out; omega
        have HC := Lib.hid (show ∀ (q : Nat) (os : Array Obj), Calls Try.prog 84 #[.slice A' m d, .slice A'' m' d'] (grow (redrawn w2 q) os) fun e w' => e = .returned (.int .i64 (cm : Int)) ∧ Below (grow (redrawn w2 q) os).heap.size (grow (redrawn w2 q) os) w' from fun q os => by
          have hc := l1Common_any A' A'' m d m' d' x.log y.log (grow (redrawn w2 q) os) (F2.out.on (below_regrown _ _ _)) (HFy.out.on (below_regrown _ _ _)) hm hm'
          rwa [hcm'] at hc)
        clear hy hfy e' hyo hcm' ahead y0 y1 y2 c0 c1 c2
        by_cases hcl : cm < m
        · have hcl' : decide ((cm : Int) < (m : Int)) = true := by simp; omega
          go_wp2_with fail
          refine wp_region_quiet_below (by kernel_rfl) (by kernel_rfl) ?_
          repeat (go_big_quiet_step ((go_at_call 84; exact Calls.regrown_of (HC.out _ _))))
          refine wpQuiet_nil ?_
          intro w3 hw3
          have hb3 := below_of_regrown hw3
          have B3 := Lib.hid (B2.out.trans (hb3.mono B2.out.size))
          clear hw3 hb3 r0 r1 r2 t1 e0 e1 e2 e3 e4 e5 wr1 wr2
          go_wp2
          go_ret
          exact ⟨ret_bool (chainOk_bad (by rw [HA.out]; simp; omega) (by have := HL.out; omega)).symm, B3.out⟩
        · obtain rfl : cm = m := by omega
          have hcl' : decide ((cm : Int) < (cm : Int)) = false := by simp
          have hcln : decide (cm < cm) = false := by simp
          by_cases hd : x.done < y.done
          · have hd' : decide (x.done < y.done) = true := by simp [hd]
            go_wp2_with fail
            refine wp_region_quiet_below (by kernel_rfl) (by kernel_rfl) ?_
            repeat (go_big_quiet_step ((go_at_call 84; exact Calls.regrown_of (HC.out _ _))))
            refine wpQuiet_nil ?_
            intro w3 hw3
            have hb3 := below_of_regrown hw3
            have B3 := Lib.hid (B2.out.trans (hb3.mono B2.out.size))
            clear hw3 hb3 r0 r1 r2 t1 e0 e1 e2 e3 e4 e5 wr1 wr2
            go_wp2
            go_ret
            exact ⟨ret_bool (chainOk_bad (by rw [HA.out]; simp; omega) (by have := HL.out; omega)).symm, B3.out⟩
          · have hd' : decide (x.done < y.done) = false := by simp; omega
            have NA := Lib.hid (show nodAt l k = true by rw [HA.out]; simp; omega)
            have HDD := Lib.hid hd
            clear hd
            go_wp2_with fail
            refine wp_region_quiet_below (by kernel_rfl) (by kernel_rfl) ?_
            repeat (go_big_quiet_step ((go_at_call 84; exact Calls.regrown_of (HC.out _ _))))
            refine wpQuiet_nil ?_
            intro w3 hw3
            have hb3 := below_of_regrown hw3
            have B3 := Lib.hid (B2.out.trans (hb3.mono B2.out.size))
            have B30 := Lib.hid (B20.out.trans (hb3.mono B20.out.size))
            have X3 := Lib.hid (X2.out.below hb3)
            have K3 := Lib.hid (K2.out.below hb3)
            clear hw3 hb3 r0 r1 r2 t1 e0 e1 e2 e3 e4 e5 wr1 wr2 hd'
            have r2 := X3.out.cell (i := 2) (v := .int .i64 x.done) rfl
            have r1 := X3.out.cell (i := 1) (v := .slice A' cm d) rfl
            have t1 := K3.out.cell (i := 1) (v := .slice (some ⟨b, off, none⟩) n c) rfl
            by_cases hlast : k + 1 = n
            · have hl1 : (((k : Int) + 1) == (n : Int)) = true := by simp; omega
              by_cases hdone : x.done = (cm : Int)
              · have hd1 : (x.done != (cm : Int)) = false := by simp [hdone]
                have HD := Lib.hid hdone
                have HLA := Lib.hid hlast
                clear hdone hlast
                go_wp2
                go_roundw
                case rel => exact ⟨k + 1, by omega, by go_num, all_range_succ hall.out NA.out, (fun _ _ => by rw [tailOk_at HL.out (by rw [← HLA.out]; exact Hx.out), HD.out, HML.out]; simp), B30.out⟩
                case measure => simp [intOf]; omega
              · have hd1 : (x.done != (cm : Int)) = true := by simp [hdone]
                have HD := Lib.hid hdone
                have HLA := Lib.hid hlast
                clear hdone hlast
                go_wp2
                go_ret
                exact ⟨ret_bool (chainOk_tail (by rw [tailOk_at HL.out (by rw [← HLA.out]; exact Hx.out), HML.out]; simp; exact HD.out)).symm, B3.out⟩
            · have hl1 : (((k : Int) + 1) == (n : Int)) = false := by simp; omega
              have HLA := Lib.hid hlast
              clear hlast
              go_wp2
              go_roundw
              case rel => exact ⟨k + 1, by omega, by go_num, all_range_succ hall.out NA.out, (fun e _ => absurd e HLA.out), B30.out⟩
              case measure => simp [intOf]; omega
    · obtain rfl : n = k := by omega
      have hC := chainOk_last (v := view) HL.out hall.out (htl.out rfl)
      have HC := Lib.hid hC
      clear hC
      by_cases hn0 : inB n 1 5 = true
      all_goals
        go_wp2_with (go_at_call 66; refine (l6In_any _ _ _ _).mono ?_; rintro e w' ⟨rfl, rfl⟩)
        go_ret
        exact ⟨ret_bool (by rw [HC.out]; simp_all), HB.out⟩
end Go.Proofs.Ytnbakpdphfdacaa
