/- Texts of this claim, joined: L15 CallS. -/
import Derived.Lib.QuietBelow
import Derived.Test.YtemgilofjbnoaaaGreatDoorWQ1
import Derived.Test.YtemgilofjbnoaaaGreatDoorWB2
set_option linter.unusedSimpArgs false
set_option linter.unusedVariables false
namespace Go.Proofs.YtemgilofjbnoaaaGreatDoor
open Go Go.RowKit Go.Sort
set_option linter.unusedSimpArgs false
def PutAt (cs : List Cll) (x : Cll) (k : Nat) (dn : Bool) (r : List Cll) : Prop :=
  (dn = false ∧ (∀ y ∈ cs.take k, y.client < x.client) ∧ r = cs.take k) ∨ (dn = true ∧ (∃ y ∈ cs.take k, x.client ≤ y.client) ∧ r = putC (cs.take k) x)
theorem putC_less {l : List Cll} {x : Cll} (h : ∀ y ∈ l, y.client < x.client) : putC l x = l ++ [x] := by
  unfold putC
  rw [List.filter_eq_self.2 (fun y hy => by simpa using h y hy), List.filter_eq_nil_iff.2 (fun y hy => by have := h y hy; simp; omega)]
theorem putC_gt {l : List Cll} {x e : Cll} (h : x.client < e.client) : putC (l ++ [e]) x = putC l x ++ [e] := by
  unfold putC
  have h1 : ¬ e.client < x.client := by omega
  simp [List.filter_append, List.filter_cons, h, h1]
theorem putC_eq {l : List Cll} {x e : Cll} (h : x.client = e.client) : putC (l ++ [e]) x = putC l x := by
  unfold putC
  have h1 : ¬ e.client < x.client := by omega
  have h2 : ¬ x.client < e.client := by omega
  simp [List.filter_append, List.filter_cons, h1, h2]
section
variable {cs : List Cll} {x e : Cll} {k : Nat} {r : List Cll} (ha : Asc cs) (he : cs[k]? = some e)
include he
theorem putTake : cs.take (k + 1) = cs.take k ++ [e] := by
  have hk := (List.getElem?_eq_some_iff.1 he).1
  rw [List.take_succ_eq_append_getElem hk]
  rw [List.getElem?_eq_getElem hk] at he
  injection he with he; rw [he]
theorem putAt_less (h : PutAt cs x k false r) (hl : e.client < x.client) : PutAt cs x (k + 1) false (r ++ [e]) := by
  rcases h with ⟨_, h1, rfl⟩ | ⟨h, _⟩
  · refine .inl ⟨rfl, fun y hy => ?_, (putTake he).symm⟩
    rw [putTake he] at hy
    rcases List.mem_append.1 hy with hy | hy
    · exact h1 y hy
    · simp at hy; subst hy; exact hl
  · cases h
theorem putAt_eq (h : PutAt cs x k false r) (hl : x.client = e.client) : PutAt cs x (k + 1) true (r ++ [x]) := by
  rcases h with ⟨_, h1, rfl⟩ | ⟨h, _⟩
  · exact .inr ⟨rfl, ⟨e, by rw [putTake he]; simp, by omega⟩, by rw [putTake he, putC_eq hl, putC_less h1]⟩
  · cases h
theorem putAt_gt (h : PutAt cs x k false r) (hl : x.client < e.client) : PutAt cs x (k + 1) true (r ++ [x] ++ [e]) := by
  rcases h with ⟨_, h1, rfl⟩ | ⟨h, _⟩
  · exact .inr ⟨rfl, ⟨e, by rw [putTake he]; simp, by omega⟩, by rw [putTake he, putC_gt hl, putC_less h1]⟩
  · cases h
include ha
theorem take_less {y : Cll} (hy : y ∈ cs.take k) : y.client < e.client := by
  have h2 : Asc (cs.take (k + 1)) := ha.sublist (List.take_sublist _ _)
  rw [putTake he] at h2
  exact (List.pairwise_append.1 h2).2.2 y hy e (by simp)
theorem putAt_done (h : PutAt cs x k true r) : x.client < e.client ∧ PutAt cs x (k + 1) true (r ++ [e]) := by
  rcases h with ⟨h, _⟩ | ⟨_, ⟨y, hy, hxy⟩, rfl⟩
  · cases h
  · have hlt := take_less ha he hy
    have hl : x.client < e.client := by omega
    refine ⟨hl, .inr ⟨rfl, ⟨y, ?_, hxy⟩, by rw [putTake he, putC_gt hl]⟩⟩
    rw [putTake he]; exact List.mem_append_left _ hy
end
theorem putAt_end {cs : List Cll} {x : Cll} {r : List Cll} {k : Nat} (hk : cs.length ≤ k) : (PutAt cs x k false r → r ++ [x] = putC cs x) ∧ (PutAt cs x k true r → r = putC cs x) := by
  have e : cs.take k = cs := List.take_of_length_le hk
  unfold PutAt
  rw [e]
  refine ⟨fun h => ?_, fun h => ?_⟩
  · rcases h with ⟨_, h1, rfl⟩ | ⟨h, _⟩
    · exact (putC_less h1).symm
    · cases h
  · rcases h with ⟨h, _⟩ | ⟨_, _, h⟩
    · cases h
    · exact h
set_option maxRecDepth 100000 in
set_option maxHeartbeats 8000000 in
theorem l15Put_any (B : Option Addr) (m d : Nat) (cs : List Cll) (x : Cll) (w : World) (hf : Flat Cll.enc 4 w 0 w.heap.size B m d cs) (hm : m ≤ 1048576) (ha : Asc cs) :
    Calls Mo.prog 45 #[.slice B m d, .agg #[.int .i64 x.client, .int .i64 x.number, .int .i64 x.what.key, .int .i64 x.what.value]] w fun e w' => ∃ A n c, e = .returned (.slice A n c) ∧ (putC cs x).length = n ∧ CR w w' (.slice A n c) (putC cs x) := by
  obtain ⟨i0, hi, hz0, hz1, hz2⟩ := info_parts infoCallM
  obtain ⟨W1, hW1⟩ : ∃ W1 : World, w.alloc (.cells #[.int .i64 x.client, .int .i64 x.number, .int .i64 x.what.key, .int .i64 x.what.value] 30) = W1 := ⟨_, rfl⟩
  have hb1 : Below w.heap.size w W1 := by rw [← hW1]; exact (Below.refl _ w).alloc (Nat.le_refl _) _
  have H1 := Lib.hid (hf.on hb1)
  have BX := Lib.hid (show Blk W1 w.heap.size #[.int .i64 x.client, .int .i64 x.number, .int .i64 x.what.key, .int .i64 x.what.value] 30 by rw [← hW1]; exact Blk.new w _ _)
  have HB1 := Lib.hid hb1
  have HA := Lib.hid ha
  have HM := Lib.hid hf.len
  have hs1 := hb1.size
  have FX : Hid (∀ W, Below W1.heap.size W1 W → Blk W w.heap.size #[.int .i64 x.client, .int .i64 x.number, .int .i64 x.what.key, .int .i64 x.what.value] 30) := fun W hb => BX.out.below hb
  have C0 := Lib.hid (CR.start (Below.refl _ W1))
  clear hf ha hb1
  go_enter Mo.func45, Tryz.ntmps45
  go_wp2_with fail
  go_loopw [5, 6, 7] (fun v dn i wr => ∃ (k : Nat) (b : Bool) (r : List Cll), i = .int .i64 k ∧ dn = .bool b ∧ k ≤ m ∧ r.length ≤ k + 1 ∧ Hid (PutAt cs x k b r) ∧ CR W1 wr v r)
    (fun _ _ i _ => m - (intOf i).toNat)
  case atStart => exact ⟨0, false, [], rfl, rfl, Nat.zero_le _, by simp, .inl ⟨rfl, fun y hy => by simp at hy, by simp⟩, C0.out⟩
  case round =>
    obtain ⟨k, b, r, rfl, rfl, hkm, hrk, hp, hC⟩ := hrel
    have CC := Lib.hid hC
    have hszr := hC.size
    clear hC C0
    by_cases hlt : k < m
    · obtain ⟨g, off, e, rfl, _, hgb, he, e0, e1, e2, e3⟩ := H1.out.cll hlt
      have E := Lib.hid he
      have FE : Hid (∀ W, Below W1.heap.size W1 W → (W.cell? ⟨g, off + k * 4, none⟩ = some (.int .i64 e.client) ∧ W.cell? ⟨g, off + k * 4 + 1, none⟩ = some (.int .i64 e.number) ∧ W.cell? ⟨g, off + k * 4 + 2, none⟩ = some (.int .i64 e.what.key) ∧ W.cell? ⟨g, off + k * 4 + 3, none⟩ = some (.int .i64 e.what.value))) := fun W hb =>
        ⟨(hb.cell (p := ⟨g, off + k * 4, none⟩) hgb).trans e0, (hb.cell (p := ⟨g, off + k * 4 + 1, none⟩) hgb).trans e1, (hb.cell (p := ⟨g, off + k * 4 + 2, none⟩) hgb).trans e2, (hb.cell (p := ⟨g, off + k * 4 + 3, none⟩) hgb).trans e3⟩
      clear he e0 e1 e2 e3
      obtain ⟨f0, f1, f2, f3⟩ := FE.out wr CC.out.bel
      have bx := FX.out wr CC.out.bel
      have b0 := bx.cell (i := 0) (v := .int .i64 x.client) rfl
      have d0 := cell_regrown f0
      have d1 := cell_regrown b0
      clear bx
      cases b
      · have hrk2 : r.length ≤ k := by
          rcases hp.out with ⟨_, _, h⟩ | ⟨h, _⟩
          · rw [h]; simp; omega
          · cases h
        by_cases hge : e.client < x.client
        · go_wp2_with fail
          refine wp_region_quiet_below (by kernel_rfl) (by kernel_rfl) ?_
          repeat (go_big_quiet_step (fail))
          refine wpQuiet_nil ?_
          intro w2 hw
          have C2 := Lib.hid (CC.out.below (below_of_regrown hw))
          clear hw
          clear f0 f1 f2 f3 b0 d0 d1
          obtain ⟨f0, f1, f2, f3⟩ := FE.out w2 C2.out.bel
          have bx := FX.out w2 C2.out.bel
          have b0 := bx.cell (i := 0) (v := .int .i64 x.client) rfl
          have b1 := bx.cell (i := 1) (v := .int .i64 x.number) rfl
          have b2 := bx.cell (i := 2) (v := .int .i64 x.what.key) rfl
          have b3 := bx.cell (i := 3) (v := .int .i64 x.what.value) rfl
          have d0 := cell_regrown f0
          have d1 := cell_regrown b0
          clear bx
          go_wp2_with fail
          refine wp_region_quiet_below (by kernel_rfl) (by kernel_rfl) ?_
          repeat (go_big_quiet_step (fail))
          refine wpQuiet_nil ?_
          intro w3 hw
          have C3 := Lib.hid (C2.out.below (below_of_regrown hw))
          clear hw
          clear f0 f1 f2 f3 b0 b1 b2 b3 d0 d1
          obtain ⟨f0, f1, f2, f3⟩ := FE.out w3 C3.out.bel
          have bx := FX.out w3 C3.out.bel
          have b0 := bx.cell (i := 0) (v := .int .i64 x.client) rfl
          have b1 := bx.cell (i := 1) (v := .int .i64 x.number) rfl
          have b2 := bx.cell (i := 2) (v := .int .i64 x.what.key) rfl
          have b3 := bx.cell (i := 3) (v := .int .i64 x.what.value) rfl
          have d0 := cell_regrown f0
          have d1 := cell_regrown b0
          clear bx
          clear d0 d1
          have hsz3 := C3.out.size
          go_wp2_with (at_builtin; refine wpList_append_own _ rfl _ _ 26 rfl W1.heap.size 30 i0 _ 4 32 Mo.underlying26 hi hz0 hz1 hz2 rfl (by decide) _ r.length (r.flatMap Cll.enc) rfl (C3.out.own.alloc _) ⟨w3.heap.size, 0, none⟩ 1 1 (Cll.enc e) rfl rfl (new_cells _ _ _ _ rfl) (Cll.one _) (by unfold maxLen; (try simp only [List.length_append, List.length_singleton]); omega) (by (try simp only [List.length_append, List.length_singleton]); omega) (by simp; omega) ?_; intro v4 w4 hown hg _; have Cw4 := Lib.hid (C3.out.appended hown hg); clear hown hg)
          go_roundw
          case rel => exact ⟨k + 1, false, r ++ [e], by go_num, rfl, by omega, by simp; omega, putAt_less E.out hp.out hge, Cw4.out⟩
          case measure => simp [intOf]; omega
        · have hge2 : x.client ≤ e.client := by omega
          go_wp2_with fail
          refine wp_region_quiet_below (by kernel_rfl) (by kernel_rfl) ?_
          repeat (go_big_quiet_step (fail))
          refine wpQuiet_nil ?_
          intro w2 hw
          have C2 := Lib.hid (CC.out.below (below_of_regrown hw))
          clear hw
          clear f0 f1 f2 f3 b0 d0 d1
          obtain ⟨f0, f1, f2, f3⟩ := FE.out w2 C2.out.bel
          have bx := FX.out w2 C2.out.bel
          have b0 := bx.cell (i := 0) (v := .int .i64 x.client) rfl
          have b1 := bx.cell (i := 1) (v := .int .i64 x.number) rfl
          have b2 := bx.cell (i := 2) (v := .int .i64 x.what.key) rfl
          have b3 := bx.cell (i := 3) (v := .int .i64 x.what.value) rfl
          have d0 := cell_regrown f0
          have d1 := cell_regrown b0
          clear bx
          have hsz2 := C2.out.size
          clear d0 d1
          go_wp2_with (at_builtin; refine wpList_append_own _ rfl _ _ 26 rfl W1.heap.size 30 i0 _ 4 32 Mo.underlying26 hi hz0 hz1 hz2 rfl (by decide) _ r.length (r.flatMap Cll.enc) rfl (C2.out.own.alloc _) ⟨w2.heap.size, 0, none⟩ 1 1 (Cll.enc x) rfl rfl (new_cells _ _ _ _ rfl) (Cll.one _) (by unfold maxLen; (try simp only [List.length_append, List.length_singleton]); omega) (by (try simp only [List.length_append, List.length_singleton]); omega) (by simp; omega) ?_; intro v4 w4 hown hg _; have Cw4 := Lib.hid (C2.out.appended hown hg); clear hown hg)
          clear f0 f1 f2 f3 b0 b1 b2 b3
          obtain ⟨f0, f1, f2, f3⟩ := FE.out w4 Cw4.out.bel
          have bx := FX.out w4 Cw4.out.bel
          have b0 := bx.cell (i := 0) (v := .int .i64 x.client) rfl
          have b1 := bx.cell (i := 1) (v := .int .i64 x.number) rfl
          have b2 := bx.cell (i := 2) (v := .int .i64 x.what.key) rfl
          have b3 := bx.cell (i := 3) (v := .int .i64 x.what.value) rfl
          have d0 := cell_regrown f0
          have d1 := cell_regrown b0
          clear bx
          by_cases heq : x.client = e.client
          · go_wp2_with fail
            refine wp_region_quiet_below (by kernel_rfl) (by kernel_rfl) ?_
            repeat (go_big_quiet_step (fail))
            refine wpQuiet_nil ?_
            intro w5 hw
            have C5 := Lib.hid (Cw4.out.below (below_of_regrown hw))
            clear hw
            clear f0 f1 f2 f3 b0 b1 b2 b3 d0 d1
            go_wp2
            go_roundw
            case rel => exact ⟨k + 1, true, r ++ [x], by go_num, rfl, by omega, by simp; omega, putAt_eq E.out hp.out heq, C5.out⟩
            case measure => simp [intOf]; omega
          · go_wp2_with fail
            refine wp_region_quiet_below (by kernel_rfl) (by kernel_rfl) ?_
            repeat (go_big_quiet_step (fail))
            refine wpQuiet_nil ?_
            intro w5 hw
            have C5 := Lib.hid (Cw4.out.below (below_of_regrown hw))
            clear hw
            clear f0 f1 f2 f3 b0 b1 b2 b3 d0 d1
            obtain ⟨f0, f1, f2, f3⟩ := FE.out w5 C5.out.bel
            have bx := FX.out w5 C5.out.bel
            have b0 := bx.cell (i := 0) (v := .int .i64 x.client) rfl
            have b1 := bx.cell (i := 1) (v := .int .i64 x.number) rfl
            have b2 := bx.cell (i := 2) (v := .int .i64 x.what.key) rfl
            have b3 := bx.cell (i := 3) (v := .int .i64 x.what.value) rfl
            have d0 := cell_regrown f0
            have d1 := cell_regrown b0
            clear bx
            clear d0 d1
            have hsz5 := C5.out.size
            go_wp2_with (at_builtin; refine wpList_append_own _ rfl _ _ 26 rfl W1.heap.size 30 i0 _ 4 32 Mo.underlying26 hi hz0 hz1 hz2 rfl (by decide) _ (r ++ [x]).length ((r ++ [x]).flatMap Cll.enc) rfl (C5.out.own.alloc _) ⟨w5.heap.size, 0, none⟩ 1 1 (Cll.enc e) rfl rfl (new_cells _ _ _ _ rfl) (Cll.one _) (by unfold maxLen; (try simp only [List.length_append, List.length_singleton]); omega) (by (try simp only [List.length_append, List.length_singleton]); omega) (by simp; omega) ?_; intro v6 w6 hown hg _; have Cw6 := Lib.hid (C5.out.appended hown hg); clear hown hg)
            go_roundw
            case rel => exact ⟨k + 1, true, r ++ [x] ++ [e], by go_num, rfl, by omega, by simp; omega, putAt_gt E.out hp.out (by omega), Cw6.out⟩
            case measure => simp [intOf]; omega
      · obtain ⟨hgt, hp2⟩ := putAt_done HA.out E.out hp.out
        have HP2 := Lib.hid hp2
        clear hp2
        go_wp2_with fail
        refine wp_region_quiet_below (by kernel_rfl) (by kernel_rfl) ?_
        repeat (go_big_quiet_step (fail))
        refine wpQuiet_nil ?_
        intro w2 hw
        have C2 := Lib.hid (CC.out.below (below_of_regrown hw))
        clear hw
        clear f0 f1 f2 f3 b0 d0 d1
        obtain ⟨f0, f1, f2, f3⟩ := FE.out w2 C2.out.bel
        have bx := FX.out w2 C2.out.bel
        have b0 := bx.cell (i := 0) (v := .int .i64 x.client) rfl
        have b1 := bx.cell (i := 1) (v := .int .i64 x.number) rfl
        have b2 := bx.cell (i := 2) (v := .int .i64 x.what.key) rfl
        have b3 := bx.cell (i := 3) (v := .int .i64 x.what.value) rfl
        have d0 := cell_regrown f0
        have d1 := cell_regrown b0
        clear bx
        go_wp2_with fail
        refine wp_region_quiet_below (by kernel_rfl) (by kernel_rfl) ?_
        repeat (go_big_quiet_step (fail))
        refine wpQuiet_nil ?_
        intro w3 hw
        have C3 := Lib.hid (C2.out.below (below_of_regrown hw))
        clear hw
        clear f0 f1 f2 f3 b0 b1 b2 b3 d0 d1
        obtain ⟨f0, f1, f2, f3⟩ := FE.out w3 C3.out.bel
        have bx := FX.out w3 C3.out.bel
        have b0 := bx.cell (i := 0) (v := .int .i64 x.client) rfl
        have b1 := bx.cell (i := 1) (v := .int .i64 x.number) rfl
        have b2 := bx.cell (i := 2) (v := .int .i64 x.what.key) rfl
        have b3 := bx.cell (i := 3) (v := .int .i64 x.what.value) rfl
        have d0 := cell_regrown f0
        have d1 := cell_regrown b0
        clear bx
        clear d0 d1
        have hsz3 := C3.out.size
        go_wp2_with (at_builtin; refine wpList_append_own _ rfl _ _ 26 rfl W1.heap.size 30 i0 _ 4 32 Mo.underlying26 hi hz0 hz1 hz2 rfl (by decide) _ r.length (r.flatMap Cll.enc) rfl (C3.out.own.alloc _) ⟨w3.heap.size, 0, none⟩ 1 1 (Cll.enc e) rfl rfl (new_cells _ _ _ _ rfl) (Cll.one _) (by unfold maxLen; (try simp only [List.length_append, List.length_singleton]); omega) (by (try simp only [List.length_append, List.length_singleton]); omega) (by simp; omega) ?_; intro v4 w4 hown hg _; have Cw4 := Lib.hid (C3.out.appended hown hg); clear hown hg)
        go_roundw
        case rel => exact ⟨k + 1, true, r ++ [e], by go_num, rfl, by omega, by simp; omega, HP2.out, Cw4.out⟩
        case measure => simp [intOf]; omega
    · obtain rfl : m = k := by omega
      have bx := FX.out wr CC.out.bel
      have b0 := bx.cell (i := 0) (v := .int .i64 x.client) rfl
      have b1 := bx.cell (i := 1) (v := .int .i64 x.number) rfl
      have b2 := bx.cell (i := 2) (v := .int .i64 x.what.key) rfl
      have b3 := bx.cell (i := 3) (v := .int .i64 x.what.value) rfl
      clear bx
      obtain ⟨q1, q2⟩ := putAt_end (cs := cs) (x := x) (r := r) (k := m) (by have := HM.out; omega)
      cases b
      · have Q := Lib.hid (q1 hp.out)
        clear q1 q2
        go_wp2_with (at_builtin; refine wpList_append_own _ rfl _ _ 26 rfl W1.heap.size 30 i0 _ 4 32 Mo.underlying26 hi hz0 hz1 hz2 rfl (by decide) _ r.length (r.flatMap Cll.enc) rfl (CC.out.own.alloc _) ⟨wr.heap.size, 0, none⟩ 1 1 (Cll.enc x) rfl rfl (new_cells _ _ _ _ rfl) (Cll.one _) (by unfold maxLen; (try simp only [List.length_append, List.length_singleton]); omega) (by (try simp only [List.length_append, List.length_singleton]); omega) (by simp; omega) ?_; intro v4 w4 hown hg _; have Cw4 := Lib.hid (CC.out.appended hown hg); clear hown hg)
        obtain ⟨A', n', c', rfl, hn', _⟩ := Cw4.out.flat
        go_wp2
        go_ret
        exact ⟨A', n', c', rfl, by rw [← Q.out]; exact hn', by rw [← Q.out]; exact Cw4.out.lower HB1.out⟩
      · have Q := Lib.hid (q2 hp.out)
        clear q1 q2
        obtain ⟨A', n', c', rfl, hn', _⟩ := CC.out.flat
        go_wp2
        go_ret
        exact ⟨A', n', c', rfl, by rw [← Q.out]; exact hn', by rw [← Q.out]; exact CC.out.lower HB1.out⟩
end Go.Proofs.YtemgilofjbnoaaaGreatDoor
namespace Go.Proofs.YtemgilofjbnoaaaGreatDoor
open Go Go.RowKit Go.Sort
theorem CR.copied {w0 w w' : World} {v v' : Value} {m : Nat} {r : List Cll} (h : CR w0 w v []) (hown : w'.ownsRow w0.heap.size 30 4 v' (0 + m) ([] ++ r.flatMap Cll.enc)) (hr : r.length = m) (hg : w.grownBy w' v.ownBlock) : CR w0 w' v' r := by
  refine ⟨?_, h.bel.grown hg h.size fun g e => (h.own.lt g e).1⟩
  rw [hr]
  simpa using hown
theorem NodRow.beside {w0 W W' : World} {lo : Nat} {o : Obj} {nv : Value} {l : List Nod} (h : NodRow W lo W.heap.size nv l) (hw : w0.heap.size ≤ lo) (hg : (W.alloc o).grownBy W' (some W.heap.size)) : NodRow W' w0.heap.size W'.heap.size nv l := by
  have hs := hg.size
  simp only [World.size_alloc] at hs
  exact ((h.lower hw).keep (w' := W') (fun q _ hq => (hg.block q (by simp; omega) (fun e => by injection e with e; omega)).trans (Below.heap_alloc _ _ _ hq))).mono (by omega)
theorem Blk.beside {W W' : World} {s : Nat} {o : Obj} {ds : Array Value} {t : TypeId} (h : Blk W s ds t) (hg : (W.alloc o).grownBy W' (some W.heap.size)) : Blk W' s ds t :=
  (h.alloc o).grown hg fun e => by injection e with e; have := h.lt; omega
set_option maxRecDepth 100000 in
set_option maxHeartbeats 16000000 in
theorem specCallRun_any (view : Int) (A : Option Addr) (n c : Nat) (l : List Nod) (B : Option Addr) (m d : Nat) (cs : List Cll) (x : Cll) (w : World) (h : Nods w 0 w.heap.size A n c l) (hf : Flat Cll.enc 4 w 0 w.heap.size B m d cs) (hn : n ≤ 1048576) (hlog : ∀ x ∈ l, x.log.length ≤ 1048576) (hm : m ≤ 1048576) :
    Calls Mo.prog 11 #[.agg #[.int .i64 view, .slice A n c], .slice B m d, .agg #[.int .i64 x.client, .int .i64 x.number, .int .i64 x.what.key, .int .i64 x.what.value]] w (CallRes w (callM view l cs x)) := by
  obtain ⟨i0, hi, hz0, hz1, hz2⟩ := info_parts infoCallM
  have S0 := Lib.hid (CS.start (view := view) (x := x) h hf)
  have HG := Lib.hid hlog
  have HM := Lib.hid hf.len
  have hm0 : m ≤ 1048576 := hm
  clear h hf hlog
  obtain ⟨w0, hw0⟩ : ∃ w0 : World, ((w.alloc (.cells #[.int .i64 view, .slice A n c] 25)).alloc (.cells #[.int .i64 x.client, .int .i64 x.number, .int .i64 x.what.key, .int .i64 x.what.value] 30)).alloc (.cells #[.int .i64 0, .slice none 0 0] 25) = w0 := ⟨_, rfl⟩
  rw [hw0] at S0
  have hm : m ≤ 1048576 := by omega
  have hx3 : x.ok = cllOk x.client x.number x.what.key x.what.value := rfl
  have hb : True := trivial
  obtain ⟨a0, a1⟩ := S0.out.chain
  obtain ⟨x0, x1, x2, x3⟩ := S0.out.call
  cases h1 : chainOk view l
  · have HR := Lib.hid (callM_bad (v := view) (l := l) (cs := cs) (x := x) (by rw [h1]; rfl))
    go_enter Mo.func11, Tryz.ntmps11
    go_wp2_with fail
    refine (specChainValid_any view A n c l _ S0.out.n hn HG.out).mono ?_
    rintro e w1 ⟨rfl, hb⟩
    rw [h1]
    have S1 := Lib.hid (S0.out.below hb)
    clear hb a0 a1 x0 x1 x2 x3
    obtain ⟨a0, a1⟩ := S1.out.chain
    obtain ⟨x0, x1, x2, x3⟩ := S1.out.call
    have K := (S1.out.alloc (.cells #[] 30)).k2
    have z0 := K.cell (i := 0) (v := .int .i64 0) rfl
    have z1 := K.cell (i := 1) (v := .slice none 0 0) rfl
    have y0 := K.free 0
    have y1 := K.free 1
    have FF := Lib.hid (call_end (u := 0) (A' := none) (n' := 0) (c' := 0) (o := none) K (NodRow.nil_ _ _ _) (CR.start S1.out.b) rfl rfl rfl)
    clear a0 a1 x0 x1 x2 x3
    clear K
    go_wp2
    exact bodyPost_ret (v := .tuple #[.agg #[.int .i64 0, .slice none 0 0], .slice (some ⟨w1.heap.size, 0, none⟩) 0 0, .bool false]) (by simp [results, Tryz.results11, go_sem, FF.out.1.1, FF.out.1.2]) rfl (by rw [HR.out]; have h9 := FF.out.2; (try simp only [World.size_alloc] at h9); exact h9)
  cases h2 : callsOk cs
  · have HR := Lib.hid (callM_bad (v := view) (l := l) (cs := cs) (x := x) (by rw [h1, h2]; rfl))
    go_enter Mo.func11, Tryz.ntmps11
    go_wp2_with fail
    refine (specChainValid_any view A n c l _ S0.out.n hn HG.out).mono ?_
    rintro e w1 ⟨rfl, hb⟩
    rw [h1]
    have S1 := Lib.hid (S0.out.below hb)
    clear hb a0 a1 x0 x1 x2 x3
    obtain ⟨a0, a1⟩ := S1.out.chain
    obtain ⟨x0, x1, x2, x3⟩ := S1.out.call
    go_wp2_with fail
    refine (specCallsValid_any B m d cs _ S1.out.f hm).mono ?_
    rintro e w2 ⟨rfl, hb⟩
    rw [h2]
    have S2 := Lib.hid (S1.out.below hb)
    clear hb a0 a1 x0 x1 x2 x3
    obtain ⟨a0, a1⟩ := S2.out.chain
    obtain ⟨x0, x1, x2, x3⟩ := S2.out.call
    have K := (S2.out.alloc (.cells #[] 30)).k2
    have z0 := K.cell (i := 0) (v := .int .i64 0) rfl
    have z1 := K.cell (i := 1) (v := .slice none 0 0) rfl
    have y0 := K.free 0
    have y1 := K.free 1
    have FF := Lib.hid (call_end (u := 0) (A' := none) (n' := 0) (c' := 0) (o := none) K (NodRow.nil_ _ _ _) (CR.start S2.out.b) rfl rfl rfl)
    clear a0 a1 x0 x1 x2 x3
    clear K
    go_wp2
    exact bodyPost_ret (v := .tuple #[.agg #[.int .i64 0, .slice none 0 0], .slice (some ⟨w2.heap.size, 0, none⟩) 0 0, .bool false]) (by simp [results, Tryz.results11, go_sem, FF.out.1.1, FF.out.1.2]) rfl (by rw [HR.out]; have h9 := FF.out.2; (try simp only [World.size_alloc] at h9); exact h9)
  cases h3 : cllOk x.client x.number x.what.key x.what.value
  · have HR := Lib.hid (callM_bad (v := view) (l := l) (cs := cs) (x := x) (by rw [h1, h2, hx3, h3]; rfl))
    go_enter Mo.func11, Tryz.ntmps11
    go_wp2_with fail
    refine (specChainValid_any view A n c l _ S0.out.n hn HG.out).mono ?_
    rintro e w1 ⟨rfl, hb⟩
    rw [h1]
    have S1 := Lib.hid (S0.out.below hb)
    clear hb a0 a1 x0 x1 x2 x3
    obtain ⟨a0, a1⟩ := S1.out.chain
    obtain ⟨x0, x1, x2, x3⟩ := S1.out.call
    go_wp2_with fail
    refine (specCallsValid_any B m d cs _ S1.out.f hm).mono ?_
    rintro e w2 ⟨rfl, hb⟩
    rw [h2]
    have S2 := Lib.hid (S1.out.below hb)
    clear hb a0 a1 x0 x1 x2 x3
    obtain ⟨a0, a1⟩ := S2.out.chain
    obtain ⟨x0, x1, x2, x3⟩ := S2.out.call
    go_wp2_with fail
    refine (l15Call_any x.client x.number x.what.key x.what.value _).mono ?_
    rintro e w3 ⟨rfl, hb⟩
    rw [h3]
    have S3 := Lib.hid (S2.out.below hb)
    clear hb a0 a1 x0 x1 x2 x3
    obtain ⟨a0, a1⟩ := S3.out.chain
    obtain ⟨x0, x1, x2, x3⟩ := S3.out.call
    have K := (S3.out.alloc (.cells #[] 30)).k2
    have z0 := K.cell (i := 0) (v := .int .i64 0) rfl
    have z1 := K.cell (i := 1) (v := .slice none 0 0) rfl
    have y0 := K.free 0
    have y1 := K.free 1
    have FF := Lib.hid (call_end (u := 0) (A' := none) (n' := 0) (c' := 0) (o := none) K (NodRow.nil_ _ _ _) (CR.start S3.out.b) rfl rfl rfl)
    clear a0 a1 x0 x1 x2 x3
    clear K
    go_wp2
    exact bodyPost_ret (v := .tuple #[.agg #[.int .i64 0, .slice none 0 0], .slice (some ⟨w3.heap.size, 0, none⟩) 0 0, .bool false]) (by simp [results, Tryz.results11, go_sem, FF.out.1.1, FF.out.1.2]) rfl (by rw [HR.out]; have h9 := FF.out.2; (try simp only [World.size_alloc] at h9); exact h9)
  have HV := Lib.hid (show (chainOk view l && callsOk cs && x.ok) = true by rw [h1, h2, hx3, h3]; rfl)
  have HC2 := Lib.hid h2
  cases h4 : callsNew cs x.client x.number
  · have HR := Lib.hid (callM_old HV.out h4)
    go_enter Mo.func11, Tryz.ntmps11
    go_wp2_with fail
    refine (specChainValid_any view A n c l _ S0.out.n hn HG.out).mono ?_
    rintro e w1 ⟨rfl, hb⟩
    rw [h1]
    have S1 := Lib.hid (S0.out.below hb)
    clear hb a0 a1 x0 x1 x2 x3
    obtain ⟨a0, a1⟩ := S1.out.chain
    obtain ⟨x0, x1, x2, x3⟩ := S1.out.call
    go_wp2_with fail
    refine (specCallsValid_any B m d cs _ S1.out.f hm).mono ?_
    rintro e w2 ⟨rfl, hb⟩
    rw [h2]
    have S2 := Lib.hid (S1.out.below hb)
    clear hb a0 a1 x0 x1 x2 x3
    obtain ⟨a0, a1⟩ := S2.out.chain
    obtain ⟨x0, x1, x2, x3⟩ := S2.out.call
    go_wp2_with fail
    refine (l15Call_any x.client x.number x.what.key x.what.value _).mono ?_
    rintro e w3 ⟨rfl, hb⟩
    rw [h3]
    have S3 := Lib.hid (S2.out.below hb)
    clear hb a0 a1 x0 x1 x2 x3
    obtain ⟨a0, a1⟩ := S3.out.chain
    obtain ⟨x0, x1, x2, x3⟩ := S3.out.call
    go_wp2_with fail
    refine (specCallsNew_any _ _ _ cs x.client x.number _ S3.out.f hm).mono ?_
    rintro e w4 ⟨rfl, hb⟩
    rw [h4]
    have S4 := Lib.hid (S3.out.below hb)
    clear hb a0 a1 x0 x1 x2 x3
    obtain ⟨a0, a1⟩ := S4.out.chain
    obtain ⟨x0, x1, x2, x3⟩ := S4.out.call
    go_wp2_with fail
    refine (l4Copy_any view A n c l _ S4.out.n hn HG.out).mono ?_
    rintro e w5 ⟨A2, n2, c2, rfl, hl2, hrow, hb⟩
    have S5 := Lib.hid (S4.out.below hb)
    have R5 := Lib.hid hrow
    have L2 := Lib.hid hl2
    have C5 := Lib.hid (CR.start S5.out.b)
    have SR := Lib.hid (flat_src Cll.len (by omega) (S5.out.f.on ((Below.refl _ w5).alloc (Nat.le_refl _) (.cells #[] 30))))
    have hs5 := S5.out.b.size
    clear hrow hl2
    clear hb a0 a1 x0 x1 x2 x3
    obtain ⟨a0, a1⟩ := S5.out.chain
    obtain ⟨x0, x1, x2, x3⟩ := S5.out.call
    go_wp2_with (at_builtin; refine wpList_append_src _ rfl _ _ 26 rfl w.heap.size 30 i0 _ 4 32 Mo.underlying26 hi hz0 hz1 hz2 rfl (by decide) _ 0 [] rfl C5.out.own B m d (cs.flatMap Cll.enc) rfl SR.out (one_enc Cll.one _) (by unfold maxLen; omega) (by omega) (by simp; omega) ?_; intro v7 w7 hown hg; have C7 := Lib.hid (C5.out.copied hown HM.out hg); have K7 := Lib.hid (S5.out.k2.beside hg); have R7 := Lib.hid (R5.out.beside S4.out.b.size hg); have z0 := K7.out.cell (i := 0) (v := .int .i64 0) rfl; have z1 := K7.out.cell (i := 1) (v := .slice none 0 0) rfl; have y0 := K7.out.free 0; have y1 := K7.out.free 1; clear hown hg a0 a1 x0 x1 x2 x3)
    obtain ⟨B3, m3, d3, rfl, hm3, _⟩ := C7.out.flat
    have FF := Lib.hid (call_end (u := view) (o := some ((view, l), cs)) K7.out R7.out C7.out rfl L2.out hm3)
    exact bodyPost_ret (v := .tuple #[.agg #[.int .i64 view, .slice A2 n2 c2], .slice B3 m3 d3, .bool true]) (by simp [results, Tryz.results11, go_sem, FF.out.1.1, FF.out.1.2]) rfl (by rw [HR.out]; exact FF.out.2)
  cases hp : putM view l x.what with
  | none =>
    have HR := Lib.hid (callM_none HV.out h4 hp)
    go_enter Mo.func11, Tryz.ntmps11
    go_wp2_with fail
    refine (specChainValid_any view A n c l _ S0.out.n hn HG.out).mono ?_
    rintro e w1 ⟨rfl, hb⟩
    rw [h1]
    have S1 := Lib.hid (S0.out.below hb)
    clear hb a0 a1 x0 x1 x2 x3
    obtain ⟨a0, a1⟩ := S1.out.chain
    obtain ⟨x0, x1, x2, x3⟩ := S1.out.call
    go_wp2_with fail
    refine (specCallsValid_any B m d cs _ S1.out.f hm).mono ?_
    rintro e w2 ⟨rfl, hb⟩
    rw [h2]
    have S2 := Lib.hid (S1.out.below hb)
    clear hb a0 a1 x0 x1 x2 x3
    obtain ⟨a0, a1⟩ := S2.out.chain
    obtain ⟨x0, x1, x2, x3⟩ := S2.out.call
    go_wp2_with fail
    refine (l15Call_any x.client x.number x.what.key x.what.value _).mono ?_
    rintro e w3 ⟨rfl, hb⟩
    rw [h3]
    have S3 := Lib.hid (S2.out.below hb)
    clear hb a0 a1 x0 x1 x2 x3
    obtain ⟨a0, a1⟩ := S3.out.chain
    obtain ⟨x0, x1, x2, x3⟩ := S3.out.call
    go_wp2_with fail
    refine (specCallsNew_any _ _ _ cs x.client x.number _ S3.out.f hm).mono ?_
    rintro e w4 ⟨rfl, hb⟩
    rw [h4]
    have S4 := Lib.hid (S3.out.below hb)
    clear hb a0 a1 x0 x1 x2 x3
    obtain ⟨a0, a1⟩ := S4.out.chain
    obtain ⟨x0, x1, x2, x3⟩ := S4.out.call
    go_wp2_with fail
    refine (specChainPut_any view A n c l x.what _ S4.out.n hn HG.out).mono ?_
    rintro e w5 hq
    obtain ⟨A2, c2, rfl, hq2, hb⟩ := ChainRes.not (show ChainRes w4 (putM view l x.what) e w5 from hq) hp
    clear hq hq2
    have S5 := Lib.hid ((S4.out.below hb).alloc (.cells #[.int .i64 0, .slice A2 0 c2] 25))
    have T5 := Lib.hid (Blk.new w5 #[.int .i64 0, .slice A2 0 c2] 25)
    clear hb a0 a1 x0 x1 x2 x3
    obtain ⟨a0, a1⟩ := S5.out.chain
    obtain ⟨x0, x1, x2, x3⟩ := S5.out.call
    go_wp2_with fail
    refine (l15Put_any B m d cs x _ S5.out.f hm0 (callsOk_asc HC2.out)).mono ?_
    rintro e w6 ⟨B3, m3, d3, rfl, hm3, hcr⟩
    have S6 := Lib.hid (S5.out.below hcr.bel)
    have hb := hcr.bel
    clear hb a0 a1 x0 x1 x2 x3
    obtain ⟨a0, a1⟩ := S6.out.chain
    obtain ⟨x0, x1, x2, x3⟩ := S6.out.call
    have K := (S6.out.alloc (.cells #[] 30)).k2
    have z0 := K.cell (i := 0) (v := .int .i64 0) rfl
    have z1 := K.cell (i := 1) (v := .slice none 0 0) rfl
    have y0 := K.free 0
    have y1 := K.free 1
    have FF := Lib.hid (call_end (u := 0) (A' := none) (n' := 0) (c' := 0) (o := none) K (NodRow.nil_ _ _ _) (CR.start S6.out.b) rfl rfl rfl)
    clear a0 a1 x0 x1 x2 x3
    clear K
    go_wp2
    exact bodyPost_ret (v := .tuple #[.agg #[.int .i64 0, .slice none 0 0], .slice (some ⟨w6.heap.size, 0, none⟩) 0 0, .bool false]) (by simp [results, Tryz.results11, go_sem, FF.out.1.1, FF.out.1.2]) rfl (by rw [HR.out]; have h9 := FF.out.2; (try simp only [World.size_alloc] at h9); exact h9)
  | some p =>
    obtain ⟨v2, l2⟩ := p
    obtain ⟨N, hN⟩ : ∃ N, (putC cs x).length = N := ⟨_, rfl⟩
    have HN := Lib.hid hN
    by_cases h6 : N ≤ 6
    · have HR := Lib.hid ((callM_new HV.out h4 hp).trans (if_pos (by omega)))
      go_enter Mo.func11, Tryz.ntmps11
      go_wp2_with fail
      refine (specChainValid_any view A n c l _ S0.out.n hn HG.out).mono ?_
      rintro e w1 ⟨rfl, hb⟩
      rw [h1]
      have S1 := Lib.hid (S0.out.below hb)
      clear hb a0 a1 x0 x1 x2 x3
      obtain ⟨a0, a1⟩ := S1.out.chain
      obtain ⟨x0, x1, x2, x3⟩ := S1.out.call
      go_wp2_with fail
      refine (specCallsValid_any B m d cs _ S1.out.f hm).mono ?_
      rintro e w2 ⟨rfl, hb⟩
      rw [h2]
      have S2 := Lib.hid (S1.out.below hb)
      clear hb a0 a1 x0 x1 x2 x3
      obtain ⟨a0, a1⟩ := S2.out.chain
      obtain ⟨x0, x1, x2, x3⟩ := S2.out.call
      go_wp2_with fail
      refine (l15Call_any x.client x.number x.what.key x.what.value _).mono ?_
      rintro e w3 ⟨rfl, hb⟩
      rw [h3]
      have S3 := Lib.hid (S2.out.below hb)
      clear hb a0 a1 x0 x1 x2 x3
      obtain ⟨a0, a1⟩ := S3.out.chain
      obtain ⟨x0, x1, x2, x3⟩ := S3.out.call
      go_wp2_with fail
      refine (specCallsNew_any _ _ _ cs x.client x.number _ S3.out.f hm).mono ?_
      rintro e w4 ⟨rfl, hb⟩
      rw [h4]
      have S4 := Lib.hid (S3.out.below hb)
      clear hb a0 a1 x0 x1 x2 x3
      obtain ⟨a0, a1⟩ := S4.out.chain
      obtain ⟨x0, x1, x2, x3⟩ := S4.out.call
      go_wp2_with fail
      refine (specChainPut_any view A n c l x.what _ S4.out.n hn HG.out).mono ?_
      rintro e w5 hq
      obtain ⟨v2', A2, n2, c2, l2', hv2, rfl, hl2, hrow, hb⟩ := hq
      rw [hp] at hv2
      injection hv2 with e1 e2
      subst e1; subst e2
      have S5 := Lib.hid ((S4.out.below hb).alloc (.cells #[.int .i64 v2', .slice A2 n2 c2] 25))
      have R5 := Lib.hid (hrow.carry S4.out.b.size ((Below.refl _ w5).alloc (Nat.le_refl _) (.cells #[.int .i64 v2', .slice A2 n2 c2] 25)))
      have T5 := Lib.hid (Blk.new w5 #[.int .i64 v2', .slice A2 n2 c2] 25)
      have L2 := Lib.hid hl2
      have hpt : (putM view l x.what).isSome = true := by rw [hp]; rfl
      clear hrow hl2
      clear hb a0 a1 x0 x1 x2 x3
      obtain ⟨a0, a1⟩ := S5.out.chain
      obtain ⟨x0, x1, x2, x3⟩ := S5.out.call
      go_wp2_with fail
      refine (l15Put_any B m d cs x _ S5.out.f hm0 (callsOk_asc HC2.out)).mono ?_
      rintro e w6 ⟨B3, m3, d3, rfl, hm3, hcr⟩
      have S6 := Lib.hid (S5.out.below hcr.bel)
      have hb := hcr.bel
      obtain rfl : m3 = N := by rw [← HN.out, ← hm3]
      have T6 := Lib.hid (T5.out.below hcr.bel)
      have t0 := T6.out.cell (i := 0) (v := .int .i64 v2') rfl
      have t1 := T6.out.cell (i := 1) (v := .slice A2 n2 c2) rfl
      have K := S6.out.k2
      have z0 := K.cell (i := 0) (v := .int .i64 0) rfl
      have z1 := K.cell (i := 1) (v := .slice none 0 0) rfl
      have y0 := K.free 0
      have y1 := K.free 1
      have FF := Lib.hid (call_end (u := v2') (o := some ((v2', l2'), putC cs x)) K (R5.out.carry (Nat.le_refl _) hcr.bel) (hcr.lower S5.out.b) rfl L2.out hm3)
      clear a0 a1 x0 x1 x2 x3 hb hcr hm3
      go_wp2
      exact bodyPost_ret (v := .tuple #[.agg #[.int .i64 v2', .slice A2 n2 c2], .slice B3 m3 d3, .bool true]) (by simp [results, Tryz.results11, go_sem, FF.out.1.1, FF.out.1.2]) rfl (by rw [HR.out]; exact FF.out.2)
    · have HR := Lib.hid ((callM_new HV.out h4 hp).trans (if_neg (by omega)))
      go_enter Mo.func11, Tryz.ntmps11
      go_wp2_with fail
      refine (specChainValid_any view A n c l _ S0.out.n hn HG.out).mono ?_
      rintro e w1 ⟨rfl, hb⟩
      rw [h1]
      have S1 := Lib.hid (S0.out.below hb)
      clear hb a0 a1 x0 x1 x2 x3
      obtain ⟨a0, a1⟩ := S1.out.chain
      obtain ⟨x0, x1, x2, x3⟩ := S1.out.call
      go_wp2_with fail
      refine (specCallsValid_any B m d cs _ S1.out.f hm).mono ?_
      rintro e w2 ⟨rfl, hb⟩
      rw [h2]
      have S2 := Lib.hid (S1.out.below hb)
      clear hb a0 a1 x0 x1 x2 x3
      obtain ⟨a0, a1⟩ := S2.out.chain
      obtain ⟨x0, x1, x2, x3⟩ := S2.out.call
      go_wp2_with fail
      refine (l15Call_any x.client x.number x.what.key x.what.value _).mono ?_
      rintro e w3 ⟨rfl, hb⟩
      rw [h3]
      have S3 := Lib.hid (S2.out.below hb)
      clear hb a0 a1 x0 x1 x2 x3
      obtain ⟨a0, a1⟩ := S3.out.chain
      obtain ⟨x0, x1, x2, x3⟩ := S3.out.call
      go_wp2_with fail
      refine (specCallsNew_any _ _ _ cs x.client x.number _ S3.out.f hm).mono ?_
      rintro e w4 ⟨rfl, hb⟩
      rw [h4]
      have S4 := Lib.hid (S3.out.below hb)
      clear hb a0 a1 x0 x1 x2 x3
      obtain ⟨a0, a1⟩ := S4.out.chain
      obtain ⟨x0, x1, x2, x3⟩ := S4.out.call
      go_wp2_with fail
      refine (specChainPut_any view A n c l x.what _ S4.out.n hn HG.out).mono ?_
      rintro e w5 hq
      obtain ⟨v2', A2, n2, c2, l2', hv2, rfl, hl2, hrow, hb⟩ := hq
      rw [hp] at hv2
      injection hv2 with e1 e2
      subst e1; subst e2
      have S5 := Lib.hid ((S4.out.below hb).alloc (.cells #[.int .i64 v2', .slice A2 n2 c2] 25))
      have R5 := Lib.hid (hrow.carry S4.out.b.size ((Below.refl _ w5).alloc (Nat.le_refl _) (.cells #[.int .i64 v2', .slice A2 n2 c2] 25)))
      have T5 := Lib.hid (Blk.new w5 #[.int .i64 v2', .slice A2 n2 c2] 25)
      have L2 := Lib.hid hl2
      have hpt : (putM view l x.what).isSome = true := by rw [hp]; rfl
      clear hrow hl2
      clear hb a0 a1 x0 x1 x2 x3
      obtain ⟨a0, a1⟩ := S5.out.chain
      obtain ⟨x0, x1, x2, x3⟩ := S5.out.call
      go_wp2_with fail
      refine (l15Put_any B m d cs x _ S5.out.f hm0 (callsOk_asc HC2.out)).mono ?_
      rintro e w6 ⟨B3, m3, d3, rfl, hm3, hcr⟩
      have S6 := Lib.hid (S5.out.below hcr.bel)
      have hb := hcr.bel
      obtain rfl : m3 = N := by rw [← HN.out, ← hm3]
      have T6 := Lib.hid (T5.out.below hcr.bel)
      have t0 := T6.out.cell (i := 0) (v := .int .i64 v2') rfl
      have t1 := T6.out.cell (i := 1) (v := .slice A2 n2 c2) rfl
      clear hcr hm3
      have K := (S6.out.alloc (.cells #[] 30)).k2
      have z0 := K.cell (i := 0) (v := .int .i64 0) rfl
      have z1 := K.cell (i := 1) (v := .slice none 0 0) rfl
      have y0 := K.free 0
      have y1 := K.free 1
      have FF := Lib.hid (call_end (u := 0) (A' := none) (n' := 0) (c' := 0) (o := none) K (NodRow.nil_ _ _ _) (CR.start S6.out.b) rfl rfl rfl)
      clear hb a0 a1 x0 x1 x2 x3
      clear K
      go_wp2
      exact bodyPost_ret (v := .tuple #[.agg #[.int .i64 0, .slice none 0 0], .slice (some ⟨w6.heap.size, 0, none⟩) 0 0, .bool false]) (by simp [results, Tryz.results11, go_sem, FF.out.1.1, FF.out.1.2]) rfl (by rw [HR.out]; have h9 := FF.out.2; (try simp only [World.size_alloc] at h9); exact h9)
end Go.Proofs.YtemgilofjbnoaaaGreatDoor
