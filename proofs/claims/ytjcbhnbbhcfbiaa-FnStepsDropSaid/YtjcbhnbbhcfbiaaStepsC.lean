/- The first step that does not fit: the plain function, and the reference's walk. -/
import Derived.Test.YtjcbhnbbhcfbiaaStepsB
namespace Go.Proofs.Ytjcbhnbbhcfbiaa
open Go.RowKit

def stStep (st : List Int) (s : Stp) : List Int := if s.reads then st else st.set s.key.toNat s.value
def stTo (l : List Stp) (k : Nat) : List Int := (l.take k).foldl stStep st0
/-- step k reads another value -/
def badAt (l : List Stp) (k : Nat) : Bool :=
  match l[k]? with
  | some s => s.reads && !(decide ((stTo l k)[s.key.toNat]? = some s.value))
  | none => false
def firstBad (l : List Stp) : Int :=
  match (List.range l.length).find? (badAt l) with
  | some k => (k : Int)
  | none => -1
def stepsBad (l : List Stp) : Int := if stepsOk l then firstBad l else -2

theorem stTo_succ {l : List Stp} {k : Nat} {s : Stp} (hs : l[k]? = some s) : stTo l (k + 1) = stStep (stTo l k) s := by
  have hk := (List.getElem?_eq_some_iff.1 hs).1
  have e : l[k] = s := by rw [List.getElem?_eq_getElem hk] at hs; injection hs
  unfold stTo
  rw [List.take_succ_eq_append_getElem hk, List.foldl_append, e]; rfl
theorem stStep_len (st : List Int) (s : Stp) : (stStep st s).length = st.length := by unfold stStep; split <;> simp
theorem fold_len (l : List Stp) : ∀ st : List Int, (l.foldl stStep st).length = st.length := by
  induction l with
  | nil => intro st; rfl
  | cons s l ih => intro st; rw [List.foldl_cons, ih, stStep_len]
theorem stTo_len (l : List Stp) (k : Nat) : (stTo l k).length = 5 := by unfold stTo; rw [fold_len]; rfl
theorem firstBad_at {l : List Stp} {k : Nat} (h : ∀ i, i < k → badAt l i = false) (hk : badAt l k = true) (hl : k < l.length) : firstBad l = k := by
  unfold firstBad
  have : (List.range l.length).find? (badAt l) = some k := by
    rw [List.find?_eq_some_iff_append]
    refine ⟨hk, List.range k, (List.range l.length).drop (k + 1), ?_, fun a ha => by simp at ha; simp [h a ha]⟩
    apply List.ext_getElem?
    intro j
    by_cases hj : j < k
    · rw [List.getElem?_append_left (by simpa using hj)]
      simp [hj, show j < l.length by omega]
    · rw [List.getElem?_append_right (by simpa using hj)]
      simp only [List.length_range]
      by_cases hjk : j = k
      · subst hjk; simp [hl]
      · obtain ⟨d, rfl⟩ : ∃ d, j = k + 1 + d := ⟨j - (k + 1), by omega⟩
        rw [show k + 1 + d - k = d + 1 from by omega, List.getElem?_cons_succ, List.getElem?_drop]
  rw [this]
theorem firstBad_none {l : List Stp} (h : ∀ i, i < l.length → badAt l i = false) : firstBad l = -1 := by
  unfold firstBad
  have : (List.range l.length).find? (badAt l) = none := by
    rw [List.find?_eq_none]
    intro x hx
    simp at hx
    simp [h x hx]
  rw [this]
theorem not_below_succ {l : List Stp} {k : Nat} (h : ∀ i, i < k → badAt l i = false) (hk : badAt l k = false) : ∀ i, i < k + 1 → badAt l i = false := by
  intro i hi
  by_cases e : i = k
  · subst e; exact hk
  · exact h i (by omega)
theorem badAt_put {l : List Stp} {k : Nat} {s : Stp} (hs : l[k]? = some s) (hr : s.reads = false) : badAt l k = false := by simp [badAt, hs, hr]
theorem badAt_read {l : List Stp} {k kk : Nat} {s : Stp} {x : Int} (hs : l[k]? = some s) (hr : s.reads = true) (hkk : s.key = (kk : Int)) (hx : (stTo l k)[kk]? = some x) : badAt l k = !(decide (x = s.value)) := by
  have e : s.key.toNat = kk := by rw [hkk]; rfl
  simp [badAt, hs, hr, e, hx]
theorem step_key {l : List Stp} {k : Nat} {s : Stp} (h : stepsOk l = true) (hs : l[k]? = some s) : ∃ kk : Nat, s.key = (kk : Int) ∧ kk < 5 := by
  have ho : s.ok = true := by
    unfold stepsOk at h
    simp only [Bool.and_eq_true, List.all_eq_true] at h
    exact h.1.2 s (List.mem_of_getElem? hs)
  have hk : 0 ≤ s.key ∧ s.key ≤ 4 := by
    simp only [Stp.ok, stpOk, Bool.and_eq_true, inB, decide_eq_true_eq] at ho
    exact ho.1
  exact ⟨s.key.toNat, by omega, by omega⟩
theorem stTo_put {l : List Stp} {k kk : Nat} {s : Stp} (hs : l[k]? = some s) (hr : s.reads = false) (hkk : s.key = (kk : Int)) : stTo l (k + 1) = (stTo l k).set kk s.value := by
  rw [stTo_succ hs]; unfold stStep; rw [hr, hkk]; rfl
theorem stTo_read {l : List Stp} {k : Nat} {s : Stp} (hs : l[k]? = some s) (hr : s.reads = true) : stTo l (k + 1) = stTo l k := by
  rw [stTo_succ hs]; unfold stStep; rw [hr]; rfl
theorem set_same {st : List Int} {kk : Nat} {x : Int} (h : st[kk]? = some x) : st.set kk x = st := by
  apply List.ext_getElem?
  intro i
  by_cases e : kk = i
  · subst e; rw [List.getElem?_set_self (List.getElem?_eq_some_iff.1 h).1, h]
  · rw [List.getElem?_set_ne e]

set_option maxHeartbeats 2000000 in
theorem specStepsBad_any (A : Option Addr) (n c : Nat) (l : List Stp) (w : World) (h : Flat Stp.enc 3 w 0 w.heap.size A n c l) (hn : n ≤ 1048576) :
    Calls Try.prog 18 #[.slice A n c] w fun e w' => e = .returned (.int .i64 (stepsBad l)) ∧ Below w.heap.size w w' := by
  have HL := Lib.hid h.len
  have H := Lib.hid h
  clear h
  cases hok : stepsOk l
  · go_enter Try.func18, Try.ntmps18
    go_wp2_with (go_at_call 30; refine (specStepsValid_any _ _ _ l _ H.out hn).mono ?_; rintro e w1 ⟨rfl, hb1⟩; rw [hok]; have B1 := Lib.hid hb1; clear hb1)
    go_ret
    exact ⟨ret_int (by unfold stepsBad; rw [hok]; rfl), B1.out⟩
  have HK := Lib.hid hok
  clear hok
  go_enter Try.func18, Try.ntmps18
  go_wp2_with fail
  refine (specStepsValid_any _ _ _ l _ H.out hn).mono ?_
  rintro e w1 ⟨rfl, hb1⟩
  rw [HK.out]
  have F1 := Lib.hid (H.out.below hb1 (Nat.le_refl _))
  have B1 := Lib.hid hb1
  have s1 := hb1.size
  clear hb1 H
  go_wp2_with fail
  refine (l2Empty_any _).mono ?_
  rintro e w2 ⟨g, cap, rfl, hg, hc5, hcm, hown, hb2⟩
  have S2 := Lib.hid (StAt.of_own hown rfl)
  have F2 := Lib.hid (F1.out.below hb2 s1)
  have B2 := Lib.hid (B1.out.trans (hb2.mono s1))
  have s2 := hb2.size
  clear hb2 hown F1
  go_wp2_with fail
  go_loopw [4] (fun i wr => ∃ k : Nat, k ≤ n ∧ i = .int .i64 k ∧ Hid (∀ i, i < k → badAt l i = false) ∧ StAt wr g (stTo l k) ∧ Below w.heap.size w wr ∧ Below w1.heap.size w2 wr)
    (fun i _ => n - (intOf i).toNat)
  case atStart => exact ⟨0, Nat.zero_le _, rfl, fun i h => absurd h (by omega), S2.out, B2.out, Below.refl _ _⟩
  case round =>
    obtain ⟨k, hk, rfl, hall, hst, hB, hB'⟩ := hrel
    have HW := Lib.hid (F2.out.below hB' s1)
    have HS := Lib.hid hst
    have HB := Lib.hid hB
    have HB' := Lib.hid hB'
    have hgs := hst.1
    clear hB hB' hst
    by_cases hlt : k < n
    · obtain ⟨b, off, s, rfl, _, hbB, hs, c0, c1, c2⟩ := HW.out.stp hlt
      have Hs := Lib.hid hs
      obtain ⟨kk, hkk, hkk5⟩ := step_key HK.out hs
      clear hs
      rw [hkk] at c1
      have HKK := Lib.hid hkk
      clear hkk
      obtain ⟨x, hx, hcx⟩ := HS.out.at_ (show kk < (stTo l k).length by rw [stTo_len]; exact hkk5)
      have hfx := HS.out.2.2 kk (by rw [stTo_len]; exact hkk5)
      have Hx := Lib.hid hx
      clear hx
      have hk0 : (0 : Int) ≤ (k : Int) := by omega
      have hkn : (k : Int) < (n : Int) := by omega
      have hq0 : (0 : Int) ≤ (kk : Int) := by omega
      have hq5 : (kk : Int) < 5 := by omega
      cases hr : s.reads
      · rw [hr] at c0
        have Hr := Lib.hid hr
        clear hr
        go_wp2_with fail
        go_quiet (fail)
        go_wp2_with fail
        go_region
        go_wp2
        go_roundw
        case rel =>
          refine ⟨k + 1, by omega, by go_num, not_below_succ hall.out (badAt_put Hs.out Hr.out), ?_, ?_, ?_⟩
          · rw [stTo_put Hs.out Hr.out HKK.out]; exact HS.out.put kk s.value
          · exact (below_drewN HB.out _).setCell (p := ⟨g, kk, none⟩) (by show w.heap.size ≤ g; omega) _
          · exact (below_drewN HB'.out _).setCell (p := ⟨g, kk, none⟩) hg _
        case measure => simp [intOf]; omega
      · rw [hr] at c0
        have Hr := Lib.hid hr
        clear hr
        by_cases hxe : x = s.value
        · subst hxe
          go_wp2_with fail
          go_quiet (fail)
          go_wp2_with fail
          go_region
          go_wp2
          go_roundw
          case rel =>
            refine ⟨k + 1, by omega, by go_num, not_below_succ hall.out (by rw [badAt_read Hs.out Hr.out HKK.out Hx.out]; simp), ?_, ?_, ?_⟩
            · rw [stTo_read Hs.out Hr.out, ← set_same Hx.out]; exact HS.out.put kk s.value
            · exact (below_drewN HB.out _).setCell (p := ⟨g, kk, none⟩) (by show w.heap.size ≤ g; omega) _
            · exact (below_drewN HB'.out _).setCell (p := ⟨g, kk, none⟩) hg _
          case measure => simp [intOf]; omega
        · have hne : (x == s.value) = false := by simp [hxe]
          have hne' : (x != s.value) = true := by simp [hxe]
          go_wp2_with fail
          go_quiet (fail)
          go_wp2
          go_ret
          refine ⟨ret_int ?_, below_drewN HB.out _⟩
          unfold stepsBad
          rw [HK.out, if_pos rfl, firstBad_at hall.out (by rw [badAt_read Hs.out Hr.out HKK.out Hx.out]; simp [hxe]) (by have := HL.out; omega)]
    · go_wp2
      go_ret
      refine ⟨ret_int ?_, HB.out⟩
      unfold stepsBad
      rw [HK.out, if_pos rfl, firstBad_none (fun i hi => hall.out i (by have := HL.out; omega))]
end Go.Proofs.Ytjcbhnbbhcfbiaa
