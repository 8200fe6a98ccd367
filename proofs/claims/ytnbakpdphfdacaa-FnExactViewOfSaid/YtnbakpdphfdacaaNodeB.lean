/- The state behind the first updates of a log: the plain function, the program's and the reference's walks. -/
import Derived.Test.YtnbakpdphfdacaaNodeA
import Derived.Test.YtnbakpdphfdacaaState
namespace Go.Proofs.Ytnbakpdphfdacaa
open Go.RowKit

def upStep (st : List Int) (u : Upd) : List Int := st.set u.key.toNat u.value
def stAt (l : List Upd) (k : Nat) : List Int := (l.take k).foldl upStep st0
def stateOf (l : List Upd) (many : Int) : List Int := if logOk l && inB many 0 l.length then stAt l many.toNat else []
theorem stAt_succ {l : List Upd} {k kk : Nat} {u : Upd} (hu : l[k]? = some u) (hk : u.key = (kk : Int)) : stAt l (k + 1) = (stAt l k).set kk u.value := by
  have hlt := (List.getElem?_eq_some_iff.1 hu).1
  have e : l[k] = u := by rw [List.getElem?_eq_getElem hlt] at hu; injection hu
  unfold stAt
  rw [List.take_succ_eq_append_getElem hlt, List.foldl_append, e]
  simp [upStep, hk]
theorem fold_up_len (l : List Upd) : ∀ st : List Int, (l.foldl upStep st).length = st.length := by
  induction l with
  | nil => intro st; rfl
  | cons s l ih => intro st; rw [List.foldl_cons, ih]; simp [upStep]
theorem stAt_len (l : List Upd) (k : Nat) : (stAt l k).length = 5 := by unfold stAt; rw [fold_up_len]; rfl
theorem logOk_at {l : List Upd} {k : Nat} {u : Upd} (h : logOk l = true) (hu : l[k]? = some u) : updOk u.key u.value = true := by
  unfold logOk at h
  simp only [Bool.and_eq_true, List.all_eq_true] at h
  exact h.2 u (List.mem_of_getElem? hu)
theorem logOk_key {l : List Upd} {k : Nat} {u : Upd} (h : logOk l = true) (hu : l[k]? = some u) : ∃ kk : Nat, u.key = (kk : Int) ∧ kk < 5 := by
  have ho := logOk_at h hu
  simp only [updOk, Bool.and_eq_true, inB, decide_eq_true_eq] at ho
  exact ⟨u.key.toNat, by omega, by omega⟩
theorem logOk_len {l : List Upd} (h : logOk l = true) : l.length ≤ 12 := by
  unfold logOk at h; simp only [Bool.and_eq_true, decide_eq_true_eq] at h; exact h.1

theorem stAt_src {w : World} {g : Nat} {st : List Int} (h : StAt w g st) : Src w 1 (some ⟨g, 0, none⟩) st.length (st.flatMap encInt) := by
  refine ⟨by rw [length_flatMap encInt_len], (fun e => by cases e), fun ad e j u hu => ?_⟩
  injection e with e; subst e
  have hj := (List.getElem?_eq_some_iff.1 hu).1
  rw [length_flatMap encInt_len, Nat.mul_one] at hj
  have hx := List.getElem?_eq_getElem hj
  have h2 := flatMap_get encInt_len st j _ hx 0 (.int .i64 st[j]) rfl
  rw [Nat.mul_one, Nat.add_zero, hu] at h2
  injection h2 with h2
  have ea : (⟨g, 0, none⟩ : Addr).add j = ⟨g, j, none⟩ := by unfold Addr.add; split <;> simp_all
  rw [ea, h2]
  exact h.2.1 j _ hx

/-- what a state leaves: the numbers st in new memory -/
def StateLeft (w : World) (st : List Int) (e : Ending) (w' : World) : Prop :=
  ∃ g c, e = .returned (.slice (some ⟨g, 0, none⟩) st.length c) ∧ st.length ≤ c ∧ c ≤ maxLen ∧ w.heap.size ≤ g ∧ StAt w' g st ∧ Below w.heap.size w w'

theorem sizeInt : (Try.prog.info? 3).map (·.size) = some 1 := by kernel_rfl

set_option maxHeartbeats 1000000 in
theorem list_any (g : Nat) (st : List Int) (w : World) (h : StAt w g st) (hl : st.length = 5) :
    Calls Try.prog 122 #[.pointer (some ⟨g, 0, none⟩)] w (StateLeft w st) := by
  have H := Lib.hid h
  have HL := Lib.hid hl
  clear h hl
  have hmk : ∀ W : World, (Instr.makeSlice 26 (.int .i64 5) (.int .i64 5)).run Try.prog W = .ok (.slice (some ⟨W.heap.size, 0, none⟩) 5 5) (W.alloc (.cells #[.int .i64 0, .int .i64 0, .int .i64 0, .int .i64 0, .int .i64 0] 3)) := fun _ => by kernel_rfl
  have hb0 : Below w.heap.size w (w.alloc (.cells #[.int .i64 0, .int .i64 0, .int .i64 0, .int .i64 0, .int .i64 0] 3)) := (Below.refl _ _).alloc (Nat.le_refl _) _
  have S := Lib.hid (stAt_src (H.out.below hb0))
  rw [HL.out] at S
  have HB0 := Lib.hid hb0
  clear hb0
  go_enter Try.func122, Try.ntmps122
  go_wp2_with (with_reducible refine wpList_copy_rows rfl _ _ 26 26 rfl 3 Try.underlying26 1 sizeInt w.heap.size 5 5 5 (some ⟨g, 0, none⟩) rfl rfl _ (heap_alloc_new _ _) rfl (st.flatMap encInt) S.out (one_enc encInt_one _) (by unfold maxLen; omega) w.heap.size w.heap.size w HB0.out (Nat.le_refl _) (Nat.le_refl _) ?_; intro w2 hown2 hb2; have B2 := Lib.hid hb2; clear hb2)
  go_ret
  exact ⟨w.heap.size, 5, by rw [HL.out]; rfl, by rw [HL.out]; exact Nat.le_refl _, by unfold maxLen; omega, Nat.le_refl _, StAt.of_own hown2.out HL.out, B2.out⟩

theorem stateLeft_nil {w w1 : World} {t : TypeId} (hb : Below w.heap.size w w1) : StateLeft w [] (.returned (.slice (some ⟨w1.heap.size, 0, none⟩) 0 0)) (w1.alloc (.cells #[] t)) :=
  ⟨w1.heap.size, 0, rfl, Nat.le_refl _, Nat.zero_le _, hb.size, ⟨by simp, (fun i x h => by simp at h), fun i h => absurd h (by simp)⟩, hb.alloc hb.size _⟩

set_option maxHeartbeats 2000000 in
theorem stateAt_any (A : Option Addr) (n c : Nat) (l : List Upd) (many : Int) (w : World) (h : Flat Upd.enc 2 w 0 w.heap.size A n c l) (hn : n ≤ 1048576) :
    Calls Try.prog 112 #[.slice A n c, .int .i64 many] w (StateLeft w (stateOf l many)) := by
  have HL := Lib.hid h.len
  have H := Lib.hid h
  have hnc := h.2.1
  have hcm := h.2.2.1
  clear h
  unfold maxLen at hcm
  cases hok : logOk l
  · have e0 : stateOf l many = [] := by simp [stateOf, hok]
    rw [e0]
    clear e0
    go_enter Try.func112, Try.ntmps112
    go_wp2_with (go_at_call 109; refine (logValid_any _ _ _ l _ H.out hn).mono ?_; rintro e w1 ⟨rfl, hb1⟩; have B1 := Lib.hid hb1; clear hb1)
    go_ret
    exact stateLeft_nil B1.out
  by_cases h0 : 0 ≤ many
  case neg =>
    have e0 : stateOf l many = [] := by simp [stateOf, inB]; omega
    rw [e0]
    clear e0
    go_enter Try.func112, Try.ntmps112
    go_wp2_with (go_at_call 109; refine (logValid_any _ _ _ l _ H.out hn).mono ?_; rintro e w1 ⟨rfl, hb1⟩; have B1 := Lib.hid hb1; clear hb1)
    go_ret
    exact stateLeft_nil B1.out
  by_cases h1 : many ≤ n
  case neg =>
    have e0 : stateOf l many = [] := by have := HL.out; simp [stateOf, inB]; omega
    rw [e0]
    clear e0
    go_enter Try.func112, Try.ntmps112
    go_wp2_with (go_at_call 109; refine (logValid_any _ _ _ l _ H.out hn).mono ?_; rintro e w1 ⟨rfl, hb1⟩; have B1 := Lib.hid hb1; clear hb1)
    go_ret
    exact stateLeft_nil B1.out
  obtain ⟨k, rfl⟩ := Int.eq_ofNat_of_zero_le h0
  have e0 : stateOf l k = stAt l k := by have := HL.out; simp [stateOf, hok, inB]; omega
  have E0 := Lib.hid e0
  have HK := Lib.hid hok
  clear e0
  have hkn : k ≤ n := by omega
  go_enter Try.func112, Try.ntmps112
  go_wp2_with fail
  refine (logValid_any _ _ _ l _ H.out hn).mono ?_
  rintro e w1 ⟨rfl, hb1⟩
  rw [HK.out]
  clear hok
  have H1 := Lib.hid (H.out.on hb1)
  have B1 := Lib.hid hb1
  clear hb1
  go_wp2_with fail
  refine (newState_any _).mono ?_
  rintro e w2 ⟨rfl, hs2, hb2⟩
  have S2 := Lib.hid hs2
  have H2 := Lib.hid ((H1.out.take_ hkn).on hb2)
  have B2 := Lib.hid (B1.out.trans (hb2.mono B1.out.size))
  have hg1 : w.heap.size ≤ w1.heap.size := B1.out.size
  have hg2 := hs2.1
  clear hs2 hb2
  go_wp2_with fail
  go_loopw [27] (fun i wr => ∃ j : Nat, j ≤ k ∧ i = .int .i64 j ∧ StAt wr w1.heap.size (stAt l j) ∧ Below w.heap.size w wr ∧ wr.heap.size ≥ w2.heap.size ∧ Hid (Flat Upd.enc 2 wr 0 w.heap.size A k c (l.take k)))
    (fun i _ => k - (intOf i).toNat)
  case atStart => exact ⟨0, Nat.zero_le _, rfl, S2.out, B2.out, Nat.le_refl _, (H.out.take_ hkn).below B2.out (Nat.le_refl _)⟩
  case round =>
    obtain ⟨j, hj, rfl, hst, hB, hsz, HW⟩ := hrel
    have HS := Lib.hid hst
    have HB := Lib.hid hB
    clear hst hB
    by_cases hlt : j < k
    · obtain ⟨b, off, u, rfl, _, hbB, hu, c0, c1⟩ := HW.out.upd hlt
      have hu' : l[j]? = some u := by rw [List.getElem?_take, if_pos hlt] at hu; exact hu
      obtain ⟨kk, hkk, hkk5⟩ := logOk_key HK.out hu'
      have Hu := Lib.hid hu'
      have HKK := Lib.hid hkk
      rw [hkk] at c0
      clear hu hu' hkk
      have S3 := Lib.hid (HS.out.alloc (.cells #[.int .i64 (kk : Int), .int .i64 u.value] 72))
      go_wp2_with (go_at_call 121; refine (put_any w1.heap.size (stAt l j) kk u.value _ S3.out (stAt_len _ _) hkk5).mono ?_; rintro e w3 ⟨rfl, hs3, hg3⟩; have S4 := Lib.hid hs3; have G3 := Lib.hid hg3; clear hs3 hg3)
      go_roundw
      case rel =>
        have hb3 : Below w.heap.size w w3 := (HB.out.alloc (by omega) _).grown G3.out (by simp; omega) (fun g e => by cases e; exact hg1)
        refine ⟨j + 1, by omega, by go_num, ?_, hb3, by have := G3.out.size; simp at this; omega, (H.out.take_ hkn).below hb3 (Nat.le_refl _)⟩
        rw [stAt_succ Hu.out HKK.out]; exact S4.out
      case measure => simp [intOf]; omega
    · obtain rfl : j = k := by omega
      have hlen := stAt_len l j
      go_wp2_with (go_at_call 122; refine (list_any w1.heap.size (stAt l j) _ HS.out (stAt_len _ _)).mono ?_; rintro e w3 ⟨g, cc, rfl, hl1, hl2, hl3, hs3, hb3⟩; have S4 := Lib.hid hs3; have B4 := Lib.hid (HB.out.trans (hb3.mono (show w.heap.size ≤ wr.heap.size by omega))); clear hs3 hb3)
      go_ret
      rw [E0.out]
      exact ⟨g, cc, by rw [stAt_len]; rfl, hl1, hl2, by omega, S4.out, B4.out⟩

set_option maxHeartbeats 1000000 in
theorem stateOf_any (A : Option Addr) (n c : Nat) (l : List Upd) (w : World) (h : Flat Upd.enc 2 w 0 w.heap.size A n c l) (hn : n ≤ 1048576) :
    Calls Try.prog 97 #[.slice A n c] w (StateLeft w (stateOf l n)) := by
  go_enter Try.func97, Try.ntmps97
  go_wp2_with (go_at_call 112; refine (stateAt_any _ _ _ l _ _ h hn).mono ?_; rintro e w3 ⟨g, cc, rfl, hl1, hl2, hl3, hs3, hb3⟩; have S4 := Lib.hid hs3; have B4 := Lib.hid hb3; clear hs3 hb3)
  go_ret
  exact ⟨g, cc, rfl, hl1, hl2, hl3, S4.out, B4.out⟩

set_option maxHeartbeats 2000000 in
theorem l2At_any (A : Option Addr) (n c : Nat) (l : List Upd) (k : Nat) (w : World) (h : Flat Upd.enc 2 w 0 w.heap.size A n c l) (hn : n ≤ 1048576) (hok : logOk l = true) (hk : k ≤ n) :
    Calls Try.prog 94 #[.slice A n c, .int .i64 k] w (StateLeft w (stAt l k)) := by
  have HL := Lib.hid h.len
  have H := Lib.hid h
  have HK := Lib.hid hok
  clear h hok
  go_enter Try.func94, Try.ntmps94
  go_wp2_with fail
  refine (l2Empty_any _).mono ?_
  rintro e w1 ⟨g, cap, rfl, hg, hc5, hcm, hown, hb1⟩
  have S1 := Lib.hid (StAt.of_own hown rfl)
  have B1 := Lib.hid hb1
  have hg1 := (hown.lt g rfl).2
  clear hb1 hown
  go_wp2_with fail
  go_loopw [6] (fun i wr => ∃ j : Nat, j ≤ k ∧ i = .int .i64 j ∧ StAt wr g (stAt l j) ∧ Below w.heap.size w wr)
    (fun i _ => k - (intOf i).toNat)
  case atStart => exact ⟨0, Nat.zero_le _, rfl, S1.out, B1.out⟩
  case round =>
    obtain ⟨j, hj, rfl, hst, hB⟩ := hrel
    have HW := Lib.hid (H.out.below hB (Nat.le_refl _))
    have HS := Lib.hid hst
    have HB := Lib.hid hB
    clear hst hB
    by_cases hlt : j < k
    · obtain ⟨b, off, u, rfl, _, hbB, hu, c0, c1⟩ := HW.out.upd (show j < n by omega)
      obtain ⟨kk, hkk, hkk5⟩ := logOk_key HK.out hu
      have Hu := Lib.hid hu
      have HKK := Lib.hid hkk
      rw [hkk] at c0
      clear hu hkk
      obtain ⟨x, hx, hcx⟩ := HS.out.at_ (show kk < (stAt l j).length by rw [stAt_len]; exact hkk5)
      have hfx := HS.out.2.2 kk (by rw [stAt_len]; exact hkk5)
      clear hx
      have hk0 : (0 : Int) ≤ (j : Int) := by omega
      have hkn : (j : Int) < (n : Int) := by omega
      have hq0 : (0 : Int) ≤ (kk : Int) := by omega
      have hq5 : (kk : Int) < 5 := by omega
      go_wp2_with fail
      go_region
      go_wp2
      go_roundw
      case rel =>
        refine ⟨j + 1, by omega, by go_num, ?_, ?_⟩
        · rw [stAt_succ Hu.out HKK.out]; exact HS.out.put kk u.value
        · exact HB.out.drew.setCell (p := ⟨g, kk, none⟩) (by show w.heap.size ≤ g; omega) _
      case measure => simp [intOf]; omega
    · obtain rfl : j = k := by omega
      go_wp2
      go_ret
      exact ⟨g, cap, by rw [stAt_len]; rfl, by rw [stAt_len]; exact hc5, hcm, hg, HS.out, HB.out⟩
end Go.Proofs.Ytnbakpdphfdacaa
