/- A call of a client is new: both walks. -/
import Derived.Test.YtfdhgahhcnipjaaMaps
import Derived.Test.YtfdhgahhcnipjaaCallsP
namespace Go.Proofs.Ytfdhgahhcnipjaa
open Go.RowKit

def firstOf (l : List Cll) (c : Int) : Option Cll := l.find? (fun x => decide (x.client = c))
def isNew (o : Option Cll) (n : Int) : Bool := match o with | none => true | some x => decide (x.number < n)
def callsNew (l : List Cll) (c n : Int) : Bool := callsOk l && callIn c n && isNew (firstOf l c) n

theorem last_first : ∀ (l : List Cll) (c : Int), l.Pairwise (fun x y => x.client < y.client) → lastOf l c = firstOf l c := by
  intro l c h
  induction l with
  | nil => rfl
  | cons a l ih =>
    have hl := List.pairwise_cons.1 h
    have hrec := ih hl.2
    unfold lastOf firstOf at hrec ⊢
    rw [List.reverse_cons, List.find?_append, hrec, List.find?_cons]
    by_cases e : a.client = c
    · have : l.find? (fun x => decide (x.client = c)) = none := by
        rw [List.find?_eq_none]
        intro x hx
        have := hl.1 x hx
        simp; omega
      rw [this]; simp [e]
    · simp [e]
theorem callsOk_last {l : List Cll} (h : callsOk l = true) (c : Int) : lastOf l c = firstOf l c := last_first l c ((callsOk_iff l).1 h).2.2
theorem callsOk_clients {l : List Cll} (h : callsOk l = true) : clientsIn l := by
  intro x hx
  have := ((callsOk_iff l).1 h).2.1 x hx
  simp only [Cll.ok, cllOk, callIn, inB, Bool.and_eq_true, decide_eq_true_eq] at this
  omega

/-- place v is where the first call of the client lies -/
def PlaceOf (l : List Cll) (c v : Int) : Prop := (v = -1 ∧ firstOf l c = none) ∨ ∃ (k : Nat) (x : Cll), v = (k : Int) ∧ l[k]? = some x ∧ firstOf l c = some x
theorem first_at {l : List Cll} {c : Int} {k : Nat} {x : Cll} (h : ∀ (i : Nat) (y : Cll), i < k → l[i]? = some y → y.client ≠ c) (hx : l[k]? = some x) (hc : x.client = c) : firstOf l c = some x := by
  unfold firstOf
  have hk := (List.getElem?_eq_some_iff.1 hx).1
  have e : l[k] = x := by rw [List.getElem?_eq_getElem hk] at hx; injection hx
  rw [List.find?_eq_some_iff_append]
  refine ⟨by simp [hc], l.take k, l.drop (k + 1), ?_, fun a ha => ?_⟩
  · rw [← e]
    exact (List.take_append_drop k l).symm.trans (by rw [List.drop_eq_getElem_cons hk])
  · obtain ⟨i, hi, rfl⟩ := List.mem_take_iff_getElem.1 ha
    have := h i l[i] (by omega) (List.getElem?_eq_getElem (by omega))
    simp [this]
theorem first_none {l : List Cll} {c : Int} (h : ∀ (i : Nat) (y : Cll), i < l.length → l[i]? = some y → y.client ≠ c) : firstOf l c = none := by
  unfold firstOf
  rw [List.find?_eq_none]
  intro x hx
  obtain ⟨i, hi⟩ := List.getElem?_of_mem hx
  have := h i x (List.getElem?_eq_some_iff.1 hi).1 hi
  simp [this]

set_option maxHeartbeats 1000000 in
theorem l15At_any (A : Option Addr) (n c : Nat) (l : List Cll) (cl : Int) (w : World) (h : Flat Cll.enc 4 w 0 w.heap.size A n c l) (hn : n ≤ 1048576) :
    Calls Try.prog 52 #[.slice A n c, .int .i64 cl] w fun e w' => ∃ v, e = .returned (.int .i64 v) ∧ PlaceOf l cl v ∧ w = w' := by
  have H := Lib.hid h
  have HL := Lib.hid h.len
  clear h
  go_enter Try.func52, Try.ntmps52
  go_wp2
  go_loopw [5] (fun i wr => ∃ k : Nat, k ≤ n ∧ i = .int .i64 k ∧ Hid (∀ (i : Nat) (y : Cll), i < k → l[i]? = some y → y.client ≠ cl) ∧ w = wr)
    (fun i _ => n - (intOf i).toNat)
  case atStart => exact ⟨0, Nat.zero_le _, rfl, fun i y h => absurd h (by omega), rfl⟩
  case round =>
    obtain ⟨k, hk, rfl, hall, rfl⟩ := hrel
    by_cases hlt : k < n
    · obtain ⟨b, off, x, rfl, _, _, hx, c0, _, _, _⟩ := H.out.cll hlt
      have Hx := Lib.hid hx
      clear hx
      by_cases hc : x.client = cl
      · have he : (x.client == cl) = true := by simp [hc]
        go_wp2
        go_ret
        exact ⟨_, rfl, .inr ⟨k, x, rfl, Hx.out, first_at hall.out Hx.out hc⟩, rfl⟩
      · have he : (x.client == cl) = false := by simp [hc]
        go_wp2
        go_roundw
        case rel =>
          refine ⟨k + 1, by omega, by go_num, fun i y hi hy => ?_, trivial⟩
          by_cases e : i = k
          · subst e; rw [Hx.out] at hy; injection hy with hy; rw [← hy]; exact hc
          · exact hall.out i y (by omega) hy
        case measure => simp [intOf]; omega
    · go_wp2
      go_ret
      exact ⟨_, rfl, .inl ⟨rfl, first_none (fun i y hi hy => hall.out i y (by have := HL.out; omega) hy)⟩, rfl⟩

set_option maxHeartbeats 1000000 in
theorem specCallsNew_any (A : Option Addr) (n c : Nat) (l : List Cll) (cl nu : Int) (w : World) (h : Flat Cll.enc 4 w 0 w.heap.size A n c l) (hn : n ≤ 1048576) :
    Calls Try.prog 30 #[.slice A n c, .int .i64 cl, .int .i64 nu] w fun e w' => e = .returned (.bool (callsNew l cl nu)) ∧ Below w.heap.size w w' := by
  have H := Lib.hid h
  clear h
  go_enter Try.func30, Try.ntmps30
  go_wp2_with fail
  refine (l15At_any _ _ _ l cl _ H.out hn).mono ?_
  rintro e w1 ⟨v, rfl, hp, rfl⟩
  go_wp2_with fail
  refine (specCallsValid_any _ _ _ l _ H.out hn).mono ?_
  rintro e w2 ⟨rfl, hb2⟩
  have F2 := Lib.hid (H.out.below hb2 (Nat.le_refl _))
  have B2 := Lib.hid hb2
  have HP := Lib.hid hp
  clear hb2 H hp
  cases hok : callsOk l
  · go_wp2_with (go_at_call 41; refine (l6In_any _ _ _ _).mono ?_; rintro e w' ⟨rfl, rfl⟩)
    go_ret
    exact ⟨ret_bool (by unfold callsNew; rw [hok]; rfl), B2.out⟩
  have HK := Lib.hid hok
  clear hok
  cases h1 : inB cl 0 99
  · go_wp2_with (go_at_call 41; refine (l6In_any _ _ _ _).mono ?_; rintro e w' ⟨rfl, rfl⟩)
    go_ret
    exact ⟨ret_bool (by unfold callsNew callIn; rw [h1, HK.out]; rfl), B2.out⟩
  cases h2 : inB nu 1 9999
  · go_wp2_with (go_at_call 41; refine (l6In_any _ _ _ _).mono ?_; rintro e w' ⟨rfl, rfl⟩)
    go_ret
    exact ⟨ret_bool (by unfold callsNew callIn; rw [h1, h2, HK.out]; rfl), B2.out⟩
  rcases HP.out with ⟨rfl, hf⟩ | ⟨k, x, rfl, hx, hf⟩
  · have Hf := Lib.hid hf
    clear hf
    go_wp2_with (go_at_call 41; refine (l6In_any _ _ _ _).mono ?_; rintro e w' ⟨rfl, rfl⟩)
    go_ret
    exact ⟨ret_bool (by unfold callsNew callIn; rw [h1, h2, HK.out, Hf.out]; rfl), B2.out⟩
  · have hkn : k < n := by have := (List.getElem?_eq_some_iff.1 hx).1; have := F2.out.len; omega
    obtain ⟨b, off, y, rfl, _, _, hy, _, c1, _, _⟩ := F2.out.cll hkn
    obtain rfl : x = y := by rw [hx] at hy; injection hy
    have Hf := Lib.hid hf
    clear hf hx hy
    have hneg : ¬ ((k : Int) < 0) := by omega
    go_wp2_with (go_at_call 41; refine (l6In_any _ _ _ _).mono ?_; rintro e w' ⟨rfl, rfl⟩)
    go_ret
    exact ⟨ret_bool (by unfold callsNew callIn; rw [h1, h2, HK.out, Hf.out]; simp [isNew]; omega), B2.out⟩

set_option maxHeartbeats 1000000 in
theorem callsNew_any (A : Option Addr) (n c : Nat) (l : List Cll) (cl nu : Int) (w : World) (h : Flat Cll.enc 4 w 0 w.heap.size A n c l) (hn : n ≤ 1048576) :
    Calls Try.prog 29 #[.slice A n c, .int .i64 cl, .int .i64 nu] w fun e w' => e = .returned (.bool (callsNew l cl nu)) ∧ Below w.heap.size w w' := by
  have H := Lib.hid h
  clear h
  go_enter Try.func29, Try.ntmps29
  go_wp2_with fail
  refine (callsValid_any _ _ _ l _ H.out hn).mono ?_
  rintro e w1 ⟨rfl, hb1⟩
  have F1 := Lib.hid (H.out.below hb1 (Nat.le_refl _))
  have B1 := Lib.hid hb1
  have s1 := hb1.size
  clear hb1 H
  cases hok : callsOk l
  · go_wp2
    go_ret
    exact ⟨ret_bool (by unfold callsNew; rw [hok]; rfl), B1.out⟩
  have HK := Lib.hid hok
  clear hok
  cases h1 : callIn cl nu
  · go_wp2_with (go_at_call 50; refine (callInRange_any _ _ _).mono ?_; rintro e w' ⟨rfl, rfl⟩; rw [h1])
    go_ret
    exact ⟨ret_bool (by unfold callsNew; rw [h1, HK.out]; rfl), B1.out⟩
  go_wp2_with (go_at_call 50; refine (callInRange_any _ _ _).mono ?_; rintro e w' ⟨rfl, rfl⟩; rw [h1])
  refine (byClient_any _ _ _ l _ (F1.out.mono (Nat.zero_le _) s1) hn (callsOk_clients HK.out)).mono ?_
  rintro e w2 ⟨b, rfl, hb, hown, hb2⟩
  have hcl : 0 ≤ cl ∧ cl ≤ 99 := by simp only [callIn, inB, Bool.and_eq_true, decide_eq_true_eq] at h1; omega
  have hrun := look_call hown hcl
  rw [callsOk_last HK.out cl] at hrun
  have B2 := Lib.hid (B1.out.trans (hb2.mono s1))
  have s2 : w.heap.size ≤ w2.heap.size := Nat.le_trans s1 hb2.size
  clear hown hb2
  cases hf : firstOf l cl with
  | none =>
    rw [hf] at hrun
    have Hf := Lib.hid hf
    clear hf
    dsimp only at hrun
    go_wp2
    go_ret
    exact ⟨ret_bool (by unfold callsNew; rw [h1, HK.out, Hf.out]; rfl), B2.out.alloc s2 _⟩
  | some x =>
    rw [hf] at hrun
    have Hf := Lib.hid hf
    clear hf
    dsimp only [cllV] at hrun
    go_wp2
    go_ret
    exact ⟨ret_bool (by unfold callsNew; rw [h1, HK.out, Hf.out]; simp [isNew]), B2.out.alloc s2 _⟩
end Go.Proofs.Ytfdhgahhcnipjaa
