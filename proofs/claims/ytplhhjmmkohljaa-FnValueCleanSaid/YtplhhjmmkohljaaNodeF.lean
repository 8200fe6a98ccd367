/- What is pending at a node; the numbers of a key's updates; telling a node what is everywhere. -/
import Derived.Test.YtplhhjmmkohljaaNodeE
namespace Go.Proofs.Ytplhhjmmkohljaa
open Go.RowKit

theorem Flat.empty {α : Type} (enc : α → List Value) (sz : Nat) (w : World) (lo hi : Nat) (A : Option Addr) (c : Nat) (hc : c ≤ maxLen) : Flat enc sz w lo hi A 0 c [] := ⟨rfl, Nat.zero_le _, hc, fun h => absurd h (by omega)⟩

def pending (x : Nod) : List Upd := if nodeOk x then x.log.drop x.done.toNat else []
/-- a log in new memory -/
def LogLeft (w : World) (l : List Upd) (e : Ending) (w' : World) : Prop :=
  ∃ A m c, e = .returned (.slice A m c) ∧ l.length = m ∧ w'.ownsRow w.heap.size 47 2 (.slice A m c) m (l.flatMap Upd.enc) ∧ Below w.heap.size w w'

theorem logLeft_nil {w w1 : World} (hb : Below w.heap.size w w1) : LogLeft w [] (.returned (.slice (some ⟨w1.heap.size, 0, none⟩) 0 0)) (w1.alloc (.cells #[] 47)) :=
  ⟨_, 0, 0, rfl, rfl, (World.ownsRow_made w1 #[] 0 (Nat.le_refl _) (Nat.zero_le _) (by simp)).mono hb.size, hb.alloc hb.size _⟩

set_option maxHeartbeats 1000000 in
theorem nodePending_any (x : Nod) (A : Option Addr) (n c : Nat) (w : World) (h : Flat Upd.enc 2 w 0 w.heap.size A n c x.log) (hn : n ≤ 1048576) :
    Calls Try.prog 21 #[.agg #[.int .i64 x.id, .slice A n c, .int .i64 x.done]] w (LogLeft w (pending x)) := by
  have HL := Lib.hid h.len
  have H := Lib.hid h
  have hnc := h.2.1
  have hcm := h.2.2.1
  unfold maxLen at hcm
  clear h
  cases hok : nodeOk x
  · rw [show pending x = [] from by simp [pending, hok]]
    have H0 := Lib.hid (H.out.box (.cells #[.int .i64 x.id, .slice A n c, .int .i64 x.done] 25))
    go_enter Try.func21, Try.ntmps21
    go_wp2_with (go_at_call 28; refine (nodeValid_any x _ _ _ _ H0.out hn).mono ?_; rintro e w1 ⟨rfl, hb1⟩; rw [hok]; have B1 := Lib.hid (below_box hb1); clear hb1)
    go_ret
    exact logLeft_nil B1.out
  have HO := Lib.hid hok
  clear hok
  obtain ⟨k, hdone, hkn, _⟩ := nodeOk_done HO.out
  rw [HL.out] at hkn
  have hp : pending x = x.log.drop k := by simp [pending, HO.out, hdone]
  rw [hp]
  have hvn := fun W hF => nodeValid_any x A n c W hF hn
  rw [hdone, HO.out] at hvn
  have HV := Lib.hid hvn
  rw [hdone]
  have hpl : (x.log.drop k).length = n - k := by rw [List.length_drop, HL.out]
  have HPL := Lib.hid hpl
  clear hp hdone hvn hpl
  have H0 := Lib.hid (H.out.box (.cells #[.int .i64 x.id, .slice A n c, .int .i64 k] 25))
  by_cases hkn' : k < n
  · obtain ⟨b, off, u, rfl, _⟩ := H.out.at_ hkn'
    have D := Lib.hid (H.out.drop_at hkn')
    have hck : ¬ c = k := by omega
    go_enter Try.func21, Try.ntmps21
    go_wp2_with fail
    refine (HV.out _ H0.out).mono ?_
    rintro e w1 ⟨rfl, hb1⟩
    have B1 := Lib.hid (below_box hb1)
    have q1 := box_cell (i := 1) hb1 rfl
    have q2 := box_cell (i := 2) hb1 rfl
    have F1 := Lib.hid (D.out.on B1.out)
    clear hb1
    go_wp2_with (go_at_call 43; refine (copyLog_any _ _ _ (x.log.drop k) _ F1.out (by omega)).mono ?_; rintro e w2 ⟨rfl, hown2, hb2⟩; have O2 := Lib.hid hown2; have B2 := Lib.hid (B1.out.trans (hb2.mono B1.out.size)); clear hown2 hb2)
    go_ret
    exact ⟨_, _, _, rfl, HPL.out, O2.out.mono B1.out.size, B2.out⟩
  · obtain rfl : n = k := by omega
    have hnil : x.log.drop n = [] := List.drop_eq_nil_of_le (by rw [HL.out]; exact Nat.le_refl _)
    have e0 : n - n = 0 := Nat.sub_self n
    rw [hnil]
    clear hnil HPL
    rcases Nat.lt_or_eq_of_le hnc with hcn | hcn
    · have hcn' : ¬ c = n := by omega
      go_enter Try.func21, Try.ntmps21
      go_wp2_with fail
      refine (HV.out _ H0.out).mono ?_
      rintro e w1 ⟨rfl, hb1⟩
      have B1 := Lib.hid (below_box hb1)
      have q1 := box_cell (i := 1) hb1 rfl
      have q2 := box_cell (i := 2) hb1 rfl
      clear hb1
      go_wp2_with (go_at_call 43; refine (copyLog_any _ _ _ [] _ (Flat.empty _ _ _ _ _ _ _ (by unfold maxLen; omega)) (by omega)).mono ?_; rintro e w2 ⟨rfl, hown2, hb2⟩; have O2 := Lib.hid hown2; have B2 := Lib.hid (B1.out.trans (hb2.mono B1.out.size)); clear hown2 hb2)
      go_ret
      exact ⟨_, _, _, rfl, rfl, O2.out.mono B1.out.size, B2.out⟩
    · subst hcn
      go_enter Try.func21, Try.ntmps21
      go_wp2_with fail
      refine (HV.out _ H0.out).mono ?_
      rintro e w1 ⟨rfl, hb1⟩
      have B1 := Lib.hid (below_box hb1)
      have q1 := box_cell (i := 1) hb1 rfl
      have q2 := box_cell (i := 2) hb1 rfl
      clear hb1
      go_wp2_with (go_at_call 43; refine (copyLog_any _ _ _ [] _ (Flat.empty _ _ _ _ _ _ _ (by unfold maxLen; omega)) (by omega)).mono ?_; rintro e w2 ⟨rfl, hown2, hb2⟩; have O2 := Lib.hid hown2; have B2 := Lib.hid (B1.out.trans (hb2.mono B1.out.size)); clear hown2 hb2)
      go_ret
      exact ⟨_, _, _, rfl, rfl, O2.out.mono B1.out.size, B2.out⟩

/-- what the numbers of a key's updates leave -/
def KeysLeft (w : World) (l : List Upd) (key : Int) (e : Ending) (w' : World) : Prop :=
  ∃ A m c, e = .returned (.slice A m c) ∧ (logOk l = true → (m = 0 ↔ keyIn l key = false)) ∧ m ≤ 12 ∧ Below w.heap.size w w'

theorem new_cellsN (N : Nat) (w : World) (t : TypeId) (xs : Array Value) (zs : List Value) (hN : N = w.heap.size) (h : xs.toList = zs) : ∀ j u, zs[j]? = some u → (w.alloc (.cells xs t)).cell? ((⟨N, 0, none⟩ : Addr).add j) = some u := by
  subst hN; exact new_cells w xs t zs h
theorem three_cells (w : World) (g : Nat) {a b c : Value} (h0 : w.cell? ⟨g, 0, none⟩ = some a) (h1 : w.cell? ⟨g, 1, none⟩ = some b) (h2 : w.cell? ⟨g, 2, none⟩ = some c) (u v x : Value) :
    (((w.setCell ⟨g, 0, none⟩ u).setCell ⟨g, 1, none⟩ v).setCell ⟨g, 2, none⟩ x).cell? ⟨g, 0, none⟩ = some u ∧ (((w.setCell ⟨g, 0, none⟩ u).setCell ⟨g, 1, none⟩ v).setCell ⟨g, 2, none⟩ x).cell? ⟨g, 1, none⟩ = some v ∧
    (((w.setCell ⟨g, 0, none⟩ u).setCell ⟨g, 1, none⟩ v).setCell ⟨g, 2, none⟩ x).cell? ⟨g, 2, none⟩ = some x := by
  obtain ⟨e0, e1, e2⟩ := three_stores w g h0 h1 h2
  refine ⟨?_, ?_, e2 u v x⟩
  · rw [World.cell?_setCell_other _ _ _ _ (by simp), World.cell?_setCell_other _ _ _ _ (by simp)]; exact e0 u
  · rw [World.cell?_setCell_other _ _ _ _ (by simp)]; exact e1 u v
theorem below_box' {w w1 : World} {o p : Obj} (hb : Below ((w.alloc o).alloc p).heap.size ((w.alloc o).alloc p) w1) : Below (w.alloc o).heap.size (w.alloc o) w1 := below_box hb
theorem two_box {w w1 : World} {cs ds : Array Value} {t u : TypeId} (hb : Below ((w.alloc (.cells cs t)).alloc (.cells ds u)).heap.size ((w.alloc (.cells cs t)).alloc (.cells ds u)) w1) :
    (∀ i, w1.cell? ⟨w.heap.size, i, none⟩ = cs[i]?) ∧ (∀ i, w1.cell? ⟨w.heap.size + 1, i, none⟩ = ds[i]?) ∧ (∀ i, w1.frozen? ⟨w.heap.size + 1, i, none⟩ = false) :=
  ⟨fun i => (hb.cell (p := ⟨w.heap.size, i, none⟩) (by simp; omega)).trans (World.cell?_alloc_box w _ _ _ _ i),
   fun i => (hb.cell (p := ⟨w.heap.size + 1, i, none⟩) (by simp)).trans (World.cell?_alloc_top w _ _ _ _ i),
   fun i => (hb.frozen (p := ⟨w.heap.size + 1, i, none⟩) (by simp)).trans (World.frozen?_alloc_top w _ _ _ _ i)⟩

set_option maxHeartbeats 2000000 in
theorem logKey_any (A : Option Addr) (n c : Nat) (l : List Upd) (key : Int) (w : World) (h : Flat Upd.enc 2 w 0 w.heap.size A n c l) (hn : n ≤ 1048576) :
    Calls Try.prog 22 #[.slice A n c, .int .i64 key] w (KeysLeft w l key) := by
  obtain ⟨i0, hi, hz0, hz1, hz2⟩ := info_parts intInfo
  have HL := Lib.hid h.len
  have H := Lib.hid h
  clear h
  have B0 : Below w.heap.size w (w.alloc (.cells #[] 3)) := (Below.refl _ _).alloc (Nat.le_refl _) _
  have H0 := Lib.hid (H.out.on B0)
  have HB0 := Lib.hid B0
  clear B0
  cases hok : logOk l
  · go_enter Try.func22, Try.ntmps22
    go_wp2_with (go_at_call 34; refine (logValid_any _ _ _ l _ H0.out hn).mono ?_; rintro e w1 ⟨rfl, hb1⟩; rw [hok]; have B1 := Lib.hid (below_box hb1); clear hb1)
    go_ret
    exact ⟨_, _, _, rfl, (fun e => by rw [hok] at e; cases e), by omega, B1.out⟩
  have HO := Lib.hid hok
  clear hok
  have hn12 : n ≤ 12 := by have := logOk_len HO.out; have := HL.out; omega
  have O0 := Lib.hid (World.ownsRow_made (base := w.heap.size) (e := 3) (size := 1) w #[] 0 (Nat.le_refl _) (Nat.zero_le _) (by simp))
  go_enter Try.func22, Try.ntmps22
  go_wp2_with fail
  refine (logValid_any _ _ _ l _ H0.out hn).mono ?_
  rintro e w1 ⟨rfl, hb1⟩
  rw [HO.out]
  have B1 := Lib.hid (HB0.out.trans (hb1.mono (by simp)))
  have O1 := Lib.hid (own_keep O0.out (fun g e => hb1.block g (O0.out.lt g e).2))
  clear hb1
  go_wp2_with fail
  go_loopw [5, 15] (fun v i wr => ∃ (k m : Nat) (ys : List Value), k ≤ n ∧ m ≤ k ∧ i = .int .i64 k ∧ Hid (m = 0 ↔ keyIn (l.take k) key = false) ∧ wr.ownsRow w.heap.size 3 1 v m ys ∧ Below w.heap.size w wr)
    (fun _ i _ => n - (intOf i).toNat)
  case atStart => exact ⟨0, 0, [], Nat.zero_le _, Nat.le_refl _, rfl, by simp [Hid, keyIn], O1.out, B1.out⟩
  case round =>
    obtain ⟨k, m, ys, hk, hmk, rfl, hall, hown, hB⟩ := hrel
    have HW := Lib.hid (H.out.below hB (Nat.le_refl _))
    have HB := Lib.hid hB
    have HO5 := Lib.hid hown
    have hsz := hB.size
    clear hB hown
    by_cases hlt : k < n
    · obtain ⟨b, off, u, rfl, _, hbB, hu, c0, c1⟩ := HW.out.upd hlt
      have Hu := Lib.hid hu
      clear hu
      by_cases hkey : u.key = key
      · have HK := Lib.hid hkey
        rw [hkey] at c0
        clear hkey
        go_wp2_with (at_builtin; refine wpList_append_own _ rfl _ _ 30 rfl w.heap.size 3 i0 _ 1 8 Try.underlying30 hi hz0 hz1 hz2 rfl (by decide) _ m _ rfl ((HO5.out.alloc _).alloc _) ⟨wr.heap.size + 1, 0, none⟩ 1 1 [.int .i64 ((k : Int) + 1)] rfl rfl (new_cellsN _ _ _ _ _ (by simp) rfl) (encInt_one _) (by unfold maxLen; omega) (by omega) (by simp; omega) ?_; intro v7 w7 hown7 hg7 _; have O7 := Lib.hid hown7; have G7 := Lib.hid hg7; clear hown7 hg7)
        go_roundw
        case rel =>
          refine ⟨k + 1, m + 1, _, by omega, by omega, by go_num, ?_, O7.out, ((HB.out.alloc hsz _).alloc (by simp; omega) _).grown G7.out (by simp; omega) (fun g e => (HO5.out.lt g e).1)⟩
          have : keyIn (l.take (k + 1)) key = true := keyIn_true (k := k) (u := u) (by rw [List.getElem?_take, if_pos (by omega)]; exact Hu.out) HK.out
          simp [Hid, this]
        case measure => simp [intOf]; omega
      · have hne : (u.key == key) = false := by simp [hkey]
        have HK := Lib.hid hkey
        clear hkey
        go_wp2
        go_roundw
        case rel =>
          refine ⟨k + 1, m, ys, by omega, by omega, by go_num, ?_, HO5.out.alloc _, HB.out.alloc hsz _⟩
          have : keyIn (l.take (k + 1)) key = keyIn (l.take k) key := by
            have hk' := (List.getElem?_eq_some_iff.1 Hu.out).1
            have e : l[k] = u := by have := Hu.out; rw [List.getElem?_eq_getElem hk'] at this; injection this
            have hz := HK.out
            unfold keyIn
            rw [List.take_succ_eq_append_getElem hk', List.any_append, e]
            simp [hz]
          show m = 0 ↔ keyIn (l.take (k + 1)) key = false
          rw [this]; exact hall.out
        case measure => simp [intOf]; omega
    · obtain rfl : n = k := by omega
      have e0 : l.take n = l := List.take_of_length_le (by rw [HL.out]; exact Nat.le_refl _)
      have hall' := hall.out
      rw [e0] at hall'
      have HA := Lib.hid hall'
      obtain ⟨A', c', hv⟩ : ∃ A' c', u5 = .slice A' m c' := by
        rcases HO5.out.2 with ⟨h1, h2⟩ | ⟨g, cap, cur, h1, _⟩
        · subst h2; exact ⟨_, _, h1⟩
        · exact ⟨_, _, h1⟩
      subst hv
      clear e0 hall'
      go_wp2
      go_ret
      exact ⟨A', m, c', rfl, (fun _ => HA.out), by omega, HB.out⟩

/-- what telling a node leaves -/
def NodeTold (w : World) (x : Nod) (k : Nat) (e : Ending) (w' : World) : Prop :=
  ∃ A n c, e = .returned (.tuple #[.agg #[.int .i64 x.id, .slice A n c, .int .i64 k], .bool true]) ∧ x.log.length = n ∧ w'.ownsRow w.heap.size 47 2 (.slice A n c) n (x.log.flatMap Upd.enc) ∧ Below w.heap.size w w'

set_option maxHeartbeats 2000000 in
theorem nodeAck_any (x : Nod) (A : Option Addr) (n c k : Nat) (w : World) (h : Flat Upd.enc 2 w 0 w.heap.size A n c x.log) (hn : n ≤ 1048576) (hok : nodeOk x = true) (hd : x.done ≤ (k : Int)) (hk : k ≤ n) :
    Calls Try.prog 24 #[.agg #[.int .i64 x.id, .slice A n c, .int .i64 x.done], .int .i64 k] w (NodeTold w x k) := by
  have HL := Lib.hid h.len
  have H := Lib.hid h
  have HO := Lib.hid hok
  have H0 := Lib.hid ((h.box (.cells #[.int .i64 x.id, .slice A n c, .int .i64 x.done] 25)).box (.cells #[.int .i64 0, .slice none 0 0, .int .i64 0] 25))
  have hkn : (k : Int) ≤ (n : Int) := by omega
  clear h hok
  go_enter Try.func24, Try.ntmps24
  go_wp2_with fail
  refine (nodeValid_any x _ _ _ _ H0.out hn).mono ?_
  rintro e w1 ⟨rfl, hb1⟩
  rw [HO.out]
  have B1 := Lib.hid (below_box (below_box' hb1))
  have q0 := (two_box hb1).1 0
  have q1 := (two_box hb1).1 1
  have q2 := (two_box hb1).1 2
  have T1 := Lib.hid (two_box hb1).2
  have F1 := Lib.hid (H.out.on B1.out)
  have s1 : w.heap.size + 1 < w1.heap.size := by have := hb1.size; simp at this; omega
  clear hb1
  go_wp2_with fail
  refine (copyNode_any x _ _ _ _ F1.out hn).mono ?_
  rintro e w2 ⟨g, rfl, hown2, hb2⟩
  have z0 := (hb2.cell (p := ⟨w.heap.size + 1, 0, none⟩) s1).trans (T1.out.1 0)
  have z1 := (hb2.cell (p := ⟨w.heap.size + 1, 1, none⟩) s1).trans (T1.out.1 1)
  have z2 := (hb2.cell (p := ⟨w.heap.size + 1, 2, none⟩) s1).trans (T1.out.1 2)
  have y0 := (hb2.frozen (p := ⟨w.heap.size + 1, 0, none⟩) s1).trans (T1.out.2 0)
  have y1 := (hb2.frozen (p := ⟨w.heap.size + 1, 1, none⟩) s1).trans (T1.out.2 1)
  have y2 := (hb2.frozen (p := ⟨w.heap.size + 1, 2, none⟩) s1).trans (T1.out.2 2)
  have B2 := Lib.hid (B1.out.trans (hb2.mono B1.out.size))
  have O2 := Lib.hid hown2
  have s2 : w.heap.size + 1 < w2.heap.size := Nat.lt_of_lt_of_le s1 hb2.size
  have hne : w.heap.size + 1 ≠ w2.heap.size := by omega
  clear hb2 hown2
  obtain ⟨c0, c1, c2⟩ := three_cells w2 (w.heap.size + 1) z0 z1 z2 (.int .i64 x.id) (.slice (some ⟨g, 0, none⟩) n n) (.int .i64 (k : Int))
  obtain ⟨W, hW⟩ : ∃ W, W = ((w2.setCell ⟨w.heap.size + 1, 0, none⟩ (.int .i64 x.id)).setCell ⟨w.heap.size + 1, 1, none⟩ (.slice (some ⟨g, 0, none⟩) n n)).setCell ⟨w.heap.size + 1, 2, none⟩ (.int .i64 (k : Int)) := ⟨_, rfl⟩
  rw [← hW] at c0 c1 c2
  have hWs : w.heap.size + 1 < W.heap.size := by rw [hW]; simpa [World.setCell] using s2
  have a0 : ∀ o : Obj, (W.alloc o).cell? ⟨w.heap.size + 1, 0, none⟩ = _ := fun o => (World.cell?_of_block (w := W) (a := ⟨w.heap.size + 1, 0, none⟩) (Below.heap_alloc _ _ _ hWs)).trans c0
  have a1 : ∀ o : Obj, (W.alloc o).cell? ⟨w.heap.size + 1, 1, none⟩ = _ := fun o => (World.cell?_of_block (w := W) (a := ⟨w.heap.size + 1, 1, none⟩) (Below.heap_alloc _ _ _ hWs)).trans c1
  have a2 : ∀ o : Obj, (W.alloc o).cell? ⟨w.heap.size + 1, 2, none⟩ = _ := fun o => (World.cell?_of_block (w := W) (a := ⟨w.heap.size + 1, 2, none⟩) (Below.heap_alloc _ _ _ hWs)).trans c2
  have HA := Lib.hid (And.intro a0 (And.intro a1 a2))
  have HW := Lib.hid hW
  clear a0 a1 a2 c0 c1 c2 hW
  go_wp2_with fail
  obtain ⟨a0, a1, a2⟩ := HA.out
  rw [← HW.out]
  refine bodyPost_ret (v := .tuple #[.agg #[.int .i64 x.id, .slice (some ⟨g, 0, none⟩) n n, .int .i64 k], .bool true]) (by simp [results, Try.results24, go_sem, a0, a1, a2]) rfl ⟨some ⟨g, 0, none⟩, n, n, rfl, HL.out, ?_, ?_⟩
  · refine own_keep (O2.out.mono B1.out.size) (fun q hq => ?_)
    have hq2 := O2.out.lt q hq
    have hr : q ≠ w.heap.size + 1 := by omega
    rw [Below.heap_alloc _ _ _ (by rw [HW.out]; simpa [World.setCell] using hq2.2), HW.out, Below.heap_setCell _ _ _ _ hr, Below.heap_setCell _ _ _ _ hr, Below.heap_setCell _ _ _ _ hr]
  · have hr : w.heap.size ≤ w.heap.size + 1 := by omega
    have hb := ((B2.out.setCell (p := ⟨w.heap.size + 1, 0, none⟩) hr (.int .i64 x.id)).setCell (p := ⟨w.heap.size + 1, 1, none⟩) hr (.slice (some ⟨g, 0, none⟩) n n)).setCell (p := ⟨w.heap.size + 1, 2, none⟩) hr (.int .i64 (k : Int))
    rw [← HW.out] at hb
    exact hb.alloc (by omega) _
end Go.Proofs.Ytplhhjmmkohljaa
