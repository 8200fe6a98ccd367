/- Texts of this claim, joined: CallsA CallsB Maps CallsP CallsNew Order Lay Keys InOrder NodeG ReadM PutR CallP CallC CallE Var CallI. -/
import Derived.Maps.Own
import Derived.Maps.Views
import Derived.Carry
import Derived.Shelf.SlIterI.Nil
import Derived.Shelf.SortM.Plain
import Derived.Shelf.SortM.SortNone
import Derived.Deep.RegionLaw
import Derived.Maps.OwnSet
import Derived.Test.YtemgilofjbnoaaaGreatDoorWB1
import Derived.Test.YtemgilofjbnoaaaGreatDoorWA4
import Derived.Test.YtemgilofjbnoaaaGreatDoorWB2
import Derived.Test.YtemgilofjbnoaaaGreatDoorWP1
import Derived.Test.YtemgilofjbnoaaaGreatDoorWB3
set_option linter.unusedSimpArgs false
set_option linter.unusedVariables false
namespace Go.Proofs.YtemgilofjbnoaaaGreatDoor
open Go.RowKit
def Cll.ok (x : Cll) : Bool := cllOk x.client x.number x.what.key x.what.value
def cllAt (l : List Cll) (i : Nat) : Bool :=
  match l[i]? with
  | some x => x.ok && (match i with
    | 0 => true
    | j + 1 => match l[j]? with
      | some y => decide (y.client < x.client)
      | none => true)
  | none => true
def callsOk (l : List Cll) : Bool := decide (l.length ≤ 6) && (List.range l.length).all (cllAt l)
theorem range_all_succ {p : Nat → Bool} {k : Nat} (h : (List.range k).all p = true) (hk : p k = true) : (List.range (k + 1)).all p = true := by
  rw [List.range_succ, List.all_append, h]; simp [hk]
theorem range_all_false {p : Nat → Bool} {k n : Nat} (hk : p k = false) (h : k < n) : (List.range n).all p = false := by
  rw [List.all_eq_false]
  exact ⟨k, by simpa using h, by simp [hk]⟩
theorem callsOk_false {l : List Cll} {k : Nat} (hk : cllAt l k = false) (h : k < l.length) : callsOk l = false := by
  unfold callsOk; rw [range_all_false hk h]; simp
theorem cllAt_zero {l : List Cll} {x : Cll} (h : l[0]? = some x) : cllAt l 0 = x.ok := by simp [cllAt, h]
theorem cllAt_succ {l : List Cll} {j : Nat} {x y : Cll} (h : l[j + 1]? = some x) (hy : l[j]? = some y) : cllAt l (j + 1) = (x.ok && decide (y.client < x.client)) := by simp [cllAt, h, hy]
set_option maxHeartbeats 1000000 in
theorem callsValid_any (A : Option Addr) (n c : Nat) (l : List Cll) (w : World) (h : Flat Cll.enc 4 w 0 w.heap.size A n c l) (hn : n ≤ 1048576) :
    Calls Mo.prog 14 #[.slice A n c] w fun e w' => e = .returned (.bool (callsOk l)) ∧ Below w.heap.size w w' := by
  have hlen := h.len
  have H := Lib.hid h
  have HL := Lib.hid hlen
  clear h hlen
  by_cases h6 : n ≤ 6
  case neg =>
    go_enter Mo.func14, Tryz.ntmps14
    go_wp2
    go_ret
    exact ⟨ret_bool (by unfold callsOk; rw [HL.out]; simp [h6]), Below.refl _ _⟩
  case pos =>
  go_enter Mo.func14, Tryz.ntmps14
  go_wp2
  go_loopw [10] (fun i wr => ∃ k : Nat, k ≤ n ∧ i = .int .i64 k ∧ Hid ((List.range k).all (cllAt l) = true) ∧ Below w.heap.size w wr)
    (fun i _ => n - (intOf i).toNat)
  case atStart => exact ⟨0, Nat.zero_le _, rfl, rfl, Below.refl _ _⟩
  case round =>
    obtain ⟨k, hk, rfl, hall, hB⟩ := hrel
    have HW := Lib.hid (H.out.below hB (Nat.le_refl _))
    have HB := Lib.hid hB
    have hsz := hB.size
    clear hB H
    by_cases hlt : k < n
    · obtain ⟨b, off, x, rfl, _, hbB, hx, c0, c1, c2, c3⟩ := HW.out.cll hlt
      have Hx := Lib.hid hx
      clear hx
      have hbr : b < wr.heap.size := by omega
      obtain ⟨W, hW⟩ : ∃ W, W = wr.alloc (.cells #[.int .i64 x.client, .int .i64 x.number, .int .i64 x.what.key, .int .i64 x.what.value] 30) := ⟨_, rfl⟩
      have b0 : W.cell? ⟨wr.heap.size, 0, none⟩ = some (.int .i64 x.client) := by rw [hW]; exact World.cell?_alloc_at _ _ _ _ rfl
      have b1 : W.cell? ⟨wr.heap.size, 1, none⟩ = some (.int .i64 x.number) := by rw [hW]; exact World.cell?_alloc_at _ _ _ _ rfl
      have b2 : W.cell? ⟨wr.heap.size, 2, none⟩ = some (.int .i64 x.what.key) := by rw [hW]; exact World.cell?_alloc_at _ _ _ _ rfl
      have b3 : W.cell? ⟨wr.heap.size, 3, none⟩ = some (.int .i64 x.what.value) := by rw [hW]; exact World.cell?_alloc_at _ _ _ _ rfl
      have hWr : Below wr.heap.size wr W := by rw [hW]; exact (Below.refl _ _).alloc (Nat.le_refl _) _
      have HWr := Lib.hid hWr
      have HWe := Lib.hid hW
      clear hWr hW
      have d0 := cell_regrown b0
      have d1 := cell_regrown b1
      have d2 := cell_regrown b2
      have d3 := cell_regrown b3
      cases hok : cllOk x.client x.number x.what.key x.what.value
      · -- the call is not valid: false
        go_wp2_with fail
        rw [← HWe.out]
        refine wp_region_quiet_below (by kernel_rfl) (by kernel_rfl) ?_
        repeat (go_big_quiet_step ((go_at_call 35; exact Calls.regrown_of (callValid_any _ _ _ _ _))))
        refine wpQuiet_nil ?_
        intro w2 hw2
        have hb2 := Lib.hid (below_of_regrown hw2)
        clear hw2 d0 d1 d2 d3 b0 b1 b2 b3
        go_wp2
        go_ret
        refine ⟨ret_bool (callsOk_false (k := k) ?_ (by have := HL.out; omega)).symm, HB.out.trans ((HWr.out.mono hsz).trans (hb2.out.mono (Nat.le_trans hsz HWr.out.size)))⟩
        simp [cllAt, Hx.out, Cll.ok, hok]
      · by_cases hpos : 0 < k
        · obtain ⟨b', off', y, e', _, _, hy, y0, _⟩ := HW.out.cll (show k - 1 < n by omega)
          obtain ⟨rfl, rfl⟩ : b = b' ∧ off = off' := by injection e' with e'; injection e' with e1 e2; exact ⟨e1, e2⟩
          have Hy := Lib.hid hy
          have hyW : W.cell? ⟨b, off + (k - 1) * 4, none⟩ = some (.int .i64 y.client) := (HWr.out.cell (p := ⟨b, off + (k - 1) * 4, none⟩) hbr).trans y0
          have d4 := cell_regrown hyW
          clear hy y0 e' hyW
          by_cases hord : y.client < x.client
          · go_wp2_with fail
            rw [← HWe.out]
            refine wp_region_quiet_below (by kernel_rfl) (by kernel_rfl) ?_
            repeat (go_big_quiet_step ((go_at_call 35; exact Calls.regrown_of (callValid_any _ _ _ _ _))))
            refine wpQuiet_nil ?_
            intro w2 hw2
            have hb2 := Lib.hid (below_of_regrown hw2)
            clear hw2 d0 d1 d2 d3 d4 b0 b1 b2 b3
            go_wp2
            go_roundw
            case rel =>
              refine ⟨k + 1, by omega, by go_num, range_all_succ hall.out ?_, HB.out.trans ((HWr.out.mono hsz).trans (hb2.out.mono (Nat.le_trans hsz HWr.out.size)))⟩
              obtain ⟨j, rfl⟩ : ∃ j, k = j + 1 := ⟨k - 1, by omega⟩
              rw [cllAt_succ Hx.out Hy.out]; simp [Cll.ok, hok, hord]
            case measure => simp [intOf]; omega
          · go_wp2_with fail
            rw [← HWe.out]
            refine wp_region_quiet_below (by kernel_rfl) (by kernel_rfl) ?_
            repeat (go_big_quiet_step ((go_at_call 35; exact Calls.regrown_of (callValid_any _ _ _ _ _))))
            refine wpQuiet_nil ?_
            intro w2 hw2
            have hb2 := Lib.hid (below_of_regrown hw2)
            clear hw2 d0 d1 d2 d3 d4 b0 b1 b2 b3
            go_wp2
            go_ret
            refine ⟨ret_bool (callsOk_false (k := k) ?_ (by have := HL.out; omega)).symm, HB.out.trans ((HWr.out.mono hsz).trans (hb2.out.mono (Nat.le_trans hsz HWr.out.size)))⟩
            obtain ⟨j, rfl⟩ : ∃ j, k = j + 1 := ⟨k - 1, by omega⟩
            rw [cllAt_succ Hx.out Hy.out]; simp [hord]
        · have hd : decide ((0 : Int) < (k : Int)) = false := by simp; omega
          go_wp2_with fail
          rw [← HWe.out]
          refine wp_region_quiet_below (by kernel_rfl) (by kernel_rfl) ?_
          repeat (go_big_quiet_step ((go_at_call 35; exact Calls.regrown_of (callValid_any _ _ _ _ _))))
          refine wpQuiet_nil ?_
          intro w2 hw2
          have hb2 := Lib.hid (below_of_regrown hw2)
          clear hw2 d0 d1 d2 d3 b0 b1 b2 b3
          go_wp2
          go_roundw
          case rel =>
            refine ⟨k + 1, by omega, by go_num, range_all_succ hall.out ?_, HB.out.trans ((HWr.out.mono hsz).trans (hb2.out.mono (Nat.le_trans hsz HWr.out.size)))⟩
            obtain rfl : k = 0 := by omega
            rw [cllAt_zero Hx.out]; exact hok
          case measure => simp [intOf]; omega
    · obtain rfl : n = k := by omega
      go_wp2
      go_ret
      refine ⟨ret_bool ?_, HB.out⟩
      unfold callsOk
      rw [HL.out, hall.out]; simp [h6]
end Go.Proofs.YtemgilofjbnoaaaGreatDoor
namespace Go.Proofs.YtemgilofjbnoaaaGreatDoor
open Go.RowKit
set_option maxHeartbeats 1000000 in
theorem specCallsValid_any (A : Option Addr) (n c : Nat) (l : List Cll) (w : World) (h : Flat Cll.enc 4 w 0 w.heap.size A n c l) (hn : n ≤ 1048576) :
    Calls Mo.prog 40 #[.slice A n c] w fun e w' => e = .returned (.bool (callsOk l)) ∧ Below w.heap.size w w' := by
  have hlen := h.len
  have H := Lib.hid h
  have HL := Lib.hid hlen
  clear h hlen
  go_enter Mo.func40, Tryz.ntmps40
  go_wp2
  go_loopw [3] (fun i wr => ∃ k : Nat, k ≤ n ∧ i = .int .i64 k ∧ Hid ((List.range k).all (cllAt l) = true) ∧ Below w.heap.size w wr)
    (fun i _ => n - (intOf i).toNat)
  case atStart => exact ⟨0, Nat.zero_le _, rfl, rfl, Below.refl _ _⟩
  case round =>
    obtain ⟨k, hk, rfl, hall, hB⟩ := hrel
    have HW := Lib.hid (H.out.below hB (Nat.le_refl _))
    have HB := Lib.hid hB
    have hsz := hB.size
    clear hB H
    by_cases hlt : k < n
    · obtain ⟨b, off, x, rfl, _, hbB, hx, c0, c1, c2, c3⟩ := HW.out.cll hlt
      have Hx := Lib.hid hx
      clear hx
      have d0 := cell_regrown c0
      have d1 := cell_regrown c1
      have d2 := cell_regrown c2
      have d3 := cell_regrown c3
      have hk0 : (0 : Int) ≤ (k : Int) := by omega
      have hkn : (k : Int) < (n : Int) := by omega
      cases hok : cllOk x.client x.number x.what.key x.what.value
      · go_wp2_with fail
        refine wp_region_quiet_below (by kernel_rfl) (by kernel_rfl) ?_
        repeat (go_big_quiet_step ((go_at_call 41; exact Calls.regrown_of (l15Call_any _ _ _ _ _))))
        refine wpQuiet_nil ?_
        intro w2 hw2
        have hb2 := Lib.hid (below_of_regrown hw2)
        clear hw2 d0 d1 d2 d3
        go_wp2
        go_ret
        refine ⟨ret_bool (callsOk_false (k := k) ?_ (by have := HL.out; omega)).symm, HB.out.trans (hb2.out.mono hsz)⟩
        simp [cllAt, Hx.out, Cll.ok, hok]
      · by_cases hpos : 0 < k
        · obtain ⟨b', off', y, e', _, _, hy, y0, _⟩ := HW.out.cll (show k - 1 < n by omega)
          obtain ⟨rfl, rfl⟩ : b = b' ∧ off = off' := by injection e' with e'; injection e' with e1 e2; exact ⟨e1, e2⟩
          have Hy := Lib.hid hy
          have d4 := cell_regrown y0
          clear hy y0 e'
          by_cases hord : y.client < x.client
          · go_wp2_with fail
            refine wp_region_quiet_below (by kernel_rfl) (by kernel_rfl) ?_
            repeat (go_big_quiet_step ((go_at_call 41; exact Calls.regrown_of (l15Call_any _ _ _ _ _))))
            refine wpQuiet_nil ?_
            intro w2 hw2
            have hb2 := Lib.hid (below_of_regrown hw2)
            clear hw2 d0 d1 d2 d3 d4
            go_wp2
            go_roundw
            case rel =>
              refine ⟨k + 1, by omega, by go_num, range_all_succ hall.out ?_, HB.out.trans (hb2.out.mono hsz)⟩
              obtain ⟨j, rfl⟩ : ∃ j, k = j + 1 := ⟨k - 1, by omega⟩
              rw [cllAt_succ Hx.out Hy.out]; simp [Cll.ok, hok, hord]
            case measure => simp [intOf]; omega
          · go_wp2_with fail
            refine wp_region_quiet_below (by kernel_rfl) (by kernel_rfl) ?_
            repeat (go_big_quiet_step ((go_at_call 41; exact Calls.regrown_of (l15Call_any _ _ _ _ _))))
            refine wpQuiet_nil ?_
            intro w2 hw2
            have hb2 := Lib.hid (below_of_regrown hw2)
            clear hw2 d0 d1 d2 d3 d4
            go_wp2
            go_ret
            refine ⟨ret_bool (callsOk_false (k := k) ?_ (by have := HL.out; omega)).symm, HB.out.trans (hb2.out.mono hsz)⟩
            obtain ⟨j, rfl⟩ : ∃ j, k = j + 1 := ⟨k - 1, by omega⟩
            rw [cllAt_succ Hx.out Hy.out]; simp [hord]
        · have hd : decide ((0 : Int) < (k : Int)) = false := by simp; omega
          go_wp2_with fail
          refine wp_region_quiet_below (by kernel_rfl) (by kernel_rfl) ?_
          repeat (go_big_quiet_step ((go_at_call 41; exact Calls.regrown_of (l15Call_any _ _ _ _ _))))
          refine wpQuiet_nil ?_
          intro w2 hw2
          have hb2 := Lib.hid (below_of_regrown hw2)
          clear hw2 d0 d1 d2 d3
          go_wp2
          go_roundw
          case rel =>
            refine ⟨k + 1, by omega, by go_num, range_all_succ hall.out ?_, HB.out.trans (hb2.out.mono hsz)⟩
            obtain rfl : k = 0 := by omega
            rw [cllAt_zero Hx.out]; exact hok
          case measure => simp [intOf]; omega
    · obtain rfl : n = k := by omega
      go_wp2
      all_goals go_ret
      all_goals
        refine ⟨ret_bool ?_, HB.out⟩
        unfold callsOk
        rw [HL.out, hall.out]
        simp; try omega
end Go.Proofs.YtemgilofjbnoaaaGreatDoor
namespace Go.Proofs.YtemgilofjbnoaaaGreatDoor
open Go.RowKit
theorem Mo.underlying67 : Mo.prog.underlying 67 = some (.map 3 30) := by kernel_rfl
def tok (v : Value) : Option (DataW Value × List MemPlace) := some (.held v, [])
def cllV (x : Cll) : Value := .agg #[.int .i64 x.client, .int .i64 x.number, .int .i64 x.what.key, .int .i64 x.what.value]
def byClient (l : List Cll) : DataW Value := l.foldl (fun D x => D.put (.int .i64 x.client) (.held (cllV x))) (.map [])
theorem byClient_snoc (l : List Cll) (x : Cll) : byClient (l ++ [x]) = (byClient l).put (.int .i64 x.client) (.held (cllV x)) := by unfold byClient; rw [List.foldl_append]; rfl
theorem zeroCall (w : World) : (zeroValue 30).run Mo.prog w = .ok (.agg #[.int .i64 0, .int .i64 0, .int .i64 0, .int .i64 0]) w := by kernel_rfl
def clientsIn (l : List Cll) : Prop := ∀ x ∈ l, 0 ≤ x.client ∧ x.client ≤ 99
theorem client_wf {a : Int} (h : 0 ≤ a ∧ a ≤ 99) : (Lit.int .i64 a).wf = true := by
  have h1 : IntKind.i64.min = -9223372036854775808 := by decide
  have h2 : IntKind.i64.max = 9223372036854775807 := by decide
  simp [Lit.wf, h1, h2]; omega
theorem run_makeMap_hint (n : Int) (w : World) : (Instr.makeMap 67 (some (.int .i64 n))).run Mo.prog w = .ok (.map (some w.heap.size)) (w.alloc (.map #[] 0)) := by
  have hu : (underlying 67).run Mo.prog w = .ok (.map 3 30) w := run_underlying Mo.underlying67 w
  simp [Instr.makeMap, hu]
  rfl
set_option maxHeartbeats 1000000 in
theorem byClient_any (A : Option Addr) (m c : Nat) (l : List Cll) (w : World) (h : Flat Cll.enc 4 w 0 w.heap.size A m c l) (hm : m ≤ 1048576) (hc : clientsIn l) :
    Calls Mo.prog 36 #[.slice A m c] w fun e w' => ∃ b, e = .returned (.map (some b)) ∧ w.heap.size ≤ b ∧ w'.ownsMap Mo.prog 3 tok b m (byClient l) ∧ Below w.heap.size w w' := by
  have H := Lib.hid h
  have HL := Lib.hid h.len
  have HC := Lib.hid hc
  clear h hc
  have hmm := run_makeMap_hint
  have law   := Maps.int_keyed Mo.underlying3
  go_enter Mo.func36, Tryz.ntmps36
  go_wp2
  clear hmm
  go_loopw [12] (fun i wr => ∃ k : Nat, k ≤ m ∧ i = .int .i64 k ∧ wr.ownsMap Mo.prog 3 tok w.heap.size k (byClient (l.take k)) ∧ Below w.heap.size w wr)
    (fun i _ => m - (intOf i).toNat)
  case atStart => exact ⟨0, Nat.zero_le _, rfl, World.ownsMap_made _ _ _ _, (Below.refl _ _).alloc (Nat.le_refl _) _⟩
  case round =>
    obtain ⟨k, hk, rfl, hown, hB⟩ := hrel
    have HW := Lib.hid (H.out.below hB (Nat.le_refl _))
    have HO := Lib.hid hown
    have HB := Lib.hid hB
    have hsz := hB.size
    have hbl := hown.lt
    clear hB hown H
    by_cases hlt : k < m
    · obtain ⟨b, off, x, rfl, _, hbB, hx, c0, c1, c2, c3⟩ := HW.out.cll hlt
      have HX := Lib.hid hx
      have hkey : keyOf Mo.prog 3 (.int .i64 x.client) = some (.int .i64 x.client) := Maps.keyOf_int_mk Mo.underlying3 (client_wf (HC.out x (List.mem_of_getElem? hx)))
      have O2 := HO.out.alloc (.cells #[.int .i64 x.client, .int .i64 x.number, .int .i64 x.what.key, .int .i64 x.what.value] 30)
      clear hx
      go_wp2_with (at_mapUpdate; refine wpList_mapUpdate_own _ rfl _ _ _ 67 rfl 3 30 law Mo.underlying67 tok w.heap.size k _ rfl O2 (by unfold maxLen; omega) _ (cllV x) _ rfl rfl hkey _ [] rfl ?_; intro w3 hown3 hg3)
      go_roundw
      case rel =>
        refine ⟨k + 1, by omega, by go_num, ?_, (HB.out.alloc hsz _).grown hg3 (by simp; omega) (fun g e => by injection e with e; omega)⟩
        have hk1 := (List.getElem?_eq_some_iff.1 HX.out).1
        rw [List.take_succ_eq_append_getElem hk1, byClient_snoc]
        have e1 : l[k] = x := by have := HX.out; rw [List.getElem?_eq_getElem hk1] at this; injection this
        rw [e1]; exact hown3
      case measure => simp [intOf]; omega
    · obtain rfl : m = k := by omega
      have ht : l.take m = l := List.take_of_length_le (by have := HL.out; omega)
      rw [ht] at HO
      clear ht
      go_wp2
      go_ret
      exact ⟨w.heap.size, rfl, Nat.le_refl _, HO.out, HB.out⟩
def lastOf (l : List Cll) (c : Int) : Option Cll := l.reverse.find? (fun x => decide (x.client = c))
theorem lastOf_snoc (l : List Cll) (x : Cll) (c : Int) : lastOf (l ++ [x]) c = if x.client = c then some x else lastOf l c := by
  unfold lastOf
  rw [List.reverse_append, List.reverse_singleton, List.singleton_append, List.find?_cons]
  by_cases h : x.client = c <;> simp [h]
theorem snoc_ind {α : Type} {P : List α → Prop} (h0 : P []) (h1 : ∀ l x, P l → P (l ++ [x])) (l : List α) : P l := by
  have : P l.reverse.reverse := by
    induction l.reverse with
    | nil => exact h0
    | cons x l ih => rw [List.reverse_cons]; exact h1 _ _ ih
  simpa using this
theorem byClient_isMap (l : List Cll) : Maps.IsMap (byClient l) := by
  refine snoc_ind (P := fun l => Maps.IsMap (byClient l)) Maps.isMap_empty (fun l x ih => ?_) l
  rw [byClient_snoc]; exact ih.put _ _
theorem byClient_at (l : List Cll) (c : Int) (z : DataW Value) : (byClient l).atKey (.int .i64 c) z = match lastOf l c with | none => z | some x => .held (cllV x) := by
  refine snoc_ind (P := fun l => (byClient l).atKey (.int .i64 c) z = match lastOf l c with | none => z | some x => .held (cllV x)) rfl (fun l x ih => ?_) l
  rw [byClient_snoc, lastOf_snoc]
  by_cases h : x.client = c
  · rw [if_pos h, h]
    exact Maps.atKey_put_same (byClient_isMap l) (show WideAt.IsKeyLit (.int .i64 c) from trivial) _ _
  · rw [if_neg h, Maps.atKey_put_other (by intro e; injection e with _ e; exact h e.symm)]
    exact ih
theorem look_call {w : World} {b m : Nat} {l : List Cll} {c : Int} (h : w.ownsMap Mo.prog 3 tok b m (byClient l)) (hc : 0 ≤ c ∧ c ≤ 99) :
    (Instr.lookup 67 (.map (some b)) (.int .i64 c) true).run Mo.prog w = .ok (match lastOf l c with
      | none => .tuple #[.agg #[.int .i64 0, .int .i64 0, .int .i64 0, .int .i64 0], .bool false]
      | some x => .tuple #[cllV x, .bool true]) w := by
  obtain ⟨es, clock, hb, F, _, hD⟩ := h
  have hkey : keyOf Mo.prog 3 (.int .i64 c) = some (.int .i64 c) := Maps.keyOf_int_mk Mo.underlying3 (client_wf hc)
  rcases Maps.fit_look true (Maps.int_keyed Mo.underlying3) Mo.underlying67 (zeroCall w) hb F hkey with ⟨hrun, _, hat⟩ | ⟨e0, y, _, _, hrun, hRv, hat, _⟩
  · rw [hrun]
    have e := hat (.nil)
    rw [← hD, byClient_at] at e
    cases hl : lastOf l c with
    | none => rfl
    | some x => rw [hl] at e; cases e
  · rw [hrun]
    have e := hat (.nil)
    rw [← hD, byClient_at] at e
    cases hl : lastOf l c with
    | none =>
      rw [hl] at e
      unfold tok at hRv
      replace hRv := Option.some.inj hRv
      rewrite [← hRv] at e; cases e
    | some x =>
      rw [hl] at e
      unfold tok at hRv
      replace hRv := Option.some.inj hRv
      rewrite [← hRv] at e
      replace e := DataW.held.inj e
      rw [← e]; rfl
end Go.Proofs.YtemgilofjbnoaaaGreatDoor
namespace Go.Proofs.YtemgilofjbnoaaaGreatDoor
def CallsOk (l : List Cll) : Prop := l.length ≤ 6 ∧ (∀ x ∈ l, x.ok = true) ∧ l.Pairwise (fun x y => x.client < y.client)
theorem pairwise_of_steps : ∀ (l : List Cll), (∀ j x y, l[j]? = some y → l[j + 1]? = some x → y.client < x.client) → l.Pairwise (fun x y => x.client < y.client) := by
  intro l
  induction l with
  | nil => intro _; exact List.Pairwise.nil
  | cons a l ih =>
    intro h
    have ht := ih (fun j x y hy hx => h (j + 1) x y (by simpa using hy) (by simpa using hx))
    refine List.Pairwise.cons ?_ ht
    intro b hb
    cases l with
    | nil => simp at hb
    | cons c l =>
      have hac := h 0 c a (by simp) (by simp)
      cases List.mem_cons.1 hb with
      | inl e => subst e; exact hac
      | inr e => have := (List.pairwise_cons.1 ht).1 b e; omega
theorem callsOk_iff (l : List Cll) : callsOk l = true ↔ CallsOk l := by
  unfold callsOk CallsOk
  simp only [Bool.and_eq_true, decide_eq_true_eq, List.all_eq_true, List.mem_range]
  constructor
  · rintro ⟨h6, h⟩
    refine ⟨h6, fun x hx => ?_, pairwise_of_steps l fun j x y hy hx => ?_⟩
    · obtain ⟨i, hi⟩ := List.getElem?_of_mem hx
      have hlt := (List.getElem?_eq_some_iff.1 hi).1
      have := h i hlt
      cases i with
      | zero => rw [cllAt_zero hi] at this; exact this
      | succ j =>
        rw [cllAt_succ hi (List.getElem?_eq_getElem (by omega : j < l.length))] at this
        simp at this; exact this.1
    · have := h (j + 1) (List.getElem?_eq_some_iff.1 hx).1
      rw [cllAt_succ hx hy] at this
      simp at this; exact this.2
  · rintro ⟨h6, hok, hp⟩
    refine ⟨h6, fun i hi => ?_⟩
    have hx := List.getElem?_eq_getElem hi
    cases i with
    | zero => rw [cllAt_zero hx]; exact hok _ (List.getElem_mem _)
    | succ j =>
      have hy := List.getElem?_eq_getElem (by omega : j < l.length)
      rw [cllAt_succ hx hy, hok _ (List.getElem_mem _)]
      simp only [Bool.true_and, decide_eq_true_eq]
      exact List.pairwise_iff_getElem.1 hp j (j + 1) (by omega) hi (by omega)
end Go.Proofs.YtemgilofjbnoaaaGreatDoor
namespace Go.Proofs.YtemgilofjbnoaaaGreatDoor
open Go.RowKit
def firstOf (l : List Cll) (c : Int) : Option Cll := l.find? (fun x => decide (x.client = c))
def isNew (o : Option Cll) (n : Int) : Bool := match o with | none => true | some x => decide (x.number < n)
def callsNew (l : List Cll) (c n : Int) : Bool := callsOk l && callIn c n && isNew (firstOf l c) n
theorem last_first : ∀ (l : List Cll) (c : Int), l.Pairwise (fun x y => x.client < y.client) → lastOf l c = firstOf l c := by
  intro l c h
  induction l with
  | nil => rfl
  | cons a l ih =>
    have hl := List.pairwise_cons.1 h
    have hrec := ih hl.2
    unfold lastOf firstOf at hrec ⊢
    rw [List.reverse_cons, List.find?_append, hrec, List.find?_cons]
    by_cases e : a.client = c
    · have : l.find? (fun x => decide (x.client = c)) = none := by
        rw [List.find?_eq_none]
        intro x hx
        have := hl.1 x hx
        simp; omega
      rw [this]; simp [e]
    · simp [e]
theorem callsOk_last {l : List Cll} (h : callsOk l = true) (c : Int) : lastOf l c = firstOf l c := last_first l c ((callsOk_iff l).1 h).2.2
theorem callsOk_clients {l : List Cll} (h : callsOk l = true) : clientsIn l := by
  intro x hx
  have := ((callsOk_iff l).1 h).2.1 x hx
  simp only [Cll.ok, cllOk, callIn, inB, Bool.and_eq_true, decide_eq_true_eq] at this
  omega
def PlaceOf (l : List Cll) (c v : Int) : Prop := (v = -1 ∧ firstOf l c = none) ∨ ∃ (k : Nat) (x : Cll), v = (k : Int) ∧ l[k]? = some x ∧ firstOf l c = some x
theorem first_at {l : List Cll} {c : Int} {k : Nat} {x : Cll} (h : ∀ (i : Nat) (y : Cll), i < k → l[i]? = some y → y.client ≠ c) (hx : l[k]? = some x) (hc : x.client = c) : firstOf l c = some x := by
  unfold firstOf
  have hk := (List.getElem?_eq_some_iff.1 hx).1
  have e : l[k] = x := by rw [List.getElem?_eq_getElem hk] at hx; injection hx
  rw [List.find?_eq_some_iff_append]
  refine ⟨by simp [hc], l.take k, l.drop (k + 1), ?_, fun a ha => ?_⟩
  · rw [← e]
    exact (List.take_append_drop k l).symm.trans (by rw [List.drop_eq_getElem_cons hk])
  · obtain ⟨i, hi, rfl⟩ := List.mem_take_iff_getElem.1 ha
    have := h i l[i] (by omega) (List.getElem?_eq_getElem (by omega))
    simp [this]
theorem first_none {l : List Cll} {c : Int} (h : ∀ (i : Nat) (y : Cll), i < l.length → l[i]? = some y → y.client ≠ c) : firstOf l c = none := by
  unfold firstOf
  rw [List.find?_eq_none]
  intro x hx
  obtain ⟨i, hi⟩ := List.getElem?_of_mem hx
  have := h i x (List.getElem?_eq_some_iff.1 hi).1 hi
  simp [this]
set_option maxHeartbeats 1000000 in
theorem l15At_any (A : Option Addr) (n c : Nat) (l : List Cll) (cl : Int) (w : World) (h : Flat Cll.enc 4 w 0 w.heap.size A n c l) (hn : n ≤ 1048576) :
    Calls Mo.prog 74 #[.slice A n c, .int .i64 cl] w fun e w' => ∃ v, e = .returned (.int .i64 v) ∧ PlaceOf l cl v ∧ w = w' := by
  have H := Lib.hid h
  have HL := Lib.hid h.len
  clear h
  go_enter Mo.func74, Tryz.ntmps74
  go_wp2
  go_loopw [5] (fun i wr => ∃ k : Nat, k ≤ n ∧ i = .int .i64 k ∧ Hid (∀ (i : Nat) (y : Cll), i < k → l[i]? = some y → y.client ≠ cl) ∧ w = wr)
    (fun i _ => n - (intOf i).toNat)
  case atStart => exact ⟨0, Nat.zero_le _, rfl, fun i y h => absurd h (by omega), rfl⟩
  case round =>
    obtain ⟨k, hk, rfl, hall, rfl⟩ := hrel
    by_cases hlt : k < n
    · obtain ⟨b, off, x, rfl, _, _, hx, c0, _, _, _⟩ := H.out.cll hlt
      have Hx := Lib.hid hx
      clear hx
      by_cases hc : x.client = cl
      · have he : (x.client == cl) = true := by simp [hc]
        go_wp2
        go_ret
        exact ⟨_, rfl, .inr ⟨k, x, rfl, Hx.out, first_at hall.out Hx.out hc⟩, rfl⟩
      · have he : (x.client == cl) = false := by simp [hc]
        go_wp2
        go_roundw
        case rel =>
          refine ⟨k + 1, by omega, by go_num, fun i y hi hy => ?_, trivial⟩
          by_cases e : i = k
          · subst e; rw [Hx.out] at hy; injection hy with hy; rw [← hy]; exact hc
          · exact hall.out i y (by omega) hy
        case measure => simp [intOf]; omega
    · go_wp2
      go_ret
      exact ⟨_, rfl, .inl ⟨rfl, first_none (fun i y hi hy => hall.out i y (by have := HL.out; omega) hy)⟩, rfl⟩
set_option maxHeartbeats 1000000 in
theorem specCallsNew_any (A : Option Addr) (n c : Nat) (l : List Cll) (cl nu : Int) (w : World) (h : Flat Cll.enc 4 w 0 w.heap.size A n c l) (hn : n ≤ 1048576) :
    Calls Mo.prog 42 #[.slice A n c, .int .i64 cl, .int .i64 nu] w fun e w' => e = .returned (.bool (callsNew l cl nu)) ∧ Below w.heap.size w w' := by
  have H := Lib.hid h
  clear h
  go_enter Mo.func42, Tryz.ntmps42
  go_wp2_with fail
  refine (l15At_any _ _ _ l cl _ H.out hn).mono ?_
  rintro e w1 ⟨v, rfl, hp, rfl⟩
  go_wp2_with fail
  refine (specCallsValid_any _ _ _ l _ H.out hn).mono ?_
  rintro e w2 ⟨rfl, hb2⟩
  have F2 := Lib.hid (H.out.below hb2 (Nat.le_refl _))
  have B2 := Lib.hid hb2
  have HP := Lib.hid hp
  clear hb2 H hp
  cases hok : callsOk l
  · go_wp2_with (go_at_call 72; refine (l6In_any _ _ _ _).mono ?_; rintro e w' ⟨rfl, rfl⟩)
    go_ret
    exact ⟨ret_bool (by unfold callsNew; rw [hok]; rfl), B2.out⟩
  have HK := Lib.hid hok
  clear hok
  cases h1 : inB cl 0 99
  · go_wp2_with (go_at_call 72; refine (l6In_any _ _ _ _).mono ?_; rintro e w' ⟨rfl, rfl⟩)
    go_ret
    exact ⟨ret_bool (by unfold callsNew callIn; rw [h1, HK.out]; rfl), B2.out⟩
  cases h2 : inB nu 1 9999
  · go_wp2_with (go_at_call 72; refine (l6In_any _ _ _ _).mono ?_; rintro e w' ⟨rfl, rfl⟩)
    go_ret
    exact ⟨ret_bool (by unfold callsNew callIn; rw [h1, h2, HK.out]; rfl), B2.out⟩
  rcases HP.out with ⟨rfl, hf⟩ | ⟨k, x, rfl, hx, hf⟩
  · have Hf := Lib.hid hf
    clear hf
    go_wp2_with (go_at_call 72; refine (l6In_any _ _ _ _).mono ?_; rintro e w' ⟨rfl, rfl⟩)
    go_ret
    exact ⟨ret_bool (by unfold callsNew callIn; rw [h1, h2, HK.out, Hf.out]; rfl), B2.out⟩
  · have hkn : k < n := by have := (List.getElem?_eq_some_iff.1 hx).1; have := F2.out.len; omega
    obtain ⟨b, off, y, rfl, _, _, hy, _, c1, _, _⟩ := F2.out.cll hkn
    obtain rfl : x = y := by rw [hx] at hy; injection hy
    have Hf := Lib.hid hf
    clear hf hx hy
    have hneg : ¬ ((k : Int) < 0) := by omega
    go_wp2_with (go_at_call 72; refine (l6In_any _ _ _ _).mono ?_; rintro e w' ⟨rfl, rfl⟩)
    go_ret
    exact ⟨ret_bool (by unfold callsNew callIn; rw [h1, h2, HK.out, Hf.out]; simp [isNew]; omega), B2.out⟩
set_option maxHeartbeats 1000000 in
theorem callsNew_any (A : Option Addr) (n c : Nat) (l : List Cll) (cl nu : Int) (w : World) (h : Flat Cll.enc 4 w 0 w.heap.size A n c l) (hn : n ≤ 1048576) :
    Calls Mo.prog 16 #[.slice A n c, .int .i64 cl, .int .i64 nu] w fun e w' => e = .returned (.bool (callsNew l cl nu)) ∧ Below w.heap.size w w' := by
  have H := Lib.hid h
  clear h
  go_enter Mo.func16, Tryz.ntmps16
  go_wp2_with fail
  refine (callsValid_any _ _ _ l _ H.out hn).mono ?_
  rintro e w1 ⟨rfl, hb1⟩
  have F1 := Lib.hid (H.out.below hb1 (Nat.le_refl _))
  have B1 := Lib.hid hb1
  have s1 := hb1.size
  clear hb1 H
  cases hok : callsOk l
  · go_wp2
    go_ret
    exact ⟨ret_bool (by unfold callsNew; rw [hok]; rfl), B1.out⟩
  have HK := Lib.hid hok
  clear hok
  cases h1 : callIn cl nu
  · go_wp2_with (go_at_call 50; refine (callInRange_any _ _ _).mono ?_; rintro e w' ⟨rfl, rfl⟩; rw [h1])
    go_ret
    exact ⟨ret_bool (by unfold callsNew; rw [h1, HK.out]; rfl), B1.out⟩
  go_wp2_with (go_at_call 50; refine (callInRange_any _ _ _).mono ?_; rintro e w' ⟨rfl, rfl⟩; rw [h1])
  refine (byClient_any _ _ _ l _ (F1.out.mono (Nat.zero_le _) s1) hn (callsOk_clients HK.out)).mono ?_
  rintro e w2 ⟨b, rfl, hb, hown, hb2⟩
  have hcl : 0 ≤ cl ∧ cl ≤ 99 := by simp only [callIn, inB, Bool.and_eq_true, decide_eq_true_eq] at h1; omega
  have hrun := look_call hown hcl
  rw [callsOk_last HK.out cl] at hrun
  have B2 := Lib.hid (B1.out.trans (hb2.mono s1))
  have s2 : w.heap.size ≤ w2.heap.size := Nat.le_trans s1 hb2.size
  clear hown hb2
  cases hf : firstOf l cl with
  | none =>
    rw [hf] at hrun
    have Hf := Lib.hid hf
    clear hf
    dsimp only at hrun
    go_wp2
    go_ret
    exact ⟨ret_bool (by unfold callsNew; rw [h1, HK.out, Hf.out]; rfl), B2.out.alloc s2 _⟩
  | some x =>
    rw [hf] at hrun
    have Hf := Lib.hid hf
    clear hf
    dsimp only [cllV] at hrun
    go_wp2
    go_ret
    exact ⟨ret_bool (by unfold callsNew; rw [h1, HK.out, Hf.out]; simp [isNew]), B2.out.alloc s2 _⟩
end Go.Proofs.YtemgilofjbnoaaaGreatDoor
namespace Go.Proofs.YtemgilofjbnoaaaGreatDoor
open Go.RowKit
def Asc (l : List Cll) : Prop := l.Pairwise fun x y => x.client < y.client
def InOrder (l r : List Cll) : Prop := ∃ ks : List Int, ks.Pairwise (· < ·) ∧ (∀ k, k ∈ ks ↔ ∃ x ∈ l, x.client = k) ∧ r = ks.filterMap (lastOf l)
theorem asc_ext : ∀ {l r : List Cll}, Asc l → Asc r → (∀ x, x ∈ l ↔ x ∈ r) → l = r := by
  intro l
  induction l with
  | nil =>
    intro r _ _ h
    cases r with
    | nil => rfl
    | cons a r => exact absurd ((h a).2 (List.mem_cons_self ..)) (by simp)
  | cons a l ih =>
    intro r hl hr h
    cases r with
    | nil => exact absurd ((h a).1 (List.mem_cons_self ..)) (by simp)
    | cons b r =>
      obtain ⟨h1, h2⟩ := List.pairwise_cons.1 hl
      obtain ⟨h3, h4⟩ := List.pairwise_cons.1 hr
      have e : a = b := by
        rcases List.mem_cons.1 ((h a).1 (List.mem_cons_self ..)) with e | e
        · exact e
        · rcases List.mem_cons.1 ((h b).2 (List.mem_cons_self ..)) with e' | e'
          · exact e'.symm
          · have := h1 b e'; have := h3 a e; omega
      subst e
      rw [ih h2 h4 fun x => ⟨fun hx => ?_, fun hx => ?_⟩]
      · rcases List.mem_cons.1 ((h x).1 (List.mem_cons_of_mem _ hx)) with e | e
        · have := h1 x hx; rw [e] at this; omega
        · exact e
      · rcases List.mem_cons.1 ((h x).2 (List.mem_cons_of_mem _ hx)) with e | e
        · have := h3 x hx; rw [e] at this; omega
        · exact e
theorem lastOf_mem {l : List Cll} {k : Int} {x : Cll} (h : lastOf l k = some x) : x ∈ l ∧ x.client = k := by
  unfold lastOf at h
  have h1 := List.mem_of_find?_eq_some h
  have h2 := List.find?_some h
  exact ⟨by simpa using h1, by simpa using h2⟩
theorem lastOf_some {l : List Cll} {x : Cll} (h : x ∈ l) : ∃ y, lastOf l x.client = some y := by
  unfold lastOf
  cases hf : l.reverse.find? (fun y => decide (y.client = x.client)) with
  | some y => exact ⟨y, rfl⟩
  | none =>
    rw [List.find?_eq_none] at hf
    have := hf x (by simpa using h)
    simp at this
theorem asc_inj {l : List Cll} (h : Asc l) {x y : Cll} (hx : x ∈ l) (hy : y ∈ l) (e : x.client = y.client) : x = y := by
  induction l with
  | nil => cases hx
  | cons a l ih =>
    obtain ⟨h1, h2⟩ := List.pairwise_cons.1 h
    rcases List.mem_cons.1 hx with ex | hx'
    · rcases List.mem_cons.1 hy with ey | hy'
      · rw [ex, ey]
      · have := h1 y hy'; rw [← ex] at this; omega
    · rcases List.mem_cons.1 hy with ey | hy'
      · have := h1 x hx'; rw [← ey] at this; omega
      · exact ih h2 hx' hy'
theorem lastOf_asc {l : List Cll} (h : Asc l) {x : Cll} (hx : x ∈ l) : lastOf l x.client = some x := by
  obtain ⟨y, hy⟩ := lastOf_some hx
  obtain ⟨h1, h2⟩ := lastOf_mem hy
  rw [hy, asc_inj h h1 hx h2]
theorem order_asc {l r : List Cll} (h : InOrder l r) : Asc r := by
  obtain ⟨ks, h1, _, rfl⟩ := h
  unfold Asc
  rw [List.pairwise_filterMap]
  exact h1.imp fun {a b} hab x hx y hy => by rw [(lastOf_mem hx).2, (lastOf_mem hy).2]; exact hab
theorem order_mem {l r : List Cll} (h : InOrder l r) (x : Cll) : x ∈ r ↔ lastOf l x.client = some x := by
  obtain ⟨ks, _, h2, rfl⟩ := h
  rw [List.mem_filterMap]
  constructor
  · rintro ⟨k, _, hk⟩
    rw [(lastOf_mem hk).2]; exact hk
  · intro hx
    exact ⟨x.client, (h2 _).2 ⟨x, (lastOf_mem hx).1, rfl⟩, hx⟩
theorem order_same {l r : List Cll} (hl : Asc l) (h : InOrder l r) : r = l :=
  asc_ext (order_asc h) hl fun x => (order_mem h x).trans ⟨fun hx => (lastOf_mem hx).1, fun hx => lastOf_asc hl hx⟩
def putC (l : List Cll) (x : Cll) : List Cll := l.filter (fun y => decide (y.client < x.client)) ++ x :: l.filter (fun y => decide (x.client < y.client))
theorem mem_putC {l : List Cll} {x y : Cll} : y ∈ putC l x ↔ y = x ∨ (y ∈ l ∧ y.client ≠ x.client) := by
  unfold putC
  simp only [List.mem_append, List.mem_cons, List.mem_filter, decide_eq_true_eq]
  constructor
  · rintro (⟨h1, h2⟩ | h | ⟨h1, h2⟩)
    · exact .inr ⟨h1, by omega⟩
    · exact .inl h
    · exact .inr ⟨h1, by omega⟩
  · rintro (h | ⟨h1, h2⟩)
    · exact .inr (.inl h)
    · rcases Int.lt_or_gt_of_ne h2 with h | h
      · exact .inl ⟨h1, h⟩
      · exact .inr (.inr ⟨h1, h⟩)
theorem asc_putC {l : List Cll} (h : Asc l) (x : Cll) : Asc (putC l x) := by
  unfold Asc putC
  rw [List.pairwise_append]
  refine ⟨h.filter _, List.pairwise_cons.2 ⟨fun y hy => ?_, h.filter _⟩, fun a ha b hb => ?_⟩
  · simpa using (List.mem_filter.1 hy).2
  · have h1 : a.client < x.client := by simpa using (List.mem_filter.1 ha).2
    rcases List.mem_cons.1 hb with rfl | hb
    · exact h1
    · have h2 : x.client < b.client := by simpa using (List.mem_filter.1 hb).2
      omega
theorem order_put {l r : List Cll} {x : Cll} (hl : Asc l) (h : InOrder (l ++ [x]) r) : r = putC l x := by
  refine asc_ext (order_asc h) (asc_putC hl x) fun y => (order_mem h y).trans ?_
  rw [mem_putC, lastOf_snoc]
  by_cases e : x.client = y.client
  · rw [if_pos e]
    constructor
    · intro h; injection h with h; exact .inl h.symm
    · rintro (rfl | ⟨_, h⟩)
      · rfl
      · exact absurd e.symm h
  · rw [if_neg e]
    constructor
    · intro h; exact .inr ⟨(lastOf_mem h).1, fun q => e q.symm⟩
    · rintro (rfl | ⟨h, _⟩)
      · exact absurd rfl e
      · exact lastOf_asc hl h
theorem callsOk_asc {l : List Cll} (h : callsOk l = true) : Asc l := ((callsOk_iff l).1 h).2.2
theorem putC_len {l : List Cll} (h : Asc l) (x : Cll) : (putC l x).length = l.length + (if (firstOf l x.client).isSome then 0 else 1) := by
  induction l with
  | nil => simp [putC, firstOf]
  | cons a l ih =>
    obtain ⟨h1, h2⟩ := List.pairwise_cons.1 h
    have ih := ih h2
    have e0 : (putC (a :: l) x).length = (putC l x).length + (if a.client = x.client then 0 else 1) := by
      unfold putC
      simp only [List.filter_cons]
      by_cases e : a.client = x.client
      · simp [e]
      · rcases Int.lt_or_gt_of_ne e with q | q
        · have q2 : ¬ x.client < a.client := by omega
          simp [q, q2, e] <;> omega
        · have q2 : ¬ a.client < x.client := by omega
          simp [q, q2, e] <;> omega
    rw [e0, ih]
    unfold firstOf
    rw [List.find?_cons]
    by_cases e : a.client = x.client
    · have : l.find? (fun y => decide (y.client = x.client)) = none := by
        rw [List.find?_eq_none]
        intro y hy
        have := h1 y hy
        simp; omega
      simp [this, e]
    · simp [e]; omega
theorem callsOk_put {l : List Cll} {x : Cll} (h : callsOk l = true) (hx : x.ok = true) (hn : (putC l x).length ≤ 6) : callsOk (putC l x) = true := by
  rw [callsOk_iff] at h ⊢
  refine ⟨hn, fun y hy => ?_, asc_putC h.2.2 x⟩
  rcases mem_putC.1 hy with rfl | ⟨h1, _⟩
  · exact hx
  · exact h.2.1 y h1
end Go.Proofs.YtemgilofjbnoaaaGreatDoor
namespace Go.Proofs.YtemgilofjbnoaaaGreatDoor
open Go Go.RowKit Go.Maps Go.Sort Go.Shelf
set_option linter.unusedVariables false
theorem Mo.func139 : Mo.prog.funcs[139]? = some Tryz.f139 := mo_fn (fm_of Tryz.func139 (by decide) (by kernel_rfl))
def keysRen : Ren := {
  f := fun x => match x with
    | 7 => 68
    | 10 => 96
    | n => n
  t := fun x => match x with
    | 23 => 67
    | 26 => 3
    | 3 => 30
    | 28 => 99
    | 0 => 0
    | 27 => 98
    | 33 => 73
    | 4 => 4
    | n => n
  g := fun x => x }
theorem keysLay : SlLaysZI.n7 Mo.prog keysRen where
  mixed := by kernel_rfl
  f7 := ⟨Tryz.f68.name, by kernel_rfl, Mo.func68.trans (congrArg some (by kernel_rfl))⟩
  f10 := ⟨Tryz.f96.name, by kernel_rfl, Mo.func96.trans (congrArg some (by kernel_rfl))⟩
  t0 := (mo_underlying 0).trans Tryz.underlying0
  a0 := fun w => (mo_isAgg 0 w).trans (Tryz.isAgg0 w)
  z0 := fun w => (mo_sizeOf 0 w).trans (Tryz.sizeOf0 w)
  v0 := fun w => (mo_zeroValue 0 w).trans (Tryz.zeroValue0 w)
  t4 := (mo_underlying 4).trans Tryz.underlying4
  a4 := fun w => (mo_isAgg 4 w).trans (Tryz.isAgg4 w)
  z4 := fun w => (mo_sizeOf 4 w).trans (Tryz.sizeOf4 w)
  v4 := fun w => (mo_zeroValue 4 w).trans (Tryz.zeroValue4 w)
  t23 := (mo_underlying 67).trans Tryz.underlying67
  a23 := fun w => (mo_isAgg 67 w).trans (Tryz.isAgg67 w)
  z23 := fun w => (mo_sizeOf 67 w).trans (Tryz.sizeOf67 w)
  v23 := fun w => (mo_zeroValue 67 w).trans (Tryz.zeroValue67 w)
  t26 := (mo_underlying 3).trans Tryz.underlying3
  a26 := fun w => (mo_isAgg 3 w).trans (Tryz.isAgg3 w)
  z26 := fun w => (mo_sizeOf 3 w).trans (Tryz.sizeOf3 w)
  v26 := fun w => (mo_zeroValue 3 w).trans (Tryz.zeroValue3 w)
  t27 := (mo_underlying 98).trans Tryz.underlying98
  a27 := fun w => (mo_isAgg 98 w).trans (Tryz.isAgg98 w)
  z27 := fun w => (mo_sizeOf 98 w).trans (Tryz.sizeOf98 w)
  v27 := fun w => (mo_zeroValue 98 w).trans (Tryz.zeroValue98 w)
  t28 := (mo_underlying 99).trans Tryz.underlying99
  a28 := fun w => (mo_isAgg 99 w).trans (Tryz.isAgg99 w)
  z28 := fun w => (mo_sizeOf 99 w).trans (Tryz.sizeOf99 w)
  v28 := fun w => (mo_zeroValue 99 w).trans (Tryz.zeroValue99 w)
  t33 := (mo_underlying 73).trans Tryz.underlying73
  a33 := fun w => (mo_isAgg 73 w).trans (Tryz.isAgg73 w)
  z33 := fun w => (mo_sizeOf 73 w).trans (Tryz.sizeOf73 w)
  v33 := fun w => (mo_zeroValue 73 w).trans (Tryz.zeroValue73 w)
def sortedRen : Ren := {
  f := fun x => match x with
    | 6 => 67
    | 8 => 94
    | 9 => 95
    | 11 => 111
    | 13 => 113
    | 12 => 112
    | 23 => 130
    | 24 => 131
    | 14 => 121
    | 15 => 122
    | 16 => 123
    | 17 => 124
    | 18 => 125
    | 19 => 126
    | 20 => 127
    | 21 => 128
    | 22 => 129
    | 25 => 137
    | 26 => 138
    | 27 => 139
    | 28 => 140
    | 29 => 141
    | 30 => 142
    | 31 => 161
    | n => n
  t := fun x => match x with
    | 26 => 3
    | 28 => 99
    | 24 => 74
    | 0 => 0
    | 3 => 3
    | 37 => 139
    | 48 => 157
    | 50 => 159
    | 4 => 4
    | 40 => 151
    | 39 => 150
    | 45 => 39
    | 5 => 5
    | 9 => 9
    | 51 => 181
    | 55 => 185
    | 57 => 201
    | 58 => 202
    | 33 => 73
    | n => n
  g := fun x => x }
theorem sortedLay : SlLaysZI.n6 Mo.prog sortedRen where
  mixed := by kernel_rfl
  f6 := ⟨Tryz.f67.name, by kernel_rfl, Mo.func67.trans (congrArg some (by kernel_rfl))⟩
  f8 := ⟨Tryz.f94.name, by kernel_rfl, Mo.func94.trans (congrArg some (by kernel_rfl))⟩
  f11 := ⟨Tryz.f111.name, by kernel_rfl, Mo.func111.trans (congrArg some (by kernel_rfl))⟩
  t0 := (mo_underlying 0).trans Tryz.underlying0
  a0 := fun w => (mo_isAgg 0 w).trans (Tryz.isAgg0 w)
  z0 := fun w => (mo_sizeOf 0 w).trans (Tryz.sizeOf0 w)
  v0 := fun w => (mo_zeroValue 0 w).trans (Tryz.zeroValue0 w)
  t24 := (mo_underlying 74).trans Tryz.underlying74
  a24 := fun w => (mo_isAgg 74 w).trans (Tryz.isAgg74 w)
  z24 := fun w => (mo_sizeOf 74 w).trans (Tryz.sizeOf74 w)
  v24 := fun w => (mo_zeroValue 74 w).trans (Tryz.zeroValue74 w)
  t26 := (mo_underlying 3).trans Tryz.underlying3
  a26 := fun w => (mo_isAgg 3 w).trans (Tryz.isAgg3 w)
  z26 := fun w => (mo_sizeOf 3 w).trans (Tryz.sizeOf3 w)
  v26 := fun w => (mo_zeroValue 3 w).trans (Tryz.zeroValue3 w)
  t28 := (mo_underlying 99).trans Tryz.underlying99
  a28 := fun w => (mo_isAgg 99 w).trans (Tryz.isAgg99 w)
  z28 := fun w => (mo_sizeOf 99 w).trans (Tryz.sizeOf99 w)
  v28 := fun w => (mo_zeroValue 99 w).trans (Tryz.zeroValue99 w)
  i26 := by kernel_rfl
def sortRen : Ren := {
  f := fun x => match x with
    | 5 => 95
    | 8 => 113
    | 7 => 112
    | 19 => 130
    | 20 => 131
    | 10 => 121
    | 11 => 122
    | 12 => 123
    | 13 => 124
    | 14 => 125
    | 15 => 126
    | 16 => 127
    | 17 => 128
    | 18 => 129
    | 30 => 137
    | 31 => 138
    | 32 => 139
    | 33 => 140
    | 34 => 141
    | 35 => 142
    | 40 => 161
    | n => n
  t := fun x => match x with
    | 23 => 74
    | 25 => 3
    | 3 => 3
    | 32 => 139
    | 22 => 74
    | 0 => 0
    | 44 => 157
    | 46 => 159
    | 4 => 4
    | 36 => 151
    | 35 => 150
    | 41 => 39
    | 5 => 5
    | 9 => 9
    | 53 => 181
    | 57 => 185
    | 63 => 201
    | 64 => 202
    | n => n
  g := fun x => x }
theorem sortLay : SlLaysM.n5 Mo.prog sortRen where
  mixed := by kernel_rfl
  f5 := ⟨Tryz.f95.name, by kernel_rfl, Mo.func95.trans (congrArg some (by kernel_rfl))⟩
  f7 := ⟨Tryz.f112.name, by kernel_rfl, Mo.func112.trans (congrArg some (by kernel_rfl))⟩
  f8 := Mo.func113.trans (congrArg some (by kernel_rfl))
  f10 := ⟨Tryz.f121.name, by kernel_rfl, Mo.func121.trans (congrArg some (by kernel_rfl))⟩
  f11 := ⟨Tryz.f122.name, by kernel_rfl, Mo.func122.trans (congrArg some (by kernel_rfl))⟩
  f12 := ⟨Tryz.f123.name, by kernel_rfl, Mo.func123.trans (congrArg some (by kernel_rfl))⟩
  f13 := ⟨Tryz.f124.name, by kernel_rfl, Mo.func124.trans (congrArg some (by kernel_rfl))⟩
  f14 := ⟨Tryz.f125.name, by kernel_rfl, Mo.func125.trans (congrArg some (by kernel_rfl))⟩
  f15 := ⟨Tryz.f126.name, by kernel_rfl, Mo.func126.trans (congrArg some (by kernel_rfl))⟩
  f16 := ⟨Tryz.f127.name, by kernel_rfl, Mo.func127.trans (congrArg some (by kernel_rfl))⟩
  f17 := ⟨Tryz.f128.name, by kernel_rfl, Mo.func128.trans (congrArg some (by kernel_rfl))⟩
  f18 := ⟨Tryz.f129.name, by kernel_rfl, Mo.func129.trans (congrArg some (by kernel_rfl))⟩
  f19 := Mo.func130.trans (congrArg some (by kernel_rfl))
  f20 := Mo.func131.trans (congrArg some (by kernel_rfl))
  f30 := ⟨Tryz.f137.name, by kernel_rfl, Mo.func137.trans (congrArg some (by kernel_rfl))⟩
  f31 := Mo.func138.trans (congrArg some (by kernel_rfl))
  f32 := Mo.func139.trans (congrArg some (by kernel_rfl))
  f33 := ⟨Tryz.f140.name, by kernel_rfl, Mo.func140.trans (congrArg some (by kernel_rfl))⟩
  f34 := ⟨Tryz.f141.name, by kernel_rfl, Mo.func141.trans (congrArg some (by kernel_rfl))⟩
  f35 := ⟨Tryz.f142.name, by kernel_rfl, Mo.func142.trans (congrArg some (by kernel_rfl))⟩
  f40 := ⟨Tryz.f161.name, by kernel_rfl, Mo.func161.trans (congrArg some (by kernel_rfl))⟩
  t0 := (mo_underlying 0).trans Tryz.underlying0
  a0 := fun w => (mo_isAgg 0 w).trans (Tryz.isAgg0 w)
  z0 := fun w => (mo_sizeOf 0 w).trans (Tryz.sizeOf0 w)
  v0 := fun w => (mo_zeroValue 0 w).trans (Tryz.zeroValue0 w)
  t3 := (mo_underlying 3).trans Tryz.underlying3
  a3 := fun w => (mo_isAgg 3 w).trans (Tryz.isAgg3 w)
  z3 := fun w => (mo_sizeOf 3 w).trans (Tryz.sizeOf3 w)
  v3 := fun w => (mo_zeroValue 3 w).trans (Tryz.zeroValue3 w)
  t4 := (mo_underlying 4).trans Tryz.underlying4
  a4 := fun w => (mo_isAgg 4 w).trans (Tryz.isAgg4 w)
  z4 := fun w => (mo_sizeOf 4 w).trans (Tryz.sizeOf4 w)
  v4 := fun w => (mo_zeroValue 4 w).trans (Tryz.zeroValue4 w)
  t5 := (mo_underlying 5).trans Tryz.underlying5
  a5 := fun w => (mo_isAgg 5 w).trans (Tryz.isAgg5 w)
  z5 := fun w => (mo_sizeOf 5 w).trans (Tryz.sizeOf5 w)
  v5 := fun w => (mo_zeroValue 5 w).trans (Tryz.zeroValue5 w)
  t9 := (mo_underlying 9).trans Tryz.underlying9
  a9 := fun w => (mo_isAgg 9 w).trans (Tryz.isAgg9 w)
  z9 := fun w => (mo_sizeOf 9 w).trans (Tryz.sizeOf9 w)
  v9 := fun w => (mo_zeroValue 9 w).trans (Tryz.zeroValue9 w)
  t22 := (mo_underlying 74).trans Tryz.underlying74
  a22 := fun w => (mo_isAgg 74 w).trans (Tryz.isAgg74 w)
  z22 := fun w => (mo_sizeOf 74 w).trans (Tryz.sizeOf74 w)
  v22 := fun w => (mo_zeroValue 74 w).trans (Tryz.zeroValue74 w)
  t23 := (mo_underlying 74).trans Tryz.underlying74
  a23 := fun w => (mo_isAgg 74 w).trans (Tryz.isAgg74 w)
  z23 := fun w => (mo_sizeOf 74 w).trans (Tryz.sizeOf74 w)
  v23 := fun w => (mo_zeroValue 74 w).trans (Tryz.zeroValue74 w)
  t25 := (mo_underlying 3).trans Tryz.underlying3
  a25 := fun w => (mo_isAgg 3 w).trans (Tryz.isAgg3 w)
  z25 := fun w => (mo_sizeOf 3 w).trans (Tryz.sizeOf3 w)
  v25 := fun w => (mo_zeroValue 3 w).trans (Tryz.zeroValue3 w)
  t32 := (mo_underlying 139).trans Tryz.underlying139
  a32 := fun w => (mo_isAgg 139 w).trans (Tryz.isAgg139 w)
  z32 := fun w => (mo_sizeOf 139 w).trans (Tryz.sizeOf139 w)
  v32 := fun w => (mo_zeroValue 139 w).trans (Tryz.zeroValue139 w)
  t35 := (mo_underlying 150).trans Tryz.underlying150
  a35 := fun w => (mo_isAgg 150 w).trans (Tryz.isAgg150 w)
  z35 := fun w => (mo_sizeOf 150 w).trans (Tryz.sizeOf150 w)
  v35 := fun w => (mo_zeroValue 150 w).trans (Tryz.zeroValue150 w)
  t36 := (mo_underlying 151).trans Tryz.underlying151
  a36 := fun w => (mo_isAgg 151 w).trans (Tryz.isAgg151 w)
  z36 := fun w => (mo_sizeOf 151 w).trans (Tryz.sizeOf151 w)
  v36 := fun w => (mo_zeroValue 151 w).trans (Tryz.zeroValue151 w)
  t41 := (mo_underlying 39).trans Tryz.underlying39
  a41 := fun w => (mo_isAgg 39 w).trans (Tryz.isAgg39 w)
  z41 := fun w => (mo_sizeOf 39 w).trans (Tryz.sizeOf39 w)
  v41 := fun w => (mo_zeroValue 39 w).trans (Tryz.zeroValue39 w)
  t44 := (mo_underlying 157).trans Tryz.underlying157
  a44 := fun w => (mo_isAgg 157 w).trans (Tryz.isAgg157 w)
  z44 := fun w => (mo_sizeOf 157 w).trans (Tryz.sizeOf157 w)
  v44 := fun w => (mo_zeroValue 157 w).trans (Tryz.zeroValue157 w)
  t46 := (mo_underlying 159).trans Tryz.underlying159
  a46 := fun w => (mo_isAgg 159 w).trans (Tryz.isAgg159 w)
  z46 := fun w => (mo_sizeOf 159 w).trans (Tryz.sizeOf159 w)
  v46 := fun w => (mo_zeroValue 159 w).trans (Tryz.zeroValue159 w)
  t53 := (mo_underlying 181).trans Tryz.underlying181
  a53 := fun w => (mo_isAgg 181 w).trans (Tryz.isAgg181 w)
  z53 := fun w => (mo_sizeOf 181 w).trans (Tryz.sizeOf181 w)
  v53 := fun w => (mo_zeroValue 181 w).trans (Tryz.zeroValue181 w)
  t57 := (mo_underlying 185).trans Tryz.underlying185
  a57 := fun w => (mo_isAgg 185 w).trans (Tryz.isAgg185 w)
  z57 := fun w => (mo_sizeOf 185 w).trans (Tryz.sizeOf185 w)
  v57 := fun w => (mo_zeroValue 185 w).trans (Tryz.zeroValue185 w)
  t63 := (mo_underlying 201).trans Tryz.underlying201
  a63 := fun w => (mo_isAgg 201 w).trans (Tryz.isAgg201 w)
  z63 := fun w => (mo_sizeOf 201 w).trans (Tryz.sizeOf201 w)
  v63 := fun w => (mo_zeroValue 201 w).trans (Tryz.zeroValue201 w)
  t64 := (mo_underlying 202).trans Tryz.underlying202
  a64 := fun w => (mo_isAgg 202 w).trans (Tryz.isAgg202 w)
  z64 := fun w => (mo_sizeOf 202 w).trans (Tryz.sizeOf202 w)
  v64 := fun w => (mo_zeroValue 202 w).trans (Tryz.zeroValue202 w)
theorem sorts_mo (m : Nat) : AnyZI.SortsIn Mo.prog sortedRen Fence.wide m :=
  ⟨fun blk off cap ss W hH hblk hsz => callsIn_wide.2 (AnyM.slices_Sort_int sortLay blk off cap ss W hH hblk hsz), fun p cap W => callsIn_wide.2 (AnyM.slices_Sort_int_none sortLay p cap W)⟩
end Go.Proofs.YtemgilofjbnoaaaGreatDoor
namespace Go.Proofs.YtemgilofjbnoaaaGreatDoor
open Go Go.RowKit Go.Maps Go.Sort Go.Shelf
theorem has_byClient (l : List Cll) (k : Int) : has (byClient l) (.int .i64 k) = l.any (fun x => decide (x.client = k)) := by
  refine snoc_ind (P := fun l => has (byClient l) (.int .i64 k) = l.any (fun x => decide (x.client = k))) rfl (fun l x ih => ?_) l
  rw [byClient_snoc, List.any_append]
  by_cases h : x.client = k
  · subst h
    rw [has_put_same (byClient_isMap l) (show WideAt.IsKeyLit (.int .i64 x.client) from trivial)]
    simp
  · rw [has_put_other (by intro e; injection e with _ e; exact h e.symm), ih]
    simp [h]
theorem tidy_byClient (l : List Cll) : Tidy (byClient l) := by
  refine snoc_ind (P := fun l => Tidy (byClient l)) tidy_empty (fun l x ih => ?_) l
  rw [byClient_snoc]
  exact ih.put (show WideAt.IsKeyLit (.int .i64 x.client) from trivial) _
theorem size_byClient (l : List Cll) : Maps.size (byClient l) ≤ l.length := by
  refine snoc_ind (P := fun l => Maps.size (byClient l) ≤ l.length) (Nat.le_refl _) (fun l x ih => ?_) l
  rw [byClient_snoc, Maps.size_put (tidy_byClient l), List.length_append]
  split <;> simp <;> omega
theorem keys_pairwise {P : Program} {t : TypeId} {R : Value → Option (DataW Value × List MemPlace)} {w : World} {b n : Nat} {l : List Cll} (hown : w.ownsMap P t R b n (byClient l)) (K : Keyed P t) (hk : P.underlying t = some (.int .i64)) :
    (intKeys (byClient l)).Nodup ∧ ∀ k, k ∈ intKeys (byClient l) ↔ ∃ x ∈ l, x.client = k := by
  obtain ⟨es, hD, hpw, _⟩ := hown.entries K
  obtain ⟨es', hD', hko⟩ := hown.keysOf
  obtain rfl : es = es' := by rw [hD] at hD'; simpa using hD'
  have hki : ∀ p ∈ es, ∃ x, p.1 = .int .i64 x := fun p hp => by obtain ⟨v, hv⟩ := hko p hp; obtain ⟨x, _, hx, _⟩ := Maps.keyOf_i64 hk hv; exact ⟨x, hx⟩
  refine ⟨?_, fun k => ?_⟩
  · rw [hD]
    show (es.map fun p => Go.intOf p.1).Nodup
    refine List.pairwise_map.2 (hpw.imp_of_mem fun {p q} hp' hq' hne e => hne ?_)
    obtain ⟨a, ha⟩ := hki p hp'
    obtain ⟨b, hb⟩ := hki q hq'
    rw [ha, hb] at e ⊢
    exact congrArg _ e
  · have h1 := has_byClient l k
    have e1 : (∃ x ∈ l, x.client = k) ↔ l.any (fun x => decide (x.client = k)) = true := by simp [List.any_eq_true]
    rw [e1, ← h1, hD, has_eq, List.any_eq_true]
    show k ∈ es.map (fun p => Go.intOf p.1) ↔ _
    rw [List.mem_map]
    constructor
    · rintro ⟨p, hp', rfl⟩
      obtain ⟨a, ha⟩ := hki p hp'
      exact ⟨p, hp', by rw [ha]; simp [Lit.sameKey, Go.intOf]⟩
    · rintro ⟨p, hp', hs⟩
      obtain ⟨a, ha⟩ := hki p hp'
      rw [ha] at hs
      exact ⟨p, hp', by rw [ha]; simpa [Lit.sameKey, Go.intOf] using hs⟩
theorem keys_sorted {P : Program} {t : TypeId} {R : Value → Option (DataW Value × List MemPlace)} {w : World} {b n : Nat} {l : List Cll} (hown : w.ownsMap P t R b n (byClient l)) (K : Keyed P t) (hk : P.underlying t = some (.int .i64)) {ss : List Int} (hs : ss.Perm (intKeys (byClient l))) :
    (ss.mergeSort (fun x y => decide (x ≤ y))).Pairwise (· < ·) ∧ ∀ k, k ∈ ss.mergeSort (fun x y => decide (x ≤ y)) ↔ ∃ x ∈ l, x.client = k := by
  obtain ⟨h1, h2⟩ := keys_pairwise hown K hk
  have tr : ∀ a b c : Int, decide (a ≤ b) = true → decide (b ≤ c) = true → decide (a ≤ c) = true := fun a b c h1 h2 => by simp only [decide_eq_true_eq] at *; omega
  have tot : ∀ a b : Int, (decide (a ≤ b) || decide (b ≤ a)) = true := fun a b => by simp only [Bool.or_eq_true, decide_eq_true_eq]; omega
  have hp := List.mergeSort_perm ss (fun x y => decide (x ≤ y))
  have hnd : (ss.mergeSort (fun x y => decide (x ≤ y))).Nodup := ((hp.trans hs).nodup_iff).2 h1
  refine ⟨?_, fun k => ((hp.trans hs).mem_iff).trans (h2 k)⟩
  have hle := List.pairwise_mergeSort tr tot ss
  refine (hle.and hnd).imp fun {a b} hab => ?_
  have := hab.1
  have := hab.2
  simp only [decide_eq_true_eq] at *
  omega
theorem keys_mo (mb : Option Nat) (W : World) : Calls Mo.prog 68 #[.map mb] W fun e w' => e = .returned (.func (.func 96) #[] #[.pointer (some ⟨W.heap.size, 0, none⟩)]) ∧ w' = W.alloc (.cells #[.map mb] 67) :=
  (callsIn_wide (n := 5)).1 (AnyZI.keys_in keysLay Fence.wide 5 trivial rfl mb W)
theorem sorted_mo {b m Bm : Nat} {l : List Cll} {W : World} (hBm : W.cell? ⟨Bm, 0, none⟩ = some (.map (some b))) (hlt : Bm < W.heap.size) (hown : W.ownsMap Mo.prog 3 tok b m (byClient l)) (hl : l.length ≤ 1048576) :
    Calls Mo.prog 67 #[.func (.func 96) #[] #[.pointer (some ⟨Bm, 0, none⟩)]] W fun e w' => ∃ (v : Value) (ks : List Int), e = .returned v ∧ InOrder l (ks.filterMap (lastOf l)) ∧ (∀ k ∈ ks, ∃ x ∈ l, x.client = k) ∧ ks.length ≤ 1048576 ∧ w'.ownsRow W.heap.size 3 1 v ks.length (ks.map (Value.int .i64)) ∧ Below W.heap.size W w' := by
  have hsz := size_byClient l
  have hseq : SeqGives Fence.wide 2 Mo.prog 96 #[.pointer (some ⟨Bm, 0, none⟩)] (Value.int .i64) (fun ss => ss.Perm (intKeys (byClient l))) (Maps.size (byClient l)) W :=
    AnyZI.keys_gives (ρ := keysRen) { keysLay with } Fence.wide _ trivial rfl (by omega) Bm b m (byClient l) W hlt hBm hown
  have e96 : ∀ args w, (callFunc 96 args).run Mo.prog w = .ok (.enter 96 args) w := fun args w => Mo.call96 args w
  have e95 : ∀ args w, (callFunc (sortedRen.f 9) args).run Mo.prog w = .ok (.enter (sortedRen.f 9) args) w := fun args w => Mo.call95 args w
  have cS := AnyZI.sorted_in sortedLay Fence.wide 5 trivial trivial trivial trivial rfl (by omega) (sorts_mo _) e95 96 #[.pointer (some ⟨Bm, 0, none⟩)] trivial e96 _ _ (by unfold maxLen; omega) (by omega) W hseq
  refine ((callsIn_wide (n := 5)).1 cS).mono ?_
  rintro e w' ⟨v, ss, rfl, hS, hrow, _, hb⟩
  obtain ⟨h1, h2⟩ := keys_sorted hown (Maps.int_keyed ((mo_underlying 3).trans Tryz.underlying3)) ((mo_underlying 3).trans Tryz.underlying3) hS
  have hlen : (ss.mergeSort (fun x y => decide (x ≤ y))).length = ss.length := List.length_mergeSort _
  have hl2 : ss.length ≤ l.length := by
    have e := hS.length_eq
    obtain ⟨es, hD, _⟩ := tidy_byClient l
    rw [hD] at e hsz
    have : (intKeys (DataW.map es)).length = es.length := by show (es.map _).length = _; simp
    have h5 : Maps.size (DataW.map es) = es.length := rfl
    omega
  refine ⟨v, _, rfl, ⟨_, h1, h2, rfl⟩, fun k hk => (h2 k).1 hk, by omega, ?_, hb⟩
  rw [hlen]; exact hrow
end Go.Proofs.YtemgilofjbnoaaaGreatDoor
namespace Go.Proofs.YtemgilofjbnoaaaGreatDoor
open Go Go.RowKit Go.Sort
theorem infoCallM : (Mo.prog.info? 30).map (fun i => (i.zero, i.size, i.bytes)) = some (some (.agg #[.int .i64 0, .int .i64 0, .int .i64 0, .int .i64 0]), 4, 32) := by kernel_rfl
structure CR (w0 w : World) (v : Value) (r : List Cll) : Prop where
  own : w.ownsRow w0.heap.size 30 4 v r.length (r.flatMap Cll.enc)
  bel : Below w0.heap.size w0 w
theorem below_grown {w w' : World} {row : Option Nat} (hb : Below w.heap.size w w') : w.grownBy w' row := ⟨hb.os, hb.tape, hb.output, hb.size, fun k hk _ => hb.block k hk⟩
theorem own_below {w w' : World} {lo sz n : Nat} {e : TypeId} {v : Value} {xs : List Value} (h : w.ownsRow lo e sz v n xs) (hb : Below w.heap.size w w') : w'.ownsRow lo e sz v n xs :=
  h.kept (below_grown (row := none) hb) (by cases v.ownBlock <;> simp)
theorem map_below {P : Program} {k : TypeId} {R : Value → Option (DataW Value × List MemPlace)} {w w' : World} {b n : Nat} {D : DataW Value} (h : w.ownsMap P k R b n D) (hb : Below w.heap.size w w') : w'.ownsMap P k R b n D :=
  h.kept (below_grown (row := none) hb) (by simp)
section
variable {w0 w w' : World} {v v' : Value} {r : List Cll} {x : Cll} {o : Obj}
theorem CR.size (h : CR w0 w v r) : w0.heap.size ≤ w.heap.size := h.bel.size
theorem CR.start {w0 w : World} (hb : Below w0.heap.size w0 w) : CR w0 (w.alloc (.cells #[] 30)) (.slice (some ⟨w.heap.size, 0, none⟩) 0 0) [] :=
  ⟨World.ownsRow_made w #[] 0 hb.size (Nat.zero_le _) (by simp), hb.alloc hb.size _⟩
theorem own_at {lo sz n q : Nat} {e : TypeId} {xs : List Value} (h : w.ownsRow lo e sz v n xs) (hq : v.ownBlock = some q) : ∃ cs, w.heap[q]? = some (.cells cs e (0, 0)) := by
  rcases h.2 with ⟨rfl, rfl⟩ | ⟨g, cap, cur, rfl, hb, hg, _⟩
  · cases hq
  · injection hq with hq
    subst hq
    exact ⟨cur, hg⟩
theorem CR.other (h : CR w0 w v r) (hg : (w.alloc o).grownBy w' v.ownBlock) {k : Nat} {o' : Obj} (hk : w.heap[k]? = some o') (hne : ∀ cs, o' ≠ .cells cs 30 (0, 0)) : w'.heap[k]? = some o' := by
  have hlt : k < w.heap.size := (Array.getElem?_eq_some_iff.1 hk).1
  refine (hg.block k (by simp; omega) fun e => ?_).trans ((Below.heap_alloc _ _ _ hlt).trans hk)
  obtain ⟨cs, hcs⟩ := own_at h.own e.symm
  rw [hk] at hcs
  injection hcs with hcs
  exact hne _ hcs
theorem CR.appended (h : CR w0 w v r) (hown : w'.ownsRow w0.heap.size 30 4 v' (r.length + 1) (r.flatMap Cll.enc ++ x.enc)) (hg : (w.alloc o).grownBy w' v.ownBlock) : CR w0 w' v' (r ++ [x]) := by
  refine ⟨?_, (h.bel.alloc h.size _).grown hg (by have := h.size; simp; omega) fun g e => (h.own.lt g e).1⟩
  rw [List.length_append, List.flatMap_append]
  simpa using hown
theorem CR.below (h : CR w0 w v r) (hb : Below w.heap.size w w') : CR w0 w' v r := ⟨own_below h.own hb, h.bel.trans (hb.mono h.size)⟩
theorem CR.alloc (h : CR w0 w v r) (o : Obj) : CR w0 (w.alloc o) v r := h.below ((Below.refl _ _).alloc (Nat.le_refl _) _)
theorem CR.drew (h : CR w0 w v r) : CR w0 w.drew v r := h.below (Below.refl _ _).drew
theorem CR.flat (h : CR w0 w v r) : ∃ A n c, v = .slice A n c ∧ r.length = n ∧ Flat Cll.enc 4 w w0.heap.size w.heap.size A n c r := by
  obtain ⟨A, c, h1, h2⟩ := own_flat Cll.len h.own rfl
  exact ⟨A, _, c, h1, rfl, h2⟩
end
def KeysAt (w : World) (A : Option Addr) (ks : List Int) : Prop := ∀ (j : Nat) (x : Int), ks[j]? = some x → ∃ g cs, A = some ⟨g, 0, none⟩ ∧ w.heap[g]? = some (.cells cs 3 (0, 0)) ∧ cs[j]? = some (.int .i64 x)
theorem KeysAt.of {w : World} {lo : Nat} {v : Value} {ks : List Int} (h : w.ownsRow lo 3 1 v ks.length (ks.map (Value.int .i64))) : ∃ A c, v = .slice A ks.length c ∧ KeysAt w A ks := by
  rcases h.2 with ⟨rfl, hz⟩ | ⟨g, cap, cur, rfl, hb, hg, _, _, _, ht⟩
  · refine ⟨none, 0, by rw [hz], fun j x hx => ?_⟩
    have := (List.getElem?_eq_some_iff.1 hx).1
    omega
  · refine ⟨_, _, rfl, fun j x hx => ⟨g, cur, rfl, hg, ?_⟩⟩
    have hj := (List.getElem?_eq_some_iff.1 hx).1
    have h1 : (cur.toList.take (ks.length * 1))[j]? = (ks.map (Value.int .i64))[j]? := by rw [ht]
    rw [List.getElem?_take_of_lt (by omega), List.getElem?_map, hx] at h1
    rw [← Array.getElem?_toList]; exact h1
theorem KeysAt.keep {w w' : World} {A : Option Addr} {ks : List Int} (h : KeysAt w A ks) (hk : ∀ (g : Nat) (cs : Array Value), w.heap[g]? = some (.cells cs 3 (0, 0)) → w'.heap[g]? = some (.cells cs 3 (0, 0))) : KeysAt w' A ks := fun j x hx => by
  obtain ⟨g, cs, h1, h2, h3⟩ := h j x hx
  exact ⟨g, cs, h1, hk _ _ h2, h3⟩
theorem look_one {w : World} {b m : Nat} {l : List Cll} {x : Cll} (h : w.ownsMap Mo.prog 3 tok b m (byClient l)) (hc : 0 ≤ x.client ∧ x.client ≤ 99) (hx : lastOf l x.client = some x) :
    (Instr.lookup 67 (.map (some b)) (.int .i64 x.client) false).run Mo.prog w = .ok (.agg #[.int .i64 x.client, .int .i64 x.number, .int .i64 x.what.key, .int .i64 x.what.value]) w := by
  obtain ⟨es, clock, hb, F, _, hD⟩ := h
  have hkey : keyOf Mo.prog 3 (.int .i64 x.client) = some (.int .i64 x.client) := Maps.keyOf_int_mk (Mo.underlying3) (client_wf hc)
  rcases Maps.fit_look false (Maps.int_keyed (Mo.underlying3)) (Mo.underlying67) (zeroCall w) hb F hkey with ⟨hrun, _, hat⟩ | ⟨e0, y, _, _, hrun, hRv, hat, _⟩
  · have e := hat (.nil)
    rw [← hD, byClient_at, hx] at e
    cases e
  · rw [hrun]
    have e := hat (.nil)
    rw [← hD, byClient_at, hx] at e
    unfold tok at hRv
    replace hRv := Option.some.inj hRv
    rewrite [← hRv] at e
    replace e := DataW.held.inj e
    rw [← e]; rfl
set_option maxRecDepth 100000 in
set_option maxHeartbeats 4000000 in
theorem callsInOrder_any (b m : Nat) (l : List Cll) (w : World) (h : w.ownsMap Mo.prog 3 tok b m (byClient l)) (hl : l.length ≤ 1048576) (hc : clientsIn l) :
    Calls Mo.prog 38 #[.map (some b)] w fun e w' => ∃ A n c r, e = .returned (.slice A n c) ∧ InOrder l r ∧ r.length = n ∧ CR w w' (.slice A n c) r := by
  obtain ⟨i0, hi, hz0, hz1, hz2⟩ := info_parts infoCallM
  have HO := Lib.hid h
  have HC := Lib.hid hc
  have hbl := h.lt
  clear h hc
  go_enter Mo.func38, Tryz.ntmps38
  go_wp2_with fail
  refine (keys_mo _ _).mono ?_
  rintro e w1 ⟨rfl, rfl⟩
  have C0 := Lib.hid ((CR.start (Below.refl _ w)).alloc (.cells #[.map (some b)] 67))
  have O1 := Lib.hid ((HO.out.alloc (.cells #[] 30)).alloc (.cells #[.map (some b)] 67))
  go_wp2_with fail
  refine (sorted_mo (l := l) (b := b) (m := m) (by simp) (by simp) O1.out hl).mono ?_
  rintro e w2 ⟨v, ks, rfl, hO, hks, hkn, hrow, hb⟩
  have C1 := Lib.hid (C0.out.below hb)
  have O2 := Lib.hid (map_below O1.out hb)
  obtain ⟨A, c, rfl, hat⟩ := KeysAt.of hrow
  have HK := Lib.hid hks
  have HI := Lib.hid hO
  have HA := Lib.hid hat
  obtain ⟨n, hn⟩ : ∃ n, ks.length = n := ⟨_, rfl⟩
  have HN := Lib.hid hn
  rw [hn] at hkn ⊢
  clear hb hrow hO hks hat C0 O1 hn HO
  go_wp2_with fail
  go_loopw [3, 11] (fun v i wr => ∃ (k : Nat) (r : List Cll), i = .int .i64 k ∧ k ≤ n ∧ r.length ≤ k ∧ Hid (r = (ks.take k).filterMap (lastOf l)) ∧ CR w wr v r ∧ KeysAt wr A ks ∧ wr.ownsMap Mo.prog 3 tok b m (byClient l))
    (fun _ i _ => n - (intOf i).toNat)
  case atStart => exact ⟨0, [], rfl, Nat.zero_le _, Nat.le_refl _, rfl, C1.out, HA.out, O2.out⟩
  case round =>
    obtain ⟨k, r, rfl, hkn2, hrk, hr, hC, hA2, hM⟩ := hrel
    clear C1 HA O2
    by_cases hlt : k < n
    · obtain ⟨key, hkey⟩ : ∃ key, ks[k]? = some key := ⟨ks[k]'(by have := HN.out; omega), List.getElem?_eq_getElem _⟩
      obtain ⟨g, cs, rfl, hg, hcs⟩ := hA2 k key hkey
      obtain ⟨y, hy, hyk⟩ := HK.out key (List.mem_of_getElem? hkey)
      obtain ⟨x, hx⟩ := lastOf_some hy
      obtain ⟨hxl, hxk⟩ := lastOf_mem hx
      have ekey : key = x.client := by omega
      subst ekey
      rw [hyk] at hx
      have hrun := look_one hM (HC.out x hxl) hx
      have hc0 : wr.cell? ⟨g, k, none⟩ = some (.int .i64 x.client) := Blk.cell (show Blk wr g cs 3 from hg) hcs
      have hsz := hC.size
      have CC := Lib.hid hC
      have AA := Lib.hid hA2
      have MM := Lib.hid hM
      have KK := Lib.hid hkey
      have XX := Lib.hid hx
      clear hC hA2 hM hkey hx hcs hg hy hyk hxl hxk
      go_wp2_with (at_builtin; refine wpList_append_own _ rfl _ _ 26 rfl w.heap.size 30 i0 _ 4 32 Mo.underlying26 hi hz0 hz1 hz2 rfl (by decide) _ r.length (r.flatMap Cll.enc) rfl (CC.out.own.alloc _) ⟨wr.heap.size, 0, none⟩ 1 1 (Cll.enc x) rfl rfl (new_cells _ _ _ _ rfl) (Cll.one _) (by unfold maxLen; omega) (by omega) (by simp; omega) ?_; intro v7 w7 hown7 hg7 _)
      have C7 := CC.out.appended hown7 hg7
      have A7 : KeysAt w7 (some ⟨g, 0, none⟩) ks := AA.out.keep fun q cs hq => CC.out.other hg7 hq (fun cs e => by injection e with _ e; cases e)
      have M7 : w7.ownsMap Mo.prog 3 tok b m (byClient l) := by
        have hb := MM.out.lt
        refine (MM.out.alloc _).kept hg7 fun e => ?_
        obtain ⟨cs, hcs⟩ := own_at CC.out.own e.symm
        obtain ⟨es, clock, hm, _⟩ := MM.out
        rw [hm] at hcs; cases hcs
      go_roundw
      case rel =>
        refine ⟨k + 1, r ++ [x], by go_num, by omega, by simp; omega, ?_, C7, A7, M7⟩
        have hk1 := (List.getElem?_eq_some_iff.1 KK.out).1
        have e1 : ks[k] = x.client := by have := KK.out; rw [List.getElem?_eq_getElem hk1] at this; injection this
        rw [List.take_succ_eq_append_getElem hk1, List.filterMap_append, ← hr.out, e1]
        simp [XX.out, Hid]
      case measure => simp [intOf]; omega
    · obtain rfl : n = k := by omega
      have hr2 := hr.out
      rw [List.take_of_length_le (by have := HN.out; omega)] at hr2
      obtain ⟨A', n', c', rfl, hn', hf⟩ := hC.flat
      have CC := Lib.hid hC
      have FF := Lib.hid hf
      have RR := Lib.hid hr2
      clear hC hA2 hM hf hr2
      go_wp2
      go_ret
      exact ⟨A', n', c', r, rfl, by rw [RR.out]; exact HI.out, hn', CC.out⟩
end Go.Proofs.YtemgilofjbnoaaaGreatDoor
namespace Go.Proofs.YtemgilofjbnoaaaGreatDoor
open Go.RowKit
end Go.Proofs.YtemgilofjbnoaaaGreatDoor
namespace Go.Proofs.YtemgilofjbnoaaaGreatDoor
open Go.RowKit
def tailVal (l : List Nod) (key : Int) : Int := match l[l.length - 1]? with | some t => valOf t.log key t.log.length | none => -1
def told (x : Int) : Int × Bool := if x < 0 then (0, false) else (x, true)
def chainRead (v : Int) (l : List Nod) (key : Int) : Int × Bool := if chainOk v l && inB key 0 4 then told (tailVal l key) else (0, false)
def chainReadAt (v : Int) (l : List Nod) (id key : Int) : Int × Int :=
  if chainOk v l && inB key 0 4 then (match placeOf l id with
    | none => (0, 3)
    | some k => match l[k]? with
      | none => (0, 3)
      | some x => if (nodeRead x key).2 = 1 then (if (chainRead v l key).2 then ((chainRead v l key).1, 1) else (0, 2)) else nodeRead x key)
  else (0, 3)
end Go.Proofs.YtemgilofjbnoaaaGreatDoor
namespace Go.Proofs.YtemgilofjbnoaaaGreatDoor
open Go.RowKit
end Go.Proofs.YtemgilofjbnoaaaGreatDoor
namespace Go.Proofs.YtemgilofjbnoaaaGreatDoor
open Go.RowKit Go.Maps
def callM (v : Int) (l : List Nod) (cs : List Cll) (x : Cll) : Option ((Int × List Nod) × List Cll) :=
  if (chainOk v l && callsOk cs && x.ok) = true then
    if callsNew cs x.client x.number = true then
      match putM v l x.what with
      | none => none
      | some c => if (putC cs x).length ≤ 6 then some (c, putC cs x) else none
    else some ((v, l), cs)
  else none
theorem callM_bad {v : Int} {l : List Nod} {cs : List Cll} {x : Cll} (h : (chainOk v l && callsOk cs && x.ok) = false) : callM v l cs x = none := by unfold callM; rw [h]; rfl
theorem callM_old {v : Int} {l : List Nod} {cs : List Cll} {x : Cll} (h : (chainOk v l && callsOk cs && x.ok) = true) (hn : callsNew cs x.client x.number = false) : callM v l cs x = some ((v, l), cs) := by unfold callM; rw [if_pos h, hn]; rfl
theorem callM_new {v : Int} {l : List Nod} {cs : List Cll} {x : Cll} {c : Int × List Nod} (h : (chainOk v l && callsOk cs && x.ok) = true) (hn : callsNew cs x.client x.number = true) (hp : putM v l x.what = some c) : callM v l cs x = if (putC cs x).length ≤ 6 then some (c, putC cs x) else none := by
  unfold callM; rw [if_pos h, if_pos hn, hp]
theorem callM_none {v : Int} {l : List Nod} {cs : List Cll} {x : Cll} (h : (chainOk v l && callsOk cs && x.ok) = true) (hn : callsNew cs x.client x.number = true) (hp : putM v l x.what = none) : callM v l cs x = none := by
  unfold callM; rw [if_pos h, if_pos hn, hp]
theorem call_some {v v' : Int} {l r : List Nod} {cs ds : List Cll} {x : Cll} (h : callM v l cs x = some ((v', r), ds)) :
    chainOk v l = true ∧ callsOk cs = true ∧ x.ok = true ∧ ((callsNew cs x.client x.number = false ∧ v' = v ∧ r = l ∧ ds = cs) ∨ (callsNew cs x.client x.number = true ∧ putM v l x.what = some (v', r) ∧ ds = putC cs x ∧ ds.length ≤ 6)) := by
  unfold callM at h
  split at h
  · rename_i hg
    simp only [Bool.and_eq_true] at hg
    refine ⟨hg.1.1, hg.1.2, hg.2, ?_⟩
    split at h
    · rename_i hn
      split at h
      · cases h
      · rename_i c hp
        split at h
        · rename_i hl
          injection h with h
          injection h with h1 h2
          subst h1; subst h2
          exact .inr ⟨hn, hp, rfl, hl⟩
        · cases h
    · rename_i hn
      injection h with h
      injection h with h1 h2
      injection h1 with h3 h4
      exact .inl ⟨by simpa using hn, h3.symm, h4.symm, h2.symm⟩
  · cases h
section
variable {v v' : Int} {l r : List Nod} {cs ds : List Cll} {x : Cll} (h : callM v l cs x = some ((v', r), ds))
include h
theorem call_good : Good v' r := by
  obtain ⟨h1, _, _, h4⟩ := call_some h
  rcases h4 with ⟨_, rfl, rfl, _⟩ | ⟨_, hp, _⟩
  · exact good_iff.1 h1
  · exact (good_put hp).1
theorem call_calls : callsOk ds = true := by
  obtain ⟨_, h2, h3, h4⟩ := call_some h
  rcases h4 with ⟨_, _, _, rfl⟩ | ⟨_, _, rfl, hl⟩
  · exact h2
  · exact callsOk_put h2 h3 hl
end
def others (cs : List Cll) (c : Int) : List Cll := cs.filter fun y => decide (y.client ≠ c)
end Go.Proofs.YtemgilofjbnoaaaGreatDoor
namespace Go.Proofs.YtemgilofjbnoaaaGreatDoor
open Go Go.RowKit Go.Sort Go.Maps
theorem size_asc {l : List Cll} : Asc l → Maps.size (byClient l) = l.length := by
  refine snoc_ind (P := fun l => Asc l → Maps.size (byClient l) = l.length) (fun _ => rfl) (fun l x ih h => ?_) l
  have hp := List.pairwise_append.1 h
  rw [byClient_snoc, Maps.size_put (tidy_byClient l), has_byClient, ih hp.1, List.length_append]
  have : l.any (fun y => decide (y.client = x.client)) = false := by
    rw [List.any_eq_false]
    intro y hy
    have := hp.2.2 y hy x (by simp)
    simp; omega
  rw [this]; simp
theorem size_put_asc {l : List Cll} (h : Asc l) (x : Cll) : Maps.size (byClient (l ++ [x])) = (putC l x).length := by
  rw [byClient_snoc, Maps.size_put (tidy_byClient l), has_byClient, size_asc h, putC_len h]
  have e : l.any (fun y => decide (y.client = x.client)) = (firstOf l x.client).isSome := by
    unfold firstOf
    rw [Bool.eq_iff_iff, List.find?_isSome, List.any_eq_true]
  rw [e]
  cases (firstOf l x.client).isSome <;> simp
def CallRes (w : World) (o : Option ((Int × List Nod) × List Cll)) (e : Ending) (w' : World) : Prop :=
  ∃ (view : Int) (A : Option Addr) (n c : Nat) (l : List Nod) (B : Option Addr) (m d : Nat) (r : List Cll), ((view, l), r) = o.getD ((0, []), []) ∧ e = .returned (.tuple #[.agg #[.int .i64 view, .slice A n c], .slice B m d, .bool o.isSome]) ∧
    l.length = n ∧ r.length = m ∧ NodRow w' w.heap.size w'.heap.size (.slice A n c) l ∧ CR w w' (.slice B m d) r
def xCells (x : Cll) : Array Value := #[.int .i64 x.client, .int .i64 x.number, .int .i64 x.what.key, .int .i64 x.what.value]
structure CS (w W : World) (view : Int) (A : Option Addr) (n c : Nat) (l : List Nod) (B : Option Addr) (m d : Nat) (cs : List Cll) (x : Cll) : Prop where
  k0 : Blk W w.heap.size #[.int .i64 view, .slice A n c] 25
  k1 : Blk W (w.heap.size + 1) #[.int .i64 x.client, .int .i64 x.number, .int .i64 x.what.key, .int .i64 x.what.value] 30
  k2 : Blk W (w.heap.size + 1 + 1) #[.int .i64 0, .slice none 0 0] 25
  b : Below w.heap.size w W
  n : Nods W 0 W.heap.size A n c l
  f : Flat Cll.enc 4 W 0 W.heap.size B m d cs
section
variable {w W W' : World} {view : Int} {A : Option Addr} {n c : Nat} {l : List Nod} {B : Option Addr} {m d : Nat} {cs : List Cll} {x : Cll}
theorem CS.start (h : Nods w 0 w.heap.size A n c l) (hf : Flat Cll.enc 4 w 0 w.heap.size B m d cs) :
    CS w (((w.alloc (.cells #[.int .i64 view, .slice A n c] 25)).alloc (.cells #[.int .i64 x.client, .int .i64 x.number, .int .i64 x.what.key, .int .i64 x.what.value] 30)).alloc (.cells #[.int .i64 0, .slice none 0 0] 25)) view A n c l B m d cs x := by
  have hb0 : Below w.heap.size w (w.alloc (.cells #[.int .i64 view, .slice A n c] 25)) := (Below.refl _ w).alloc (Nat.le_refl _) _
  have hb : Below w.heap.size w (((w.alloc (.cells #[.int .i64 view, .slice A n c] 25)).alloc (.cells #[.int .i64 x.client, .int .i64 x.number, .int .i64 x.what.key, .int .i64 x.what.value] 30)).alloc (.cells #[.int .i64 0, .slice none 0 0] 25)) :=
    (hb0.alloc hb0.size _).alloc (hb0.alloc hb0.size _).size _
  refine ⟨((Blk.new w _ _).alloc _).alloc _, ?_, ?_, hb, ((h.box _).box _).box _, hf.on hb⟩
  · have := (Blk.new (w.alloc (.cells #[.int .i64 view, .slice A n c] 25)) #[.int .i64 x.client, .int .i64 x.number, .int .i64 x.what.key, .int .i64 x.what.value] 30).alloc (.cells #[.int .i64 0, .slice none 0 0] 25)
    simpa only [World.size_alloc] using this
  · have := Blk.new ((w.alloc (.cells #[.int .i64 view, .slice A n c] 25)).alloc (.cells #[.int .i64 x.client, .int .i64 x.number, .int .i64 x.what.key, .int .i64 x.what.value] 30)) #[.int .i64 0, .slice none 0 0] 25
    simpa only [World.size_alloc] using this
theorem CS.below (h : CS w W view A n c l B m d cs x) (hb : Below W.heap.size W W') : CS w W' view A n c l B m d cs x :=
  ⟨h.k0.below hb, h.k1.below hb, h.k2.below hb, h.b.trans (hb.mono h.b.size), h.n.on hb, h.f.on hb⟩
theorem CS.alloc (h : CS w W view A n c l B m d cs x) (o : Obj) : CS w (W.alloc o) view A n c l B m d cs x := h.below ((Below.refl _ _).alloc (Nat.le_refl _) _)
theorem CS.chain (h : CS w W view A n c l B m d cs x) : W.cell? ⟨w.heap.size, 0, none⟩ = some (.int .i64 view) ∧ W.cell? ⟨w.heap.size, 1, none⟩ = some (.slice A n c) := ⟨h.k0.cell (i := 0) rfl, h.k0.cell (i := 1) rfl⟩
theorem CS.call (h : CS w W view A n c l B m d cs x) : W.cell? ⟨w.heap.size + 1, 0, none⟩ = some (.int .i64 x.client) ∧ W.cell? ⟨w.heap.size + 1, 1, none⟩ = some (.int .i64 x.number) ∧ W.cell? ⟨w.heap.size + 1, 2, none⟩ = some (.int .i64 x.what.key) ∧ W.cell? ⟨w.heap.size + 1, 3, none⟩ = some (.int .i64 x.what.value) :=
  ⟨h.k1.cell (i := 0) rfl, h.k1.cell (i := 1) rfl, h.k1.cell (i := 2) rfl, h.k1.cell (i := 3) rfl⟩
theorem CR.stored {v a b : Value} {r : List Cll} {s : Nat} {ds : Array Value} (h : CR w W v r) (hk : Blk W s ds 25) (hs : w.heap.size ≤ s) : CR w ((W.setCell ⟨s, 0, none⟩ a).setCell ⟨s, 1, none⟩ b) v r := by
  have hne : v.ownBlock ≠ some s := fun e => by
    obtain ⟨cs, hcs⟩ := own_at h.own e
    have := blk_type hcs hk
    exact absurd this (by decide)
  exact ⟨ownsRow_setCell_other (ownsRow_setCell_other h.own (a := ⟨s, 0, none⟩) hne _) (a := ⟨s, 1, none⟩) hne _, (h.bel.setCell (p := ⟨s, 0, none⟩) hs _).setCell (p := ⟨s, 1, none⟩) hs _⟩
theorem call_end {A' : Option Addr} {n' c' : Nat} {l' : List Nod} {u : Int} {B' : Option Addr} {m' d' : Nat} {r : List Cll} {o : Option ((Int × List Nod) × List Cll)} (hk : Blk W (w.heap.size + 1 + 1) #[.int .i64 0, .slice none 0 0] 25) (hrow : NodRow W w.heap.size W.heap.size (.slice A' n' c') l') (hcr : CR w W (.slice B' m' d') r)
    (ho : ((u, l'), r) = o.getD ((0, []), [])) (hl : l'.length = n') (hm : r.length = m') :
    (((W.setCell ⟨w.heap.size + 1 + 1, 0, none⟩ (.int .i64 u)).setCell ⟨w.heap.size + 1 + 1, 1, none⟩ (.slice A' n' c')).cell? ⟨w.heap.size + 1 + 1, 0, none⟩ = some (.int .i64 u) ∧
     ((W.setCell ⟨w.heap.size + 1 + 1, 0, none⟩ (.int .i64 u)).setCell ⟨w.heap.size + 1 + 1, 1, none⟩ (.slice A' n' c')).cell? ⟨w.heap.size + 1 + 1, 1, none⟩ = some (.slice A' n' c')) ∧
    CallRes w o (.returned (.tuple #[.agg #[.int .i64 u, .slice A' n' c'], .slice B' m' d', .bool o.isSome])) ((W.setCell ⟨w.heap.size + 1 + 1, 0, none⟩ (.int .i64 u)).setCell ⟨w.heap.size + 1 + 1, 1, none⟩ (.slice A' n' c')) := by
  have hs : w.heap.size ≤ w.heap.size + 1 + 1 := by omega
  have h2 := res_two (a := .int .i64 u) (b := .slice A' n' c') hk hs hcr.bel
  exact ⟨h2.2.1, u, A', n', c', l', B', m', d', r, ho, rfl, hl, hm, res_row hrow hk, hcr.stored hk hs⟩
theorem CR.lower {w1 : World} {v : Value} {r : List Cll} (h : CR w1 W v r) (hb : Below w.heap.size w w1) : CR w W v r := ⟨ownsRow_base_a h.own hb.size, hb.trans (h.bel.mono hb.size)⟩
theorem NodRow.carry {lo : Nat} {nv : Value} {l : List Nod} (h : NodRow W lo W.heap.size nv l) (hw : w.heap.size ≤ lo) (hb : Below W.heap.size W W') : NodRow W' w.heap.size W'.heap.size nv l :=
  ((h.lower hw).keep (w' := W') (fun q _ hq => hb.block q hq)).mono hb.size
theorem NodRow.mapped {lo b : Nat} {nv : Value} {l : List Nod} {es : Array MapEntry} {ck : Nat} (h : NodRow W lo W.heap.size nv l) (hm : W.heap[b]? = some (.map es ck)) (hg : W.grownBy W' (some b)) : NodRow W' lo W'.heap.size nv l :=
  (h.keepT fun k cs t hk _ => hg.block k (lt_of_block hk) (fun e => by injection e with e; subst e; rw [hm] at hk; cases hk)).mono hg.size
theorem Blk.mapped {b s : Nat} {ds : Array Value} {t : TypeId} {es : Array MapEntry} {ck : Nat} (h : Blk W s ds t) (hm : W.heap[b]? = some (.map es ck)) (hg : W.grownBy W' (some b)) : Blk W' s ds t :=
  h.grown hg fun e => by
    injection e with e
    subst e
    have h' : W.heap[s]? = some (.cells ds t (0, 0)) := h
    rw [hm] at h'; cases h'
end
end Go.Proofs.YtemgilofjbnoaaaGreatDoor
namespace Go.Proofs.YtemgilofjbnoaaaGreatDoor
open Go Go.RowKit Go.Sort
def CallRes2 (w : World) (o : Option ((Int × List Nod) × List Cll)) (e : Ending) (w' : World) : Prop :=
  ∃ (mid : Nat) (view : Int) (A : Option Addr) (n c : Nat) (l : List Nod) (B : Option Addr) (m d : Nat) (r : List Cll), ((view, l), r) = o.getD ((0, []), []) ∧ e = .returned (.tuple #[.agg #[.int .i64 view, .slice A n c], .slice B m d, .bool o.isSome]) ∧
    l.length = n ∧ r.length = m ∧ w.heap.size ≤ mid ∧ mid ≤ w'.heap.size ∧ NodRow w' w.heap.size mid (.slice A n c) l ∧ w'.ownsRow mid 30 4 (.slice B m d) r.length (r.flatMap Cll.enc) ∧ Below w.heap.size w w'
theorem CallRes2.res {w w' : World} {o : Option ((Int × List Nod) × List Cll)} {e : Ending} (h : CallRes2 w o e w') : CallRes w o e w' := by
  obtain ⟨mid, v, A, n, c, l, B, m, d, r, h1, h2, h3, h4, h5, h6, h7, h8, h9⟩ := h
  exact ⟨v, A, n, c, l, B, m, d, r, h1, h2, h3, h4, h7.mono h6, ownsRow_base_a h8 h5, h9⟩
section
variable {w W W' : World} {r : List Cll} {B' : Option Addr} {m' d' : Nat} {o : Option ((Int × List Nod) × List Cll)}
theorem row_stored {w1 : World} {lo hi s : Nat} {l : List Nod} {cs : Array Value} {nv u v : Value} (hrow : NodRow w1 lo hi nv l) (hk : Blk w1 s cs 25) :
    NodRow ((w1.setCell ⟨s, 0, none⟩ u).setCell ⟨s, 1, none⟩ v) lo hi nv l := by
  have hb' : w1.heap[s]? = some (.cells cs 25 (0, 0)) := hk
  refine hrow.keepT (fun k ds t hq ht => ?_)
  have hne : k ≠ s := by
    rintro rfl
    have := blk_type hq hb'
    rcases ht with rfl | rfl <;> exact absurd this (by decide)
  rw [Below.heap_setCell _ _ _ _ hne, Below.heap_setCell _ _ _ _ hne]
theorem own_stored {lo s : Nat} {v a b : Value} {ds : Array Value} (h : W.ownsRow lo 30 4 v r.length (r.flatMap Cll.enc)) (hk : Blk W s ds 25) : ((W.setCell ⟨s, 0, none⟩ a).setCell ⟨s, 1, none⟩ b).ownsRow lo 30 4 v r.length (r.flatMap Cll.enc) := by
  have hne : v.ownBlock ≠ some s := fun e => by
    obtain ⟨cs, hcs⟩ := own_at h e
    have := blk_type hcs hk
    exact absurd this (by decide)
  exact ownsRow_setCell_other (ownsRow_setCell_other h (a := ⟨s, 0, none⟩) hne _) (a := ⟨s, 1, none⟩) hne _
theorem call_endM {mid : Nat} {A' : Option Addr} {n' c' : Nat} {l' : List Nod} {u : Int} (hk : Blk W (w.heap.size + 1 + 1) #[.int .i64 0, .slice none 0 0] 25) (hrow : NodRow W w.heap.size mid (.slice A' n' c') l')
    (h1 : w.heap.size ≤ mid) (h2 : mid ≤ W.heap.size) (hown : W.ownsRow mid 30 4 (.slice B' m' d') r.length (r.flatMap Cll.enc)) (hb : Below w.heap.size w W)
    (ho : ((u, l'), r) = o.getD ((0, []), [])) (hl : l'.length = n') (hm : r.length = m') :
    (((W.setCell ⟨w.heap.size + 1 + 1, 0, none⟩ (.int .i64 u)).setCell ⟨w.heap.size + 1 + 1, 1, none⟩ (.slice A' n' c')).cell? ⟨w.heap.size + 1 + 1, 0, none⟩ = some (.int .i64 u) ∧
     ((W.setCell ⟨w.heap.size + 1 + 1, 0, none⟩ (.int .i64 u)).setCell ⟨w.heap.size + 1 + 1, 1, none⟩ (.slice A' n' c')).cell? ⟨w.heap.size + 1 + 1, 1, none⟩ = some (.slice A' n' c')) ∧
    CallRes2 w o (.returned (.tuple #[.agg #[.int .i64 u, .slice A' n' c'], .slice B' m' d', .bool o.isSome])) ((W.setCell ⟨w.heap.size + 1 + 1, 0, none⟩ (.int .i64 u)).setCell ⟨w.heap.size + 1 + 1, 1, none⟩ (.slice A' n' c')) := by
  have hs : w.heap.size ≤ w.heap.size + 1 + 1 := by omega
  have h3 := res_two (a := .int .i64 u) (b := .slice A' n' c') hk hs hb
  exact ⟨h3.2.1, mid, u, A', n', c', l', B', m', d', r, ho, rfl, hl, hm, h1, by simpa [World.setCell] using h2, row_stored hrow hk, own_stored hown hk, h3.2.2⟩
theorem call_endN (hk : Blk W (w.heap.size + 1 + 1) #[.int .i64 0, .slice none 0 0] 25) (hcr : CR w W (.slice B' m' d') []) (hm : ([] : List Cll).length = m') :
    (((W.setCell ⟨w.heap.size + 1 + 1, 0, none⟩ (.int .i64 0)).setCell ⟨w.heap.size + 1 + 1, 1, none⟩ (.slice none 0 0)).cell? ⟨w.heap.size + 1 + 1, 0, none⟩ = some (.int .i64 0) ∧
     ((W.setCell ⟨w.heap.size + 1 + 1, 0, none⟩ (.int .i64 0)).setCell ⟨w.heap.size + 1 + 1, 1, none⟩ (.slice none 0 0)).cell? ⟨w.heap.size + 1 + 1, 1, none⟩ = some (.slice none 0 0)) ∧
    CallRes2 w none (.returned (.tuple #[.agg #[.int .i64 0, .slice none 0 0], .slice B' m' d', .bool (none : Option ((Int × List Nod) × List Cll)).isSome])) ((W.setCell ⟨w.heap.size + 1 + 1, 0, none⟩ (.int .i64 0)).setCell ⟨w.heap.size + 1 + 1, 1, none⟩ (.slice none 0 0)) :=
  call_endM (o := none) hk (NodRow.nil_ _ _ _) (Nat.le_refl _) hcr.size hcr.own hcr.bel rfl rfl hm
theorem call_endW {W0 : World} {lo : Nat} {A' : Option Addr} {n' c' : Nat} {l' : List Nod} {u : Int} (hk : Blk W (w.heap.size + 1 + 1) #[.int .i64 0, .slice none 0 0] 25) (hrow : NodRow W0 lo W0.heap.size (.slice A' n' c') l')
    (hlo : w.heap.size ≤ lo) (hb : Below w.heap.size w W0) (hcr : CR W0 W (.slice B' m' d') r)
    (ho : ((u, l'), r) = o.getD ((0, []), [])) (hl : l'.length = n') (hm : r.length = m') :
    (((W.setCell ⟨w.heap.size + 1 + 1, 0, none⟩ (.int .i64 u)).setCell ⟨w.heap.size + 1 + 1, 1, none⟩ (.slice A' n' c')).cell? ⟨w.heap.size + 1 + 1, 0, none⟩ = some (.int .i64 u) ∧
     ((W.setCell ⟨w.heap.size + 1 + 1, 0, none⟩ (.int .i64 u)).setCell ⟨w.heap.size + 1 + 1, 1, none⟩ (.slice A' n' c')).cell? ⟨w.heap.size + 1 + 1, 1, none⟩ = some (.slice A' n' c')) ∧
    CallRes2 w o (.returned (.tuple #[.agg #[.int .i64 u, .slice A' n' c'], .slice B' m' d', .bool o.isSome])) ((W.setCell ⟨w.heap.size + 1 + 1, 0, none⟩ (.int .i64 u)).setCell ⟨w.heap.size + 1 + 1, 1, none⟩ (.slice A' n' c')) :=
  call_endM hk ((hrow.lower hlo).below hcr.bel (Nat.le_refl _)) hb.size hcr.size hcr.own (hb.trans (hcr.bel.mono hb.size)) ho hl hm
end
end Go.Proofs.YtemgilofjbnoaaaGreatDoor
namespace Go.Proofs.YtemgilofjbnoaaaGreatDoor
open Go.RowKit
structure Var (w : World) (b : Nat) (view : Int) (A : Option Addr) (n c : Nat) (l : List Nod) : Prop where
  blk : Blk w b #[.int .i64 view, .slice A n c] 25
  nods : Nods w 0 w.heap.size A n c l
section
variable {w w' : World} {b : Nat} {view : Int} {A : Option Addr} {n c : Nat} {l : List Nod}
theorem Var.on (h : Var w b view A n c l) (hb : Below w.heap.size w w') : Var w' b view A n c l := ⟨h.blk.below hb, h.nods.on hb⟩
theorem Var.alloc (h : Var w b view A n c l) (o : Obj) : Var (w.alloc o) b view A n c l := ⟨h.blk.alloc o, h.nods.box o⟩
theorem Var.drew (h : Var w b view A n c l) : Var w.drew b view A n c l := ⟨h.blk.drew, h.nods.below (Below.refl w.heap.size w).drew (Nat.le_refl _)⟩
theorem Var.c0 (h : Var w b view A n c l) : w.cell? ⟨b, 0, none⟩ = some (.int .i64 view) := h.blk.cell rfl
theorem Var.c1 (h : Var w b view A n c l) : w.cell? ⟨b, 1, none⟩ = some (.slice A n c) := h.blk.cell rfl
theorem Var.lt (h : Var w b view A n c l) : b < w.heap.size := h.blk.lt
theorem Var.new (h : Nods w 0 w.heap.size A n c l) (view : Int) : Var (w.alloc (.cells #[.int .i64 view, .slice A n c] 25)) w.heap.size view A n c l := ⟨Blk.new w _ _, h.box _⟩
theorem Var.row {lo : Nat} (h : NodRow w lo w.heap.size (.slice A n c) l) (view : Int) : Var (w.alloc (.cells #[.int .i64 view, .slice A n c] 25)) w.heap.size view A n c l := Var.new (h.nods'.2.mono (Nat.zero_le _) (Nat.le_refl _)) view
end
def ChainYes (w : World) (view : Int) (l : List Nod) (e : Ending) (w' : World) : Prop :=
  ∃ (A : Option Addr) (n c : Nat), e = .returned (.tuple #[.agg #[.int .i64 view, .slice A n c], .bool true]) ∧ l.length = n ∧ Nods w' 0 w'.heap.size A n c l ∧ Below w.heap.size w w'
def ChainNot (w : World) (e : Ending) (w' : World) : Prop :=
  ∃ (A : Option Addr) (c : Nat), e = .returned (.tuple #[.agg #[.int .i64 0, .slice A 0 c], .bool false]) ∧ Nods w' 0 w'.heap.size A 0 c [] ∧ Below w.heap.size w w'
theorem ChainRes.not {w w' : World} {o : Option (Int × List Nod)} {e : Ending} (h : ChainRes w o e w') (ho : o = none) : ChainNot w e w' := by
  obtain ⟨v, A, n, c, l', e1, rfl, hl, hrow, hb⟩ := h
  subst ho
  injection e1 with e1 e2
  subst e1; subst e2
  have hl' : 0 = n := hl
  subst hl'
  exact ⟨A, c, rfl, hrow.nods'.2.mono (Nat.zero_le _) (Nat.le_refl _), hb⟩
theorem good_ok {v : Int} {l : List Nod} (h : Good v l) : l.length ≤ 5 ∧ ∀ x ∈ l, x.log.length ≤ 13 := ⟨h.2.2.2.1, fun x hx => by
  have := nodeOk_log' (h.2.2.2.2.1 x hx)
  unfold logOk at this; simp only [Bool.and_eq_true, decide_eq_true_eq] at this; omega⟩
def ChainAny (w : World) (e : Ending) (w' : World) : Prop :=
  ∃ (view : Int) (A : Option Addr) (n c : Nat) (l : List Nod) (b : Bool), e = .returned (.tuple #[.agg #[.int .i64 view, .slice A n c], .bool b]) ∧ l.length = n ∧ n ≤ 1048576 ∧ (∀ x ∈ l, x.log.length ≤ 1048576) ∧ Nods w' 0 w'.heap.size A n c l ∧ Below w.heap.size w w'
theorem ChainRes.any {w w' : World} {o : Option (Int × List Nod)} {e : Ending} (h : ChainRes w o e w') (ho : ∀ v l, o = some (v, l) → Good v l) : ChainAny w e w' := by
  obtain ⟨v, A, n, c, l, e1, rfl, hl, hrow, hb⟩ := h
  have key : l.length ≤ 5 ∧ ∀ x ∈ l, x.log.length ≤ 13 := by
    cases o with
    | none => injection e1 with e1 e2; subst e2; exact ⟨by simp, fun x hx => by cases hx⟩
    | some p =>
      obtain ⟨v', l'⟩ := p
      injection e1 with e1 e2
      subst e1; subst e2
      exact good_ok (ho _ _ rfl)
  exact ⟨v, A, n, c, l, o.isSome, rfl, hl, by omega, fun x hx => by have := key.2 x hx; omega, hrow.nods'.2.mono (Nat.zero_le _) (Nat.le_refl _), hb⟩
end Go.Proofs.YtemgilofjbnoaaaGreatDoor
namespace Go.Proofs.YtemgilofjbnoaaaGreatDoor
open Go Go.RowKit Go.Sort
set_option maxRecDepth 100000 in
set_option maxHeartbeats 16000000 in
theorem callRun_at (a : Addr) (view : Int) (A : Option Addr) (n c : Nat) (l : List Nod) (B : Option Addr) (m d : Nat) (cs : List Cll) (x : Cll) (w : World) (he : ErrAt a w) (h : Nods w 0 w.heap.size A n c l) (hf : Flat Cll.enc 4 w 0 w.heap.size B m d cs) (hn : n ≤ 1048576) (hlog : ∀ x ∈ l, x.log.length ≤ 1048576) (hm : m ≤ 1048576) :
    Calls Mo.prog 10 #[.agg #[.int .i64 view, .slice A n c], .slice B m d, .agg #[.int .i64 x.client, .int .i64 x.number, .int .i64 x.what.key, .int .i64 x.what.value]] w (CallRes2 w (callM view l cs x)) := by
  have S0 := Lib.hid (CS.start (view := view) (x := x) h hf)
  have HG := Lib.hid hlog
  have HE := Lib.hid he
  have HM := Lib.hid hf.len
  clear h hf he hlog
  obtain ⟨w0, hw0⟩ : ∃ w0 : World, ((w.alloc (.cells #[.int .i64 view, .slice A n c] 25)).alloc (.cells #[.int .i64 x.client, .int .i64 x.number, .int .i64 x.what.key, .int .i64 x.what.value] 30)).alloc (.cells #[.int .i64 0, .slice none 0 0] 25) = w0 := ⟨_, rfl⟩
  rw [hw0] at S0
  have hm : m ≤ 1048576 := by omega
  have hx3 : x.ok = cllOk x.client x.number x.what.key x.what.value := rfl
  have hb : True := trivial
  obtain ⟨a0, a1⟩ := S0.out.chain
  obtain ⟨x0, x1, x2, x3⟩ := S0.out.call
  cases h1 : chainOk view l
  · have HR := Lib.hid (callM_bad (v := view) (l := l) (cs := cs) (x := x) (by rw [h1]; rfl))
    go_enter Mo.func10, Tryz.ntmps10
    go_wp2_with fail
    refine (chainValid_any view A n c l _ S0.out.n hn HG.out).mono ?_
    rintro e w1 ⟨rfl, hb⟩
    rw [h1]
    have S1 := Lib.hid (S0.out.below hb)
    clear hb a0 a1 x0 x1 x2 x3
    obtain ⟨a0, a1⟩ := S1.out.chain
    obtain ⟨x0, x1, x2, x3⟩ := S1.out.call
    have K := (S1.out.alloc (.cells #[] 30)).k2
    have z0 := K.cell (i := 0) (v := .int .i64 0) rfl
    have z1 := K.cell (i := 1) (v := .slice none 0 0) rfl
    have y0 := K.free 0
    have y1 := K.free 1
    have FF := Lib.hid (call_endN K (CR.start S1.out.b) rfl)
    clear a0 a1 x0 x1 x2 x3
    clear K
    go_wp2
    exact bodyPost_ret (v := .tuple #[.agg #[.int .i64 0, .slice none 0 0], .slice (some ⟨w1.heap.size, 0, none⟩) 0 0, .bool false]) (by simp [results, Tryz.results10, go_sem, FF.out.1.1, FF.out.1.2]) rfl (by rw [HR.out]; have h9 := FF.out.2; (try simp only [World.size_alloc] at h9); exact h9)
  cases h2 : callsOk cs
  · have HR := Lib.hid (callM_bad (v := view) (l := l) (cs := cs) (x := x) (by rw [h1, h2]; rfl))
    go_enter Mo.func10, Tryz.ntmps10
    go_wp2_with fail
    refine (chainValid_any view A n c l _ S0.out.n hn HG.out).mono ?_
    rintro e w1 ⟨rfl, hb⟩
    rw [h1]
    have S1 := Lib.hid (S0.out.below hb)
    clear hb a0 a1 x0 x1 x2 x3
    obtain ⟨a0, a1⟩ := S1.out.chain
    obtain ⟨x0, x1, x2, x3⟩ := S1.out.call
    go_wp2_with fail
    refine (callsValid_any B m d cs _ S1.out.f hm).mono ?_
    rintro e w2 ⟨rfl, hb⟩
    rw [h2]
    have S2 := Lib.hid (S1.out.below hb)
    clear hb a0 a1 x0 x1 x2 x3
    obtain ⟨a0, a1⟩ := S2.out.chain
    obtain ⟨x0, x1, x2, x3⟩ := S2.out.call
    have K := (S2.out.alloc (.cells #[] 30)).k2
    have z0 := K.cell (i := 0) (v := .int .i64 0) rfl
    have z1 := K.cell (i := 1) (v := .slice none 0 0) rfl
    have y0 := K.free 0
    have y1 := K.free 1
    have FF := Lib.hid (call_endN K (CR.start S2.out.b) rfl)
    clear a0 a1 x0 x1 x2 x3
    clear K
    go_wp2
    exact bodyPost_ret (v := .tuple #[.agg #[.int .i64 0, .slice none 0 0], .slice (some ⟨w2.heap.size, 0, none⟩) 0 0, .bool false]) (by simp [results, Tryz.results10, go_sem, FF.out.1.1, FF.out.1.2]) rfl (by rw [HR.out]; have h9 := FF.out.2; (try simp only [World.size_alloc] at h9); exact h9)
  cases h3 : cllOk x.client x.number x.what.key x.what.value
  · have HR := Lib.hid (callM_bad (v := view) (l := l) (cs := cs) (x := x) (by rw [h1, h2, hx3, h3]; rfl))
    go_enter Mo.func10, Tryz.ntmps10
    go_wp2_with fail
    refine (chainValid_any view A n c l _ S0.out.n hn HG.out).mono ?_
    rintro e w1 ⟨rfl, hb⟩
    rw [h1]
    have S1 := Lib.hid (S0.out.below hb)
    clear hb a0 a1 x0 x1 x2 x3
    obtain ⟨a0, a1⟩ := S1.out.chain
    obtain ⟨x0, x1, x2, x3⟩ := S1.out.call
    go_wp2_with fail
    refine (callsValid_any B m d cs _ S1.out.f hm).mono ?_
    rintro e w2 ⟨rfl, hb⟩
    rw [h2]
    have S2 := Lib.hid (S1.out.below hb)
    clear hb a0 a1 x0 x1 x2 x3
    obtain ⟨a0, a1⟩ := S2.out.chain
    obtain ⟨x0, x1, x2, x3⟩ := S2.out.call
    go_wp2_with fail
    refine (callValid_any x.client x.number x.what.key x.what.value _).mono ?_
    rintro e w3 ⟨rfl, hb⟩
    rw [h3]
    have S3 := Lib.hid (S2.out.below hb)
    clear hb a0 a1 x0 x1 x2 x3
    obtain ⟨a0, a1⟩ := S3.out.chain
    obtain ⟨x0, x1, x2, x3⟩ := S3.out.call
    have K := (S3.out.alloc (.cells #[] 30)).k2
    have z0 := K.cell (i := 0) (v := .int .i64 0) rfl
    have z1 := K.cell (i := 1) (v := .slice none 0 0) rfl
    have y0 := K.free 0
    have y1 := K.free 1
    have FF := Lib.hid (call_endN K (CR.start S3.out.b) rfl)
    clear a0 a1 x0 x1 x2 x3
    clear K
    go_wp2
    exact bodyPost_ret (v := .tuple #[.agg #[.int .i64 0, .slice none 0 0], .slice (some ⟨w3.heap.size, 0, none⟩) 0 0, .bool false]) (by simp [results, Tryz.results10, go_sem, FF.out.1.1, FF.out.1.2]) rfl (by rw [HR.out]; have h9 := FF.out.2; (try simp only [World.size_alloc] at h9); exact h9)
  have HV := Lib.hid (show (chainOk view l && callsOk cs && x.ok) = true by rw [h1, h2, hx3, h3]; rfl)
  have HC2 := Lib.hid h2
  have law := Maps.int_keyed Mo.underlying3
  have hkey : keyOf Mo.prog 3 (.int .i64 x.client) = some (.int .i64 x.client) := Maps.keyOf_int_mk Mo.underlying3 (client_wf (by
    have := h3; simp [cllOk, callIn, inB] at this; omega))
  cases h4 : callsNew cs x.client x.number
  · have HR := Lib.hid (callM_old HV.out h4)
    go_enter Mo.func10, Tryz.ntmps10
    go_wp2_with fail
    refine (chainValid_any view A n c l _ S0.out.n hn HG.out).mono ?_
    rintro e w1 ⟨rfl, hb⟩
    rw [h1]
    have S1 := Lib.hid (S0.out.below hb)
    clear hb a0 a1 x0 x1 x2 x3
    obtain ⟨a0, a1⟩ := S1.out.chain
    obtain ⟨x0, x1, x2, x3⟩ := S1.out.call
    go_wp2_with fail
    refine (callsValid_any B m d cs _ S1.out.f hm).mono ?_
    rintro e w2 ⟨rfl, hb⟩
    rw [h2]
    have S2 := Lib.hid (S1.out.below hb)
    clear hb a0 a1 x0 x1 x2 x3
    obtain ⟨a0, a1⟩ := S2.out.chain
    obtain ⟨x0, x1, x2, x3⟩ := S2.out.call
    go_wp2_with fail
    refine (callValid_any x.client x.number x.what.key x.what.value _).mono ?_
    rintro e w3 ⟨rfl, hb⟩
    rw [h3]
    have S3 := Lib.hid (S2.out.below hb)
    clear hb a0 a1 x0 x1 x2 x3
    obtain ⟨a0, a1⟩ := S3.out.chain
    obtain ⟨x0, x1, x2, x3⟩ := S3.out.call
    go_wp2_with fail
    refine (byClient_any _ _ _ cs _ S3.out.f hm (callsOk_clients HC2.out)).mono ?_
    rintro e w4 ⟨b, rfl, hbb, hown, hb⟩
    have hb4 : w.heap.size ≤ b := Nat.le_trans S3.out.b.size hbb
    have O4 := Lib.hid hown
    have S4 := Lib.hid (S3.out.below hb)
    clear hown hbb
    clear hb a0 a1 x0 x1 x2 x3
    obtain ⟨a0, a1⟩ := S4.out.chain
    obtain ⟨x0, x1, x2, x3⟩ := S4.out.call
    go_wp2_with fail
    refine (callsNew_any _ _ _ cs x.client x.number _ S4.out.f hm).mono ?_
    rintro e w5 ⟨rfl, hb⟩
    rw [h4]
    have O5 := Lib.hid (map_below O4.out hb)
    have S5 := Lib.hid (S4.out.below hb)
    clear hb a0 a1 x0 x1 x2 x3
    obtain ⟨a0, a1⟩ := S5.out.chain
    obtain ⟨x0, x1, x2, x3⟩ := S5.out.call
    go_wp2_with fail
    refine (copyChain_any view A n c l _ S5.out.n hn HG.out).mono ?_
    rintro e w6 ⟨A2, n2, c2, rfl, hl2, hrow, hb⟩
    have O6 := Lib.hid (map_below O5.out hb)
    have S6 := Lib.hid (S5.out.below hb)
    have R6 := Lib.hid hrow
    have L2 := Lib.hid hl2
    clear hrow hl2
    clear hb a0 a1 x0 x1 x2 x3
    obtain ⟨a0, a1⟩ := S6.out.chain
    obtain ⟨x0, x1, x2, x3⟩ := S6.out.call
    go_wp2_with fail
    refine (callsInOrder_any b m cs _ O6.out (by have := HM.out; omega) (callsOk_clients HC2.out)).mono ?_
    rintro e w7 ⟨B3, m3, d3, r, rfl, hO, hm3, hcr⟩
    obtain rfl := order_same (callsOk_asc HC2.out) hO
    have K := S6.out.k2.below hcr.bel
    have z0 := K.cell (i := 0) (v := .int .i64 0) rfl
    have z1 := K.cell (i := 1) (v := .slice none 0 0) rfl
    have y0 := K.free 0
    have y1 := K.free 1
    have FF := Lib.hid (call_endW (u := view) (o := some ((view, l), r)) K R6.out S5.out.b.size S6.out.b hcr rfl L2.out hm3)
    clear K hcr hO hm3 hb a0 a1 x0 x1 x2 x3
    go_wp2
    exact bodyPost_ret (v := .tuple #[.agg #[.int .i64 view, .slice A2 n2 c2], .slice B3 m3 d3, .bool true]) (by simp [results, Tryz.results10, go_sem, FF.out.1.1, FF.out.1.2]) rfl (by rw [HR.out]; exact FF.out.2)
  cases hp : putM view l x.what with
  | none =>
    have HR := Lib.hid (callM_none HV.out h4 hp)
    go_enter Mo.func10, Tryz.ntmps10
    go_wp2_with fail
    refine (chainValid_any view A n c l _ S0.out.n hn HG.out).mono ?_
    rintro e w1 ⟨rfl, hb⟩
    rw [h1]
    have S1 := Lib.hid (S0.out.below hb)
    clear hb a0 a1 x0 x1 x2 x3
    obtain ⟨a0, a1⟩ := S1.out.chain
    obtain ⟨x0, x1, x2, x3⟩ := S1.out.call
    go_wp2_with fail
    refine (callsValid_any B m d cs _ S1.out.f hm).mono ?_
    rintro e w2 ⟨rfl, hb⟩
    rw [h2]
    have S2 := Lib.hid (S1.out.below hb)
    clear hb a0 a1 x0 x1 x2 x3
    obtain ⟨a0, a1⟩ := S2.out.chain
    obtain ⟨x0, x1, x2, x3⟩ := S2.out.call
    go_wp2_with fail
    refine (callValid_any x.client x.number x.what.key x.what.value _).mono ?_
    rintro e w3 ⟨rfl, hb⟩
    rw [h3]
    have S3 := Lib.hid (S2.out.below hb)
    clear hb a0 a1 x0 x1 x2 x3
    obtain ⟨a0, a1⟩ := S3.out.chain
    obtain ⟨x0, x1, x2, x3⟩ := S3.out.call
    go_wp2_with fail
    refine (byClient_any _ _ _ cs _ S3.out.f hm (callsOk_clients HC2.out)).mono ?_
    rintro e w4 ⟨b, rfl, hbb, hown, hb⟩
    have hb4 : w.heap.size ≤ b := Nat.le_trans S3.out.b.size hbb
    have O4 := Lib.hid hown
    have S4 := Lib.hid (S3.out.below hb)
    clear hown hbb
    clear hb a0 a1 x0 x1 x2 x3
    obtain ⟨a0, a1⟩ := S4.out.chain
    obtain ⟨x0, x1, x2, x3⟩ := S4.out.call
    go_wp2_with fail
    refine (callsNew_any _ _ _ cs x.client x.number _ S4.out.f hm).mono ?_
    rintro e w5 ⟨rfl, hb⟩
    rw [h4]
    have O5 := Lib.hid (map_below O4.out hb)
    have S5 := Lib.hid (S4.out.below hb)
    clear hb a0 a1 x0 x1 x2 x3
    obtain ⟨a0, a1⟩ := S5.out.chain
    obtain ⟨x0, x1, x2, x3⟩ := S5.out.call
    go_wp2_with fail
    refine (chainPut_any a view A n c l x.what _ (HE.out.below S5.out.b) S5.out.n hn HG.out).mono ?_
    rintro e w6 hq
    obtain ⟨A2, c2, rfl, hq2, hb⟩ := ChainRes.not (show ChainRes w5 (putM view l x.what) e w6 from hq) hp
    clear hq hq2
    have S6 := Lib.hid ((S5.out.below hb).alloc (.cells #[.int .i64 0, .slice A2 0 c2] 25))
    clear hb a0 a1 x0 x1 x2 x3
    obtain ⟨a0, a1⟩ := S6.out.chain
    obtain ⟨x0, x1, x2, x3⟩ := S6.out.call
    have K := (S6.out.alloc (.cells #[] 30)).k2
    have z0 := K.cell (i := 0) (v := .int .i64 0) rfl
    have z1 := K.cell (i := 1) (v := .slice none 0 0) rfl
    have y0 := K.free 0
    have y1 := K.free 1
    have FF := Lib.hid (call_endN K (CR.start S6.out.b) rfl)
    clear a0 a1 x0 x1 x2 x3
    clear K
    go_wp2
    exact bodyPost_ret (v := .tuple #[.agg #[.int .i64 0, .slice none 0 0], .slice (some ⟨w6.heap.size + 1, 0, none⟩) 0 0, .bool false]) (by simp [results, Tryz.results10, go_sem, FF.out.1.1, FF.out.1.2]) rfl (by rw [HR.out]; have h9 := FF.out.2; (try simp only [World.size_alloc] at h9); exact h9)
  | some p =>
    obtain ⟨v2, l2⟩ := p
    obtain ⟨N, hN⟩ : ∃ N, (putC cs x).length = N := ⟨_, rfl⟩
    have HN := Lib.hid hN
    by_cases h6 : N ≤ 6
    · have HR := Lib.hid ((callM_new HV.out h4 hp).trans (if_pos (by omega)))
      go_enter Mo.func10, Tryz.ntmps10
      go_wp2_with fail
      refine (chainValid_any view A n c l _ S0.out.n hn HG.out).mono ?_
      rintro e w1 ⟨rfl, hb⟩
      rw [h1]
      have S1 := Lib.hid (S0.out.below hb)
      clear hb a0 a1 x0 x1 x2 x3
      obtain ⟨a0, a1⟩ := S1.out.chain
      obtain ⟨x0, x1, x2, x3⟩ := S1.out.call
      go_wp2_with fail
      refine (callsValid_any B m d cs _ S1.out.f hm).mono ?_
      rintro e w2 ⟨rfl, hb⟩
      rw [h2]
      have S2 := Lib.hid (S1.out.below hb)
      clear hb a0 a1 x0 x1 x2 x3
      obtain ⟨a0, a1⟩ := S2.out.chain
      obtain ⟨x0, x1, x2, x3⟩ := S2.out.call
      go_wp2_with fail
      refine (callValid_any x.client x.number x.what.key x.what.value _).mono ?_
      rintro e w3 ⟨rfl, hb⟩
      rw [h3]
      have S3 := Lib.hid (S2.out.below hb)
      clear hb a0 a1 x0 x1 x2 x3
      obtain ⟨a0, a1⟩ := S3.out.chain
      obtain ⟨x0, x1, x2, x3⟩ := S3.out.call
      go_wp2_with fail
      refine (byClient_any _ _ _ cs _ S3.out.f hm (callsOk_clients HC2.out)).mono ?_
      rintro e w4 ⟨b, rfl, hbb, hown, hb⟩
      have hb4 : w.heap.size ≤ b := Nat.le_trans S3.out.b.size hbb
      have O4 := Lib.hid hown
      have S4 := Lib.hid (S3.out.below hb)
      clear hown hbb
      clear hb a0 a1 x0 x1 x2 x3
      obtain ⟨a0, a1⟩ := S4.out.chain
      obtain ⟨x0, x1, x2, x3⟩ := S4.out.call
      go_wp2_with fail
      refine (callsNew_any _ _ _ cs x.client x.number _ S4.out.f hm).mono ?_
      rintro e w5 ⟨rfl, hb⟩
      rw [h4]
      have O5 := Lib.hid (map_below O4.out hb)
      have S5 := Lib.hid (S4.out.below hb)
      clear hb a0 a1 x0 x1 x2 x3
      obtain ⟨a0, a1⟩ := S5.out.chain
      obtain ⟨x0, x1, x2, x3⟩ := S5.out.call
      go_wp2_with fail
      refine (chainPut_any a view A n c l x.what _ (HE.out.below S5.out.b) S5.out.n hn HG.out).mono ?_
      rintro e w6 ⟨v2', A2, n2, c2, l2', hv2, rfl, hl2, hrow, hb⟩
      rw [hp] at hv2
      injection hv2 with e1 e2
      subst e1; subst e2
      have O6 := Lib.hid ((map_below O5.out hb).alloc (.cells #[.int .i64 v2', .slice A2 n2 c2] 25))
      have S6 := Lib.hid ((S5.out.below hb).alloc (.cells #[.int .i64 v2', .slice A2 n2 c2] 25))
      have R6 := Lib.hid (hrow.carry S5.out.b.size ((Below.refl _ w6).alloc (Nat.le_refl _) (.cells #[.int .i64 v2', .slice A2 n2 c2] 25)))
      have T6 := Lib.hid (Blk.new w6 #[.int .i64 v2', .slice A2 n2 c2] 25)
      have L2 := Lib.hid hl2
      have hpt : (putM view l x.what).isSome = true := by rw [hp]; rfl
      clear hrow hl2
      clear hb a0 a1 x0 x1 x2 x3
      obtain ⟨a0, a1⟩ := S6.out.chain
      obtain ⟨x0, x1, x2, x3⟩ := S6.out.call
      have hsz7 := size_put_asc (callsOk_asc HC2.out) x
      rw [HN.out] at hsz7
      have HSZ := Lib.hid hsz7
      clear hsz7
      go_wp2_with (first | (at_mapUpdate; refine wpList_mapUpdate_own _ rfl _ _ _ 67 rfl 3 30 law Mo.underlying67 tok b m _ rfl O6.out (by unfold maxLen; omega) _ (cllV x) _ rfl rfl hkey _ [] rfl ?_; intro w7 hown7 hg7; have O7 := Lib.hid (show w7.ownsMap Mo.prog 3 tok b (m + 1) (byClient (cs ++ [x])) by rw [byClient_snoc]; exact hown7); obtain ⟨es6, ck6, hm6, _⟩ := O6.out; have R7 := Lib.hid (R6.out.mapped hm6 hg7); have T7 := Lib.hid (T6.out.mapped hm6 hg7); have K7 := Lib.hid (S6.out.k2.mapped hm6 hg7); have B7 := Lib.hid (S6.out.b.grown hg7 S6.out.b.size (fun g e => by injection e with e; omega)); clear hm6 hg7 hown7 hb a0 a1 x0 x1 x2 x3; have t0 := T7.out.cell (i := 0) (v := .int .i64 v2') rfl; have t1 := T7.out.cell (i := 1) (v := .slice A2 n2 c2) rfl; have K8 := Lib.hid (K7.out.alloc (.cells #[] 30)); have z0 := K8.out.cell (i := 0) (v := .int .i64 0) rfl; have z1 := K8.out.cell (i := 1) (v := .slice none 0 0) rfl; have y0 := K8.out.free 0; have y1 := K8.out.free 1) | (at_len; refine wpList_len_own _ rfl _ 67 rfl 3 30 Mo.underlying67 _ b (m + 1) _ rfl O7.out ?_; rw [HSZ.out]))
      clear z0 z1 y0 y1 K8
      have z0 := K7.out.cell (i := 0) (v := .int .i64 0) rfl
      have z1 := K7.out.cell (i := 1) (v := .slice none 0 0) rfl
      have y0 := K7.out.free 0
      have y1 := K7.out.free 1
      have hcl : clientsIn (cs ++ [x]) := fun y hy => by
        rcases List.mem_append.1 hy with h | h
        · exact callsOk_clients HC2.out y h
        · rw [List.mem_singleton] at h
          subst h
          have := h3; simp [cllOk, callIn, inB] at this; omega
      have hlen : (cs ++ [x]).length ≤ 1048576 := by have := ((callsOk_iff cs).1 HC2.out).1; simp; omega
      have OD := Lib.hid O7.out.drew
      have HI := Lib.hid (callsInOrder_any b (m + 1) (cs ++ [x]) _ OD.out hlen hcl)
      clear hlen hcl
      go_region_law ((first
        | (rw [if_pos (by rfl)]; go_simp; go_at_call 38; (with_reducible refine HI.out.mono ?_); rintro e w8 ⟨B3, m3, d3, r, rfl, hO, hm3, hcr⟩; have HB8 := Lib.hid hcr.bel
           have HCR := Lib.hid hcr; have HO8 := Lib.hid hO; have HM3 := Lib.hid hm3; have K9 := Lib.hid (K7.out.drew.below hcr.bel); have T9 := Lib.hid (T7.out.drew.below hcr.bel)
           have z5 := K9.out.cell (i := 0) (v := .int .i64 0) rfl; have z6 := K9.out.cell (i := 1) (v := .slice none 0 0) rfl; have y5 := K9.out.free 0; have y6 := K9.out.free 1; have t5 := T9.out.cell (i := 0) (v := .int .i64 v2') rfl; have t6 := T9.out.cell (i := 1) (v := .slice A2 n2 c2) rfl; clear hcr hO hm3)))
      all_goals
        obtain rfl := order_put (callsOk_asc HC2.out) HO8.out
        have FF := Lib.hid (call_endW (u := v2') (o := some ((v2', l2'), putC cs x)) K9.out (R7.out.carry (Nat.le_refl _) (Below.refl _ w7).drew) (Nat.le_refl _) B7.out.drew HCR.out rfl L2.out HM3.out)
        go_wp2
        exact bodyPost_ret (v := .tuple #[.agg #[.int .i64 v2', .slice A2 n2 c2], .slice B3 m3 d3, .bool true]) (by simp [results, Tryz.results10, go_sem, FF.out.1.1, FF.out.1.2]) rfl (by rw [HR.out]; exact FF.out.2)
    · have HR := Lib.hid ((callM_new HV.out h4 hp).trans (if_neg (by omega)))
      go_enter Mo.func10, Tryz.ntmps10
      go_wp2_with fail
      refine (chainValid_any view A n c l _ S0.out.n hn HG.out).mono ?_
      rintro e w1 ⟨rfl, hb⟩
      rw [h1]
      have S1 := Lib.hid (S0.out.below hb)
      clear hb a0 a1 x0 x1 x2 x3
      obtain ⟨a0, a1⟩ := S1.out.chain
      obtain ⟨x0, x1, x2, x3⟩ := S1.out.call
      go_wp2_with fail
      refine (callsValid_any B m d cs _ S1.out.f hm).mono ?_
      rintro e w2 ⟨rfl, hb⟩
      rw [h2]
      have S2 := Lib.hid (S1.out.below hb)
      clear hb a0 a1 x0 x1 x2 x3
      obtain ⟨a0, a1⟩ := S2.out.chain
      obtain ⟨x0, x1, x2, x3⟩ := S2.out.call
      go_wp2_with fail
      refine (callValid_any x.client x.number x.what.key x.what.value _).mono ?_
      rintro e w3 ⟨rfl, hb⟩
      rw [h3]
      have S3 := Lib.hid (S2.out.below hb)
      clear hb a0 a1 x0 x1 x2 x3
      obtain ⟨a0, a1⟩ := S3.out.chain
      obtain ⟨x0, x1, x2, x3⟩ := S3.out.call
      go_wp2_with fail
      refine (byClient_any _ _ _ cs _ S3.out.f hm (callsOk_clients HC2.out)).mono ?_
      rintro e w4 ⟨b, rfl, hbb, hown, hb⟩
      have hb4 : w.heap.size ≤ b := Nat.le_trans S3.out.b.size hbb
      have O4 := Lib.hid hown
      have S4 := Lib.hid (S3.out.below hb)
      clear hown hbb
      clear hb a0 a1 x0 x1 x2 x3
      obtain ⟨a0, a1⟩ := S4.out.chain
      obtain ⟨x0, x1, x2, x3⟩ := S4.out.call
      go_wp2_with fail
      refine (callsNew_any _ _ _ cs x.client x.number _ S4.out.f hm).mono ?_
      rintro e w5 ⟨rfl, hb⟩
      rw [h4]
      have O5 := Lib.hid (map_below O4.out hb)
      have S5 := Lib.hid (S4.out.below hb)
      clear hb a0 a1 x0 x1 x2 x3
      obtain ⟨a0, a1⟩ := S5.out.chain
      obtain ⟨x0, x1, x2, x3⟩ := S5.out.call
      go_wp2_with fail
      refine (chainPut_any a view A n c l x.what _ (HE.out.below S5.out.b) S5.out.n hn HG.out).mono ?_
      rintro e w6 ⟨v2', A2, n2, c2, l2', hv2, rfl, hl2, hrow, hb⟩
      rw [hp] at hv2
      injection hv2 with e1 e2
      subst e1; subst e2
      have O6 := Lib.hid ((map_below O5.out hb).alloc (.cells #[.int .i64 v2', .slice A2 n2 c2] 25))
      have S6 := Lib.hid ((S5.out.below hb).alloc (.cells #[.int .i64 v2', .slice A2 n2 c2] 25))
      have R6 := Lib.hid (hrow.carry S5.out.b.size ((Below.refl _ w6).alloc (Nat.le_refl _) (.cells #[.int .i64 v2', .slice A2 n2 c2] 25)))
      have T6 := Lib.hid (Blk.new w6 #[.int .i64 v2', .slice A2 n2 c2] 25)
      have L2 := Lib.hid hl2
      have hpt : (putM view l x.what).isSome = true := by rw [hp]; rfl
      clear hrow hl2
      clear hb a0 a1 x0 x1 x2 x3
      obtain ⟨a0, a1⟩ := S6.out.chain
      obtain ⟨x0, x1, x2, x3⟩ := S6.out.call
      have hsz7 := size_put_asc (callsOk_asc HC2.out) x
      rw [HN.out] at hsz7
      have HSZ := Lib.hid hsz7
      clear hsz7
      go_wp2_with (first | (at_mapUpdate; refine wpList_mapUpdate_own _ rfl _ _ _ 67 rfl 3 30 law Mo.underlying67 tok b m _ rfl O6.out (by unfold maxLen; omega) _ (cllV x) _ rfl rfl hkey _ [] rfl ?_; intro w7 hown7 hg7; have O7 := Lib.hid (show w7.ownsMap Mo.prog 3 tok b (m + 1) (byClient (cs ++ [x])) by rw [byClient_snoc]; exact hown7); obtain ⟨es6, ck6, hm6, _⟩ := O6.out; have R7 := Lib.hid (R6.out.mapped hm6 hg7); have T7 := Lib.hid (T6.out.mapped hm6 hg7); have K7 := Lib.hid (S6.out.k2.mapped hm6 hg7); have B7 := Lib.hid (S6.out.b.grown hg7 S6.out.b.size (fun g e => by injection e with e; omega)); clear hm6 hg7 hown7 hb a0 a1 x0 x1 x2 x3; have t0 := T7.out.cell (i := 0) (v := .int .i64 v2') rfl; have t1 := T7.out.cell (i := 1) (v := .slice A2 n2 c2) rfl; have K8 := Lib.hid (K7.out.alloc (.cells #[] 30)); have z0 := K8.out.cell (i := 0) (v := .int .i64 0) rfl; have z1 := K8.out.cell (i := 1) (v := .slice none 0 0) rfl; have y0 := K8.out.free 0; have y1 := K8.out.free 1) | (at_len; refine wpList_len_own _ rfl _ 67 rfl 3 30 Mo.underlying67 _ b (m + 1) _ rfl O7.out ?_; rw [HSZ.out]))
      have FF := Lib.hid (call_endN K8.out (CR.start B7.out) rfl)
      exact bodyPost_ret (v := .tuple #[.agg #[.int .i64 0, .slice none 0 0], .slice (some ⟨w7.heap.size, 0, none⟩) 0 0, .bool false]) (by simp [results, Tryz.results10, go_sem, FF.out.1.1, FF.out.1.2]) rfl (by rw [HR.out]; exact FF.out.2)
theorem callRun_any (a : Addr) (view : Int) (A : Option Addr) (n c : Nat) (l : List Nod) (B : Option Addr) (m d : Nat) (cs : List Cll) (x : Cll) (w : World) (he : ErrAt a w) (h : Nods w 0 w.heap.size A n c l) (hf : Flat Cll.enc 4 w 0 w.heap.size B m d cs) (hn : n ≤ 1048576) (hlog : ∀ x ∈ l, x.log.length ≤ 1048576) (hm : m ≤ 1048576) :
    Calls Mo.prog 10 #[.agg #[.int .i64 view, .slice A n c], .slice B m d, .agg #[.int .i64 x.client, .int .i64 x.number, .int .i64 x.what.key, .int .i64 x.what.value]] w (CallRes w (callM view l cs x)) :=
  (callRun_at a view A n c l B m d cs x w he h hf hn hlog hm).mono fun _ _ h => h.res
end Go.Proofs.YtemgilofjbnoaaaGreatDoor
