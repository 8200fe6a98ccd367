/- A map from clients to calls: what the program's callsByClient makes, and what a look-up in it gives. -/
import Derived.Maps.Own
import Derived.Maps.Views
import Derived.Carry
import Derived.Test.YtfdhgahhcnipjaaCallsB
namespace Go.Proofs.Ytfdhgahhcnipjaa
open Go.RowKit

/-- an element reads as itself -/
def tok (v : Value) : Option (DataW Value × List MemPlace) := some (.held v, [])
def cllV (x : Cll) : Value := .agg #[.int .i64 x.client, .int .i64 x.number, .int .i64 x.what.key, .int .i64 x.what.value]
def byClient (l : List Cll) : DataW Value := l.foldl (fun D x => D.put (.int .i64 x.client) (.held (cllV x))) (.map [])
theorem byClient_snoc (l : List Cll) (x : Cll) : byClient (l ++ [x]) = (byClient l).put (.int .i64 x.client) (.held (cllV x)) := by unfold byClient; rw [List.foldl_append]; rfl
theorem zeroCall (w : World) : (zeroValue 48).run Try.prog w = .ok (.agg #[.int .i64 0, .int .i64 0, .int .i64 0, .int .i64 0]) w := by kernel_rfl
def clientsIn (l : List Cll) : Prop := ∀ x ∈ l, 0 ≤ x.client ∧ x.client ≤ 99
theorem client_wf {a : Int} (h : 0 ≤ a ∧ a ≤ 99) : (Lit.int .i64 a).wf = true := by
  have h1 : IntKind.i64.min = -9223372036854775808 := by decide
  have h2 : IntKind.i64.max = 9223372036854775807 := by decide
  simp [Lit.wf, h1, h2]; omega

theorem run_makeMap_hint (n : Int) (w : World) : (Instr.makeMap 73 (some (.int .i64 n))).run Try.prog w = .ok (.map (some w.heap.size)) (w.alloc (.map #[] 0)) := by
  have hu : (underlying 73).run Try.prog w = .ok (.map 3 48) w := run_underlying Try.underlying73 w
  simp [Instr.makeMap, hu]
  rfl
set_option maxHeartbeats 1000000 in
theorem byClient_any (A : Option Addr) (m c : Nat) (l : List Cll) (w : World) (h : Flat Cll.enc 4 w 0 w.heap.size A m c l) (hm : m ≤ 1048576) (hc : clientsIn l) :
    Calls Try.prog 51 #[.slice A m c] w fun e w' => ∃ b, e = .returned (.map (some b)) ∧ w.heap.size ≤ b ∧ w'.ownsMap Try.prog 3 tok b m (byClient l) ∧ Below w.heap.size w w' := by
  have H := Lib.hid h
  have HL := Lib.hid h.len
  have HC := Lib.hid hc
  clear h hc
  have hmm := run_makeMap_hint
  have law   := Maps.int_keyed Try.underlying3
  go_enter Try.func51, Try.ntmps51
  go_wp2
  clear hmm
  go_loopw [12] (fun i wr => ∃ k : Nat, k ≤ m ∧ i = .int .i64 k ∧ wr.ownsMap Try.prog 3 tok w.heap.size k (byClient (l.take k)) ∧ Below w.heap.size w wr)
    (fun i _ => m - (intOf i).toNat)
  case atStart => exact ⟨0, Nat.zero_le _, rfl, World.ownsMap_made _ _ _ _, (Below.refl _ _).alloc (Nat.le_refl _) _⟩
  case round =>
    obtain ⟨k, hk, rfl, hown, hB⟩ := hrel
    have HW := Lib.hid (H.out.below hB (Nat.le_refl _))
    have HO := Lib.hid hown
    have HB := Lib.hid hB
    have hsz := hB.size
    have hbl := hown.lt
    clear hB hown H
    by_cases hlt : k < m
    · obtain ⟨b, off, x, rfl, _, hbB, hx, c0, c1, c2, c3⟩ := HW.out.cll hlt
      have HX := Lib.hid hx
      have hkey : keyOf Try.prog 3 (.int .i64 x.client) = some (.int .i64 x.client) := Maps.keyOf_int_mk Try.underlying3 (client_wf (HC.out x (List.mem_of_getElem? hx)))
      have O2 := HO.out.alloc (.cells #[.int .i64 x.client, .int .i64 x.number, .int .i64 x.what.key, .int .i64 x.what.value] 48)
      clear hx
      go_wp2_with (at_mapUpdate; refine wpList_mapUpdate_own _ rfl _ _ _ 73 rfl 3 48 law Try.underlying73 tok w.heap.size k _ rfl O2 (by unfold maxLen; omega) _ (cllV x) _ rfl rfl hkey _ [] rfl ?_; intro w3 hown3 hg3)
      go_roundw
      case rel =>
        refine ⟨k + 1, by omega, by go_num, ?_, (HB.out.alloc hsz _).grown hg3 (by simp; omega) (fun g e => by injection e with e; omega)⟩
        have hk1 := (List.getElem?_eq_some_iff.1 HX.out).1
        rw [List.take_succ_eq_append_getElem hk1, byClient_snoc]
        have e1 : l[k] = x := by have := HX.out; rw [List.getElem?_eq_getElem hk1] at this; injection this
        rw [e1]; exact hown3
      case measure => simp [intOf]; omega
    · obtain rfl : m = k := by omega
      have ht : l.take m = l := List.take_of_length_le (by have := HL.out; omega)
      rw [ht] at HO
      clear ht
      go_wp2
      go_ret
      exact ⟨w.heap.size, rfl, Nat.le_refl _, HO.out, HB.out⟩

/-- what a look-up gives -/
def lastOf (l : List Cll) (c : Int) : Option Cll := l.reverse.find? (fun x => decide (x.client = c))
theorem lastOf_snoc (l : List Cll) (x : Cll) (c : Int) : lastOf (l ++ [x]) c = if x.client = c then some x else lastOf l c := by
  unfold lastOf
  rw [List.reverse_append, List.reverse_singleton, List.singleton_append, List.find?_cons]
  by_cases h : x.client = c <;> simp [h]
theorem snoc_ind {α : Type} {P : List α → Prop} (h0 : P []) (h1 : ∀ l x, P l → P (l ++ [x])) (l : List α) : P l := by
  have : P l.reverse.reverse := by
    induction l.reverse with
    | nil => exact h0
    | cons x l ih => rw [List.reverse_cons]; exact h1 _ _ ih
  simpa using this
theorem byClient_isMap (l : List Cll) : Maps.IsMap (byClient l) := by
  refine snoc_ind (P := fun l => Maps.IsMap (byClient l)) Maps.isMap_empty (fun l x ih => ?_) l
  rw [byClient_snoc]; exact ih.put _ _
theorem byClient_at (l : List Cll) (c : Int) (z : DataW Value) : (byClient l).atKey (.int .i64 c) z = match lastOf l c with | none => z | some x => .held (cllV x) := by
  refine snoc_ind (P := fun l => (byClient l).atKey (.int .i64 c) z = match lastOf l c with | none => z | some x => .held (cllV x)) rfl (fun l x ih => ?_) l
  rw [byClient_snoc, lastOf_snoc]
  by_cases h : x.client = c
  · rw [if_pos h, h]
    exact Maps.atKey_put_same (byClient_isMap l) (show WideAt.IsKeyLit (.int .i64 c) from trivial) _ _
  · rw [if_neg h, Maps.atKey_put_other (by intro e; injection e with _ e; exact h e.symm)]
    exact ih
theorem look_call {w : World} {b m : Nat} {l : List Cll} {c : Int} (h : w.ownsMap Try.prog 3 tok b m (byClient l)) (hc : 0 ≤ c ∧ c ≤ 99) :
    (Instr.lookup 73 (.map (some b)) (.int .i64 c) true).run Try.prog w = .ok (match lastOf l c with
      | none => .tuple #[.agg #[.int .i64 0, .int .i64 0, .int .i64 0, .int .i64 0], .bool false]
      | some x => .tuple #[cllV x, .bool true]) w := by
  obtain ⟨es, clock, hb, F, _, hD⟩ := h
  have hkey : keyOf Try.prog 3 (.int .i64 c) = some (.int .i64 c) := Maps.keyOf_int_mk Try.underlying3 (client_wf hc)
  rcases Maps.fit_look true (Maps.int_keyed Try.underlying3) Try.underlying73 (zeroCall w) hb F hkey with ⟨hrun, _, hat⟩ | ⟨e0, y, _, _, hrun, hRv, hat, _⟩
  · rw [hrun]
    have e := hat (.nil)
    rw [← hD, byClient_at] at e
    cases hl : lastOf l c with
    | none => rfl
    | some x => rw [hl] at e; cases e
  · rw [hrun]
    have e := hat (.nil)
    rw [← hD, byClient_at] at e
    cases hl : lastOf l c with
    | none =>
      rw [hl] at e
      unfold tok at hRv
      injection hRv with hRv
      rw [← hRv] at e; cases e
    | some x =>
      rw [hl] at e
      unfold tok at hRv
      injection hRv with hRv
      rw [← hRv] at e
      injection e with e
      rw [← e]; rfl
end Go.Proofs.Ytfdhgahhcnipjaa
