/- How many updates a new node must get: the plain function, the program's and the reference's walks. -/
import Derived.Test.YtagejkfeceeifaaChainW
namespace Go.Proofs.Ytagejkfeceeifaa
open Go.RowKit

def addCost (v : Int) (l : List Nod) : Int := if chainOk v l then (match l[l.length - 1]? with | some x => (x.log.length : Int) | none => 0) else -1
theorem chainOk_len {v : Int} {l : List Nod} (h : chainOk v l = true) : 1 ≤ l.length ∧ l.length ≤ 5 := by
  unfold chainOk at h; simp only [Bool.and_eq_true, decide_eq_true_eq] at h; exact ⟨h.1.1.1.2, h.1.1.2⟩
theorem addCost_ok {v : Int} {l : List Nod} {n : Nat} {x : Nod} (h : chainOk v l = true) (hl : l.length = n) (hx : l[n - 1]? = some x) : addCost v l = x.log.length := by
  unfold addCost; rw [h, hl, hx]; rfl

set_option maxHeartbeats 1000000 in
theorem addCost_any (view : Int) (A : Option Addr) (n c : Nat) (l : List Nod) (w : World) (h : Nods w 0 w.heap.size A n c l) (hn : n ≤ 1048576) (hlog : ∀ x ∈ l, x.log.length ≤ 1048576) :
    Calls Try.prog 18 #[.agg #[.int .i64 view, .slice A n c]] w fun e w' => e = .returned (.int .i64 (addCost view l)) ∧ Below w.heap.size w w' := by
  have HL := Lib.hid h.len
  have HG := Lib.hid hlog
  have H := Lib.hid (h.box (.cells #[.int .i64 view, .slice A n c] 29))
  have H1 := Lib.hid h
  clear h hlog
  cases hok : chainOk view l
  · have e0 : addCost view l = -1 := by simp [addCost, hok]
    rw [e0]; clear e0
    go_enter Try.func18, Try.ntmps18
    go_wp2_with (go_at_call 26; refine (chainValid_any _ _ _ _ l _ H.out hn HG.out).mono ?_; rintro e w1 ⟨rfl, hb1⟩; rw [hok]; have B1 := Lib.hid (below_box hb1); clear hb1)
    go_ret
    exact ⟨rfl, B1.out⟩
  have HO := Lib.hid hok
  have hpos : 0 < n := by have := chainOk_len hok; have := HL.out; omega
  clear hok
  go_enter Try.func18, Try.ntmps18
  go_wp2_with fail
  refine (chainValid_any _ _ _ _ l _ H.out hn HG.out).mono ?_
  rintro e w1 ⟨rfl, hb1⟩
  rw [HO.out]
  have B1 := Lib.hid (below_box hb1)
  have q0 := box_cell (i := 0) hb1 rfl
  have q1 := box_cell (i := 1) hb1 rfl
  have F1 := Lib.hid (H1.out.on B1.out)
  clear hb1
  go_wp2_with fail
  refine (tailOf_any _ _ _ _ l _ F1.out hn hpos).mono ?_
  rintro e w2 ⟨x, A', m, d, hx, rfl, hf, hb2⟩
  have hc := addCost_ok HO.out HL.out hx
  have hm := hf.len
  rw [hm] at hc
  have HC := Lib.hid hc
  have B2 := Lib.hid (B1.out.trans (hb2.mono B1.out.size))
  clear hb2 hx hf hc hm
  have nf := node_field1
  go_wp2
  go_ret
  exact ⟨ret_int HC.out.symm, B2.out⟩

set_option maxHeartbeats 1000000 in
theorem specAddCost_any (view : Int) (A : Option Addr) (n c : Nat) (l : List Nod) (w : World) (h : Nods w 0 w.heap.size A n c l) (hn : n ≤ 1048576) (hlog : ∀ x ∈ l, x.log.length ≤ 1048576) :
    Calls Try.prog 16 #[.agg #[.int .i64 view, .slice A n c]] w fun e w' => e = .returned (.int .i64 (addCost view l)) ∧ Below w.heap.size w w' := by
  have HL := Lib.hid h.len
  have HG := Lib.hid hlog
  have H := Lib.hid (h.box (.cells #[.int .i64 view, .slice A n c] 29))
  have H1 := Lib.hid h
  clear h hlog
  cases hok : chainOk view l
  · have e0 : addCost view l = -1 := by simp [addCost, hok]
    rw [e0]; clear e0
    go_enter Try.func16, Try.ntmps16
    go_wp2_with (go_at_call 32; refine (specChainValid_any _ _ _ _ l _ H.out hn HG.out).mono ?_; rintro e w1 ⟨rfl, hb1⟩; rw [hok]; have B1 := Lib.hid (below_box hb1); clear hb1)
    go_ret
    exact ⟨rfl, B1.out⟩
  have HO := Lib.hid hok
  have hpos : 0 < n := by have := chainOk_len hok; have := HL.out; omega
  have hpos' : (1 : Int) ≤ (n : Int) := by omega
  clear hok
  go_enter Try.func16, Try.ntmps16
  go_wp2_with fail
  refine (specChainValid_any _ _ _ _ l _ H.out hn HG.out).mono ?_
  rintro e w1 ⟨rfl, hb1⟩
  rw [HO.out]
  have B1 := Lib.hid (below_box hb1)
  have q0 := box_cell (i := 0) hb1 rfl
  have q1 := box_cell (i := 1) hb1 rfl
  obtain ⟨b, off, x, A', m, d, rfl, _, hbB, hx, c0, c1, c2, hf⟩ := (H1.out.on B1.out).nod (show n - 1 < n by omega)
  have hc := addCost_ok HO.out HL.out hx
  have hm := hf.len
  rw [hm] at hc
  have HC := Lib.hid hc
  clear hb1 hx hf hc hm
  go_wp2
  go_ret
  exact ⟨ret_int HC.out.symm, B1.out⟩
end Go.Proofs.Ytagejkfeceeifaa
