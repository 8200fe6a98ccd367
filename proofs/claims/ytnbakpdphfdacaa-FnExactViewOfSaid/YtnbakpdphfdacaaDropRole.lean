/- The role of a node: the plain function, the program's and the reference's walks. -/
import Derived.Test.YtnbakpdphfdacaaChainW
import Derived.Test.YtnbakpdphfdacaaAddCost
namespace Go.Proofs.Ytnbakpdphfdacaa
open Go.RowKit Go.Sort

def roleOf (at_ many : Int) : Int := if at_ < 0 ∨ many ≤ at_ then 0 else if many = 1 then 4 else if at_ = 0 then 1 else if at_ = many - 1 then 3 else 2
def dropRole (v : Int) (l : List Nod) (id : Int) : Int := if chainOk v l then roleOf (placeI (placeOf l id)) l.length else 0
theorem placeI_lt {l : List Nod} {id : Int} : placeI (placeOf l id) < l.length ∨ l.length = 0 := by
  cases h : placeOf l id with
  | none => unfold placeI; simp; omega
  | some k => have := placeOf_lt h; left; simp [placeI]; exact this

/-- the roles as they are handed on: none, alone, head, tail, middle -/
def roleVal (r : Int) : Value :=
  if r = 0 then .nilIface else if r = 4 then .iface 127 (.agg #[]) else if r = 1 then .iface 124 (.agg #[]) else if r = 3 then .iface 126 (.agg #[]) else .iface 125 (.agg #[])

set_option maxHeartbeats 1000000 in
theorem roleAt_any (a m : Int) (w : World) (ha : -1 ≤ a) (hm : m ≤ 1048576) (hm0 : 0 ≤ m) :
    Calls Try.prog 91 #[.int .i64 a, .int .i64 m] w fun e w' => e = .returned (roleVal (roleOf a m)) ∧ Below w.heap.size w w' := by
  by_cases h0 : a < 0
  · have e0 : roleOf a m = 0 := by simp [roleOf, h0]
    rw [e0]; clear e0
    go_enter Try.func91, Try.ntmps91
    go_wp2
    go_ret
    exact ⟨rfl, Below.refl _ _⟩
  by_cases h1 : m ≤ a
  · have e0 : roleOf a m = 0 := by simp [roleOf, h1]
    rw [e0]; clear e0
    go_enter Try.func91, Try.ntmps91
    go_wp2
    go_ret
    exact ⟨rfl, Below.refl _ _⟩
  by_cases h2 : m = 1
  · have e0 : roleOf a m = 4 := by unfold roleOf; rw [if_neg (by omega), if_pos h2]
    rw [e0]; clear e0
    subst h2
    go_enter Try.func91, Try.ntmps91
    go_wp2
    go_ret
    exact ⟨rfl, Below.refl _ _⟩
  have k2 : (m == 1) = false := by simp [h2]
  by_cases h3 : a = 0
  · have e0 : roleOf a m = 1 := by unfold roleOf; rw [if_neg (by omega), if_neg h2, if_pos h3]
    rw [e0]; clear e0
    subst h3
    go_enter Try.func91, Try.ntmps91
    go_wp2
    go_ret
    exact ⟨rfl, Below.refl _ _⟩
  have k3 : (a == 0) = false := by simp [h3]
  by_cases h4 : a = m - 1
  · have e0 : roleOf a m = 3 := by unfold roleOf; rw [if_neg (by omega), if_neg h2, if_neg h3, if_pos h4]
    rw [e0]; clear e0
    have k4 : (a == m - 1) = true := by simp [h4]
    clear h4
    go_enter Try.func91, Try.ntmps91
    go_wp2
    go_ret
    exact ⟨rfl, Below.refl _ _⟩
  · have e0 : roleOf a m = 2 := by unfold roleOf; rw [if_neg (by omega), if_neg h2, if_neg h3, if_neg h4]
    rw [e0]; clear e0
    have k4 : (a == m - 1) = false := by simp [h4]
    clear h4
    go_enter Try.func91, Try.ntmps91
    go_wp2
    go_ret
    exact ⟨rfl, Below.refl _ _⟩

theorem roleOf_cases (a m : Int) : roleOf a m = 0 ∨ roleOf a m = 1 ∨ roleOf a m = 2 ∨ roleOf a m = 3 ∨ roleOf a m = 4 := by
  unfold roleOf
  split
  · exact .inl rfl
  · split
    · exact .inr (.inr (.inr (.inr rfl)))
    · split
      · exact .inr (.inl rfl)
      · split
        · exact .inr (.inr (.inr (.inl rfl)))
        · exact .inr (.inr (.inl rfl))

theorem asNil_headRole (w : World) : (Instr.typeAssert .nilIface 108 124 true).run Try.prog w = .ok (.tuple #[.agg #[], .bool false]) w := by kernel_rfl
theorem as_headRole_headRole (w : World) : (Instr.typeAssert (.iface 124 (.agg #[])) 108 124 true).run Try.prog w = .ok (.tuple #[.agg #[], .bool true]) w := by kernel_rfl
theorem as_middleRole_headRole (w : World) : (Instr.typeAssert (.iface 125 (.agg #[])) 108 124 true).run Try.prog w = .ok (.tuple #[.agg #[], .bool false]) w := by kernel_rfl
theorem as_tailRole_headRole (w : World) : (Instr.typeAssert (.iface 126 (.agg #[])) 108 124 true).run Try.prog w = .ok (.tuple #[.agg #[], .bool false]) w := by kernel_rfl
theorem as_aloneRole_headRole (w : World) : (Instr.typeAssert (.iface 127 (.agg #[])) 108 124 true).run Try.prog w = .ok (.tuple #[.agg #[], .bool false]) w := by kernel_rfl
theorem asNil_middleRole (w : World) : (Instr.typeAssert .nilIface 108 125 true).run Try.prog w = .ok (.tuple #[.agg #[], .bool false]) w := by kernel_rfl
theorem as_headRole_middleRole (w : World) : (Instr.typeAssert (.iface 124 (.agg #[])) 108 125 true).run Try.prog w = .ok (.tuple #[.agg #[], .bool false]) w := by kernel_rfl
theorem as_middleRole_middleRole (w : World) : (Instr.typeAssert (.iface 125 (.agg #[])) 108 125 true).run Try.prog w = .ok (.tuple #[.agg #[], .bool true]) w := by kernel_rfl
theorem as_tailRole_middleRole (w : World) : (Instr.typeAssert (.iface 126 (.agg #[])) 108 125 true).run Try.prog w = .ok (.tuple #[.agg #[], .bool false]) w := by kernel_rfl
theorem as_aloneRole_middleRole (w : World) : (Instr.typeAssert (.iface 127 (.agg #[])) 108 125 true).run Try.prog w = .ok (.tuple #[.agg #[], .bool false]) w := by kernel_rfl
theorem asNil_tailRole (w : World) : (Instr.typeAssert .nilIface 108 126 true).run Try.prog w = .ok (.tuple #[.agg #[], .bool false]) w := by kernel_rfl
theorem as_headRole_tailRole (w : World) : (Instr.typeAssert (.iface 124 (.agg #[])) 108 126 true).run Try.prog w = .ok (.tuple #[.agg #[], .bool false]) w := by kernel_rfl
theorem as_middleRole_tailRole (w : World) : (Instr.typeAssert (.iface 125 (.agg #[])) 108 126 true).run Try.prog w = .ok (.tuple #[.agg #[], .bool false]) w := by kernel_rfl
theorem as_tailRole_tailRole (w : World) : (Instr.typeAssert (.iface 126 (.agg #[])) 108 126 true).run Try.prog w = .ok (.tuple #[.agg #[], .bool true]) w := by kernel_rfl
theorem as_aloneRole_tailRole (w : World) : (Instr.typeAssert (.iface 127 (.agg #[])) 108 126 true).run Try.prog w = .ok (.tuple #[.agg #[], .bool false]) w := by kernel_rfl
theorem asNil_aloneRole (w : World) : (Instr.typeAssert .nilIface 108 127 true).run Try.prog w = .ok (.tuple #[.agg #[], .bool false]) w := by kernel_rfl
theorem as_headRole_aloneRole (w : World) : (Instr.typeAssert (.iface 124 (.agg #[])) 108 127 true).run Try.prog w = .ok (.tuple #[.agg #[], .bool false]) w := by kernel_rfl
theorem as_middleRole_aloneRole (w : World) : (Instr.typeAssert (.iface 125 (.agg #[])) 108 127 true).run Try.prog w = .ok (.tuple #[.agg #[], .bool false]) w := by kernel_rfl
theorem as_tailRole_aloneRole (w : World) : (Instr.typeAssert (.iface 126 (.agg #[])) 108 127 true).run Try.prog w = .ok (.tuple #[.agg #[], .bool false]) w := by kernel_rfl
theorem as_aloneRole_aloneRole (w : World) : (Instr.typeAssert (.iface 127 (.agg #[])) 108 127 true).run Try.prog w = .ok (.tuple #[.agg #[], .bool true]) w := by kernel_rfl

set_option maxHeartbeats 1000000 in
theorem roleNumber_any (r : Int) (w : World) (h : r = 0 ∨ r = 1 ∨ r = 2 ∨ r = 3 ∨ r = 4) :
    Calls Try.prog 90 #[roleVal r] w fun e w' => e = .returned (.int .i64 r) ∧ Below w.heap.size w w' := by
  rcases h with rfl | rfl | rfl | rfl | rfl
  · rw [show roleVal 0 = .nilIface from rfl]
    have t0 := asNil_headRole
    have t1 := asNil_middleRole
    have t2 := asNil_tailRole
    have t3 := asNil_aloneRole
    go_enter Try.func90, Try.ntmps90
    go_wp2
    go_ret
    exact ⟨rfl, Below.refl _ _⟩
  · rw [show roleVal 1 = .iface 124 (.agg #[]) from rfl]
    have t0 := as_headRole_headRole
    go_enter Try.func90, Try.ntmps90
    go_wp2
    go_ret
    exact ⟨rfl, Below.refl _ _⟩
  · rw [show roleVal 2 = .iface 125 (.agg #[]) from rfl]
    have t0 := as_middleRole_headRole
    have t1 := as_middleRole_middleRole
    go_enter Try.func90, Try.ntmps90
    go_wp2
    go_ret
    exact ⟨rfl, Below.refl _ _⟩
  · rw [show roleVal 3 = .iface 126 (.agg #[]) from rfl]
    have t0 := as_tailRole_headRole
    have t1 := as_tailRole_middleRole
    have t2 := as_tailRole_tailRole
    go_enter Try.func90, Try.ntmps90
    go_wp2
    go_ret
    exact ⟨rfl, Below.refl _ _⟩
  · rw [show roleVal 4 = .iface 127 (.agg #[]) from rfl]
    have t0 := as_aloneRole_headRole
    have t1 := as_aloneRole_middleRole
    have t2 := as_aloneRole_tailRole
    have t3 := as_aloneRole_aloneRole
    go_enter Try.func90, Try.ntmps90
    go_wp2
    go_ret
    exact ⟨rfl, Below.refl _ _⟩

theorem roleOf4 {a m : Int} (h0 : ¬ a < 0) (h1 : a < m) (h2 : m = 1) : roleOf a m = 4 := by unfold roleOf; rw [if_neg (by omega), if_pos h2]
theorem roleOf1 {a m : Int} (_ : ¬ a < 0) (h1 : a < m) (h2 : m ≠ 1) (h3 : a = 0) : roleOf a m = 1 := by unfold roleOf; rw [if_neg (by omega), if_neg h2, if_pos h3]
theorem roleOf3 {a m : Int} (h0 : ¬ a < 0) (_ : a < m) (h2 : m ≠ 1) (h3 : a ≠ 0) (h4 : a + 1 = m) : roleOf a m = 3 := by unfold roleOf; rw [if_neg (by omega), if_neg h2, if_neg h3, if_pos (by omega)]
theorem roleOf2 {a m : Int} (h0 : ¬ a < 0) (h1 : a < m) (h2 : m ≠ 1) (h3 : a ≠ 0) (h4 : a + 1 ≠ m) : roleOf a m = 2 := by unfold roleOf; rw [if_neg (by omega), if_neg h2, if_neg h3, if_neg (by omega)]
theorem dropRole_ok {v : Int} {l : List Nod} {id : Int} {n : Nat} (h : chainOk v l = true) (hl : l.length = n) : dropRole v l id = roleOf (placeI (placeOf l id)) n := by
  unfold dropRole; rw [h, hl]; rfl
theorem placeI_ge (p : Option Nat) : -1 ≤ placeI p := by cases p <;> simp [placeI] <;> omega

set_option maxHeartbeats 2000000 in
theorem dropRole_any (view : Int) (A : Option Addr) (n c : Nat) (l : List Nod) (id : Int) (w : World) (h : Nods w 0 w.heap.size A n c l) (hn : n ≤ 1048576) (hlog : ∀ x ∈ l, x.log.length ≤ 1048576) :
    Calls Try.prog 56 #[.agg #[.int .i64 view, .slice A n c], .int .i64 id] w fun e w' => e = .returned (.int .i64 (dropRole view l id)) ∧ Below w.heap.size w w' := by
  have HL := Lib.hid h.len
  have HG := Lib.hid hlog
  have H := Lib.hid (h.box (.cells #[.int .i64 view, .slice A n c] 33))
  have H1 := Lib.hid h
  clear h hlog
  cases hok : chainOk view l
  · have e0 : dropRole view l id = 0 := by simp [dropRole, hok]
    rw [e0]; clear e0
    go_enter Try.func56, Try.ntmps56
    go_wp2_with (go_at_call 49; refine (chainValid_any _ _ _ _ l _ H.out hn HG.out).mono ?_; rintro e w1 ⟨rfl, hb1⟩; rw [hok]; have B1 := Lib.hid (below_box hb1); clear hb1)
    go_ret
    exact ⟨rfl, B1.out⟩
  have HO := Lib.hid hok
  have hd := dropRole_ok (id := id) hok HL.out
  obtain ⟨pl, hpl⟩ : ∃ pl, placeI (placeOf l id) = pl := ⟨_, rfl⟩
  have hge : -1 ≤ pl := by rw [← hpl]; exact placeI_ge _
  rw [hpl] at hd
  obtain ⟨r, hr⟩ : ∃ r, roleOf pl n = r := ⟨_, rfl⟩
  have hr5 := roleOf_cases pl n
  rw [hr] at hd hr5
  rw [hd]
  have HPL := Lib.hid hpl
  have HR := Lib.hid hr
  have HR5 := Lib.hid hr5
  clear hok hd hpl hr hr5
  go_enter Try.func56, Try.ntmps56
  go_wp2_with fail
  refine (chainValid_any _ _ _ _ l _ H.out hn HG.out).mono ?_
  rintro e w1 ⟨rfl, hb1⟩
  rw [HO.out]
  have B1 := Lib.hid (below_box hb1)
  have q0 := box_cell (i := 0) hb1 rfl
  have q1 := box_cell (i := 1) hb1 rfl
  have d0 := cell_regrown (v := .int .i64 view) q0
  have d1 := cell_regrown (v := .slice A n c) q1
  have HC := Lib.hid (show ∀ (q : Nat) (os : Array Obj), Calls Try.prog 60 #[.agg #[.int .i64 view, .slice A n c], .int .i64 id] (grow (redrawn w1 q) os) fun e w' => e = .returned (.int .i64 pl) ∧ Below (grow (redrawn w1 q) os).heap.size (grow (redrawn w1 q) os) w' from fun q os => by
    have hc := chainPlace_any view A n c l id (grow (redrawn w1 q) os) ((H1.out.on B1.out).on (below_regrown _ _ _)) hn
    rwa [HPL.out] at hc)
  have HD := Lib.hid (show ∀ (q : Nat) (os : Array Obj), Calls Try.prog 91 #[.int .i64 pl, .int .i64 n] (grow (redrawn w1 q) os) fun e w' => e = .returned (roleVal r) ∧ Below (grow (redrawn w1 q) os).heap.size (grow (redrawn w1 q) os) w' from fun q os => by
    have hc := roleAt_any pl n (grow (redrawn w1 q) os) hge (by omega) (by omega)
    rwa [HR.out] at hc)
  have HE := Lib.hid (show ∀ (q : Nat) (os : Array Obj), Calls Try.prog 90 #[roleVal r] (grow (redrawn w1 q) os) fun e w' => e = .returned (.int .i64 r) ∧ Below (grow (redrawn w1 q) os).heap.size (grow (redrawn w1 q) os) w' from fun q os => roleNumber_any r _ HR5.out)
  clear hb1 q0 q1
  go_wp2_with fail
  refine wp_region_quiet_below (by kernel_rfl) (by kernel_rfl) ?_
  repeat (go_big_quiet_step ((first | (go_at_call 60; exact Calls.regrown_of (HC.out _ _)) | (go_at_call 91; exact Calls.regrown_of (HD.out _ _)) | (go_at_call 90; exact Calls.regrown_of (HE.out _ _)))))
  refine wpQuiet_nil ?_
  intro w2 hw2
  have hb2 := Lib.hid (below_of_regrown hw2)
  clear hw2 d0 d1
  go_wp2
  go_ret
  exact ⟨rfl, B1.out.trans (hb2.out.mono B1.out.size)⟩

end Go.Proofs.Ytnbakpdphfdacaa
