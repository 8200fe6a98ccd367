/- A chain that a variable of a law holds, kept over calls; results of calls, told apart. -/
import Derived.Test.YtnbakpdphfdacaaChn
import Derived.Test.YtnbakpdphfdacaaGood
namespace Go.Proofs.Ytnbakpdphfdacaa
open Go.RowKit

/-- the chain (view, l) in block b -/
structure Var (w : World) (b : Nat) (view : Int) (A : Option Addr) (n c : Nat) (l : List Nod) : Prop where
  blk : Blk w b #[.int .i64 view, .slice A n c] 33
  nods : Nods w 0 w.heap.size A n c l
section
variable {w w' : World} {b : Nat} {view : Int} {A : Option Addr} {n c : Nat} {l : List Nod}
theorem Var.on (h : Var w b view A n c l) (hb : Below w.heap.size w w') : Var w' b view A n c l := ⟨h.blk.below hb, h.nods.on hb⟩
theorem Var.alloc (h : Var w b view A n c l) (o : Obj) : Var (w.alloc o) b view A n c l := ⟨h.blk.alloc o, h.nods.box o⟩
theorem Var.drew (h : Var w b view A n c l) : Var w.drew b view A n c l := ⟨h.blk.drew, h.nods.below (Below.refl w.heap.size w).drew (Nat.le_refl _)⟩
theorem Var.c0 (h : Var w b view A n c l) : w.cell? ⟨b, 0, none⟩ = some (.int .i64 view) := h.blk.cell rfl
theorem Var.c1 (h : Var w b view A n c l) : w.cell? ⟨b, 1, none⟩ = some (.slice A n c) := h.blk.cell rfl
theorem Var.lt (h : Var w b view A n c l) : b < w.heap.size := h.blk.lt
theorem Var.new (h : Nods w 0 w.heap.size A n c l) (view : Int) : Var (w.alloc (.cells #[.int .i64 view, .slice A n c] 33)) w.heap.size view A n c l := ⟨Blk.new w _ _, h.box _⟩
theorem Var.row {lo : Nat} (h : NodRow w lo w.heap.size (.slice A n c) l) (view : Int) : Var (w.alloc (.cells #[.int .i64 view, .slice A n c] 33)) w.heap.size view A n c l := Var.new (h.nods'.2.mono (Nat.zero_le _) (Nat.le_refl _)) view
end
/-- a chain and true -/
def ChainYes (w : World) (view : Int) (l : List Nod) (e : Ending) (w' : World) : Prop :=
  ∃ (A : Option Addr) (n c : Nat), e = .returned (.tuple #[.agg #[.int .i64 view, .slice A n c], .bool true]) ∧ l.length = n ∧ Nods w' 0 w'.heap.size A n c l ∧ Below w.heap.size w w'
/-- no chain and false -/
def ChainNot (w : World) (e : Ending) (w' : World) : Prop :=
  ∃ (A : Option Addr) (c : Nat), e = .returned (.tuple #[.agg #[.int .i64 0, .slice A 0 c], .bool false]) ∧ Nods w' 0 w'.heap.size A 0 c [] ∧ Below w.heap.size w w'
theorem ChainRes.yes {w w' : World} {o : Option (Int × List Nod)} {e : Ending} {view : Int} {l : List Nod} (h : ChainRes w o e w') (ho : o = some (view, l)) : ChainYes w view l e w' := by
  obtain ⟨v, A, n, c, l', e1, rfl, hl, hrow, hb⟩ := h
  subst ho
  injection e1 with e1 e2
  subst e1; subst e2
  exact ⟨A, n, c, rfl, hl, hrow.nods'.2.mono (Nat.zero_le _) (Nat.le_refl _), hb⟩
theorem ChainRes.not {w w' : World} {o : Option (Int × List Nod)} {e : Ending} (h : ChainRes w o e w') (ho : o = none) : ChainNot w e w' := by
  obtain ⟨v, A, n, c, l', e1, rfl, hl, hrow, hb⟩ := h
  subst ho
  injection e1 with e1 e2
  subst e1; subst e2
  have hl' : 0 = n := hl
  subst hl'
  exact ⟨A, c, rfl, hrow.nods'.2.mono (Nat.zero_le _) (Nat.le_refl _), hb⟩
theorem nods_ok {l : List Nod} {n : Nat} (hl : l.length = n) (hn : n ≤ 5) (h : ∀ x ∈ l, x.log.length ≤ 13) : n ≤ 1048576 ∧ ∀ x ∈ l, x.log.length ≤ 1048576 := ⟨by omega, fun x hx => by have := h x hx; omega⟩
theorem good_ok {v : Int} {l : List Nod} (h : Good v l) : l.length ≤ 5 ∧ ∀ x ∈ l, x.log.length ≤ 13 := ⟨h.2.2.2.1, fun x hx => by
  have := nodeOk_log' (h.2.2.2.2.1 x hx)
  unfold logOk at this; simp only [Bool.and_eq_true, decide_eq_true_eq] at this; omega⟩
/-- a chain and a bool, whatever they are -/
def ChainAny (w : World) (e : Ending) (w' : World) : Prop :=
  ∃ (view : Int) (A : Option Addr) (n c : Nat) (l : List Nod) (b : Bool), e = .returned (.tuple #[.agg #[.int .i64 view, .slice A n c], .bool b]) ∧ l.length = n ∧ n ≤ 1048576 ∧ (∀ x ∈ l, x.log.length ≤ 1048576) ∧ Nods w' 0 w'.heap.size A n c l ∧ Below w.heap.size w w'
theorem ChainRes.any {w w' : World} {o : Option (Int × List Nod)} {e : Ending} (h : ChainRes w o e w') (ho : ∀ v l, o = some (v, l) → Good v l) : ChainAny w e w' := by
  obtain ⟨v, A, n, c, l, e1, rfl, hl, hrow, hb⟩ := h
  have key : l.length ≤ 5 ∧ ∀ x ∈ l, x.log.length ≤ 13 := by
    cases o with
    | none => injection e1 with e1 e2; subst e2; exact ⟨by simp, fun x hx => by cases hx⟩
    | some p =>
      obtain ⟨v', l'⟩ := p
      injection e1 with e1 e2
      subst e1; subst e2
      exact good_ok (ho _ _ rfl)
  exact ⟨v, A, n, c, l, o.isSome, rfl, hl, by omega, fun x hx => by have := key.2 x hx; omega, hrow.nods'.2.mono (Nat.zero_le _) (Nat.le_refl _), hb⟩
theorem dropM_good {v u : Int} {l r : List Nod} {id : Int} (h : dropM v l id = some (u, r)) : Good u r := by
  obtain ⟨_, rfl, _, _, _, _, rfl, g, _⟩ := dropM_some h; exact g
theorem addM_good {v u : Int} {l r : List Nod} {id : Int} (h : addM v l id = some (u, r)) : Good u r := by
  obtain ⟨_, rfl, _, rfl, g, _⟩ := addM_some h; exact g
end Go.Proofs.Ytnbakpdphfdacaa
