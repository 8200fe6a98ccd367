/- The exact statements' variables: a chain in a block, its row of nodes in blocks of its own, kept over calls and marking; plain lemmas on worlds. -/
import Derived.Test.YtnbakpdphfdacaaMarkC
import Derived.Test.YtnbakpdphfdacaaVar
namespace Go.Proofs.Ytnbakpdphfdacaa
open Go.RowKit

/-- the chain (view, l) in block 'box', its row in blocks from lo on and below hi -/
structure CI (W : World) (t : TypeId) (lo hi box : Nat) (view : Int) (A : Option Addr) (n c : Nat) (l : List Nod) : Prop where
  blk : Blk W box #[.int .i64 view, .slice A n c] t
  nods : Nods W lo hi A n c l
  his : hi ≤ box
section
variable {W W' : World} {t : TypeId} {lo hi box : Nat} {view : Int} {A : Option Addr} {n c : Nat} {l : List Nod}
theorem CI.lt (h : CI W t lo hi box view A n c l) : box < W.heap.size := h.blk.lt
theorem CI.below (h : CI W t lo hi box view A n c l) (hb : Below W.heap.size W W') : CI W' t lo hi box view A n c l :=
  ⟨h.blk.below hb, h.nods.below hb (by have := h.his; have := h.lt; omega), h.his⟩
theorem CI.alloc (h : CI W t lo hi box view A n c l) (o : Obj) : CI (W.alloc o) t lo hi box view A n c l := h.below ((Below.refl _ _).alloc (Nat.le_refl _) _)
theorem CI.drew (h : CI W t lo hi box view A n c l) : CI W.drew t lo hi box view A n c l := h.below (Below.refl _ _).drew
theorem CI.kept {lo' hi' : Nat} (h : CI W t lo hi box view A n c l) (hk : Kept lo' hi' W W') (hd : box < lo' ∨ hi' ≤ lo ∧ hi' ≤ box) : CI W' t lo hi box view A n c l :=
  ⟨(hk.2.2.2.2 box h.lt (by omega)).trans h.blk, h.nods.keep (fun k h1 h2 => hk.2.2.2.2 k (by have := h.his; have := h.lt; omega) (by have := h.his; omega)), h.his⟩
theorem CI.wide (h : CI W t lo hi box view A n c l) : Nods W 0 W.heap.size A n c l := h.nods.wide (by have := h.his; have := h.lt; omega)
theorem CI.c0 (h : CI W t lo hi box view A n c l) : W.cell? ⟨box, 0, none⟩ = some (.int .i64 view) := h.blk.cell rfl
theorem CI.c1 (h : CI W t lo hi box view A n c l) : W.cell? ⟨box, 1, none⟩ = some (.slice A n c) := h.blk.cell rfl
/-- .. and the row is the call's own -/
structure CR (W : World) (lo hi box : Nat) (view : Int) (A : Option Addr) (n c : Nat) (l : List Nod) : Prop where
  blk : Blk W box #[.int .i64 view, .slice A n c] 33
  row : NodRow W lo hi (.slice A n c) l
  his : hi ≤ box
theorem CR.lt (h : CR W lo hi box view A n c l) : box < W.heap.size := h.blk.lt
theorem CR.below (h : CR W lo hi box view A n c l) (hb : Below W.heap.size W W') : CR W' lo hi box view A n c l :=
  ⟨h.blk.below hb, h.row.below hb (by have := h.his; have := h.lt; omega), h.his⟩
theorem CR.alloc (h : CR W lo hi box view A n c l) (o : Obj) : CR (W.alloc o) lo hi box view A n c l := h.below ((Below.refl _ _).alloc (Nat.le_refl _) _)
theorem CR.drew (h : CR W lo hi box view A n c l) : CR W.drew lo hi box view A n c l := h.below (Below.refl _ _).drew
theorem CR.kept {lo' hi' : Nat} (h : CR W lo hi box view A n c l) (hk : Kept lo' hi' W W') (hd : box < lo' ∨ hi' ≤ lo ∧ hi' ≤ box) : CR W' lo hi box view A n c l :=
  ⟨(hk.2.2.2.2 box h.lt (by omega)).trans h.blk, h.row.keep (fun k h1 h2 => hk.2.2.2.2 k (by have := h.his; have := h.lt; omega) (by have := h.his; omega)), h.his⟩
/-- its own row is marked -/
theorem CR.mark {l' : List Nod} (h : CR W lo hi box view A n c l) (hr : NodRow W' lo hi (.slice A n c) l') (hk : Kept lo hi W W') : CR W' lo hi box view A n c l' :=
  ⟨(hk.2.2.2.2 box h.lt (by have := h.his; omega)).trans h.blk, hr, h.his⟩
theorem CR.ci (h : CR W lo hi box view A n c l) : CI W 33 lo hi box view A n c l := ⟨h.blk, h.row.nods'.2, h.his⟩
theorem CR.new {lo : Nat} (h : NodRow W lo W.heap.size (.slice A n c) l) (view : Int) : CR (W.alloc (.cells #[.int .i64 view, .slice A n c] 33)) lo W.heap.size W.heap.size view A n c l :=
  ⟨Blk.new W _ _, h.keep (fun _ _ hk => Below.heap_alloc _ _ _ hk), Nat.le_refl _⟩
theorem CR.his' (h : CR W lo hi box view A n c l) : hi ≤ W.heap.size := by have := h.his; have := h.lt; omega
end
/-- a chain in new memory, and a second value -/
def ResAt (W : World) (v1 : Int) (l1 : List Nod) (u : Value) (e : Ending) (w' : World) : Prop :=
  ∃ A n c, e = .returned (.tuple #[.agg #[.int .i64 v1, .slice A n c], u]) ∧ l1.length = n ∧ NodRow w' W.heap.size w'.heap.size (.slice A n c) l1 ∧ Below W.heap.size W w'
theorem ChainRes.at_ {w w' : World} {o : Option (Int × List Nod)} {e : Ending} {v1 : Int} {l1 : List Nod} {t1 : Bool} (h : ChainRes w o e w') (h1 : o.getD (0, []) = (v1, l1)) (h2 : o.isSome = t1) : ResAt w v1 l1 (.bool t1) e w' := by
  obtain ⟨v, A, n, c, l, e1, rfl, hl, hrow, hb⟩ := h
  rw [h1] at e1; injection e1 with e1 e2
  subst e1; subst e2; subst h2
  exact ⟨A, n, c, rfl, hl, hrow, hb⟩
theorem optChain_ok {o : Option (Int × List Nod)} {v1 : Int} {l1 : List Nod} (ho : ∀ v l, o = some (v, l) → Good v l) (h1 : o.getD (0, []) = (v1, l1)) : l1.length ≤ 5 ∧ ∀ x ∈ l1, x.log.length ≤ 13 := by
  cases o with
  | none => injection h1 with e1 e2; subst e2; exact ⟨by simp, fun x hx => by cases hx⟩
  | some p => obtain ⟨v', l'⟩ := p; injection h1 with e1 e2; subst e1; subst e2; exact good_ok (ho _ _ rfl)
theorem swapM_good {v u : Int} {l r : List Nod} {old id : Int} (h : swapM v l old id = some (u, r)) : Good u r := by
  unfold swapM at h
  split at h
  · exact addM_good h
  · cases h
end Go.Proofs.Ytnbakpdphfdacaa
