/- The state behind the first updates of a log: the plain function, the program's and the reference's walks. -/
import Derived.Test.YtagejkfeceeifaaNodeA
import Derived.Test.YtagejkfeceeifaaState
namespace Go.Proofs.Ytagejkfeceeifaa
open Go.RowKit

def upStep (st : List Int) (u : Upd) : List Int := st.set u.key.toNat u.value
def stAt (l : List Upd) (k : Nat) : List Int := (l.take k).foldl upStep st0
def stateOf (l : List Upd) (many : Int) : List Int := if logOk l && inB many 0 l.length then stAt l many.toNat else []
theorem stAt_succ {l : List Upd} {k kk : Nat} {u : Upd} (hu : l[k]? = some u) (hk : u.key = (kk : Int)) : stAt l (k + 1) = (stAt l k).set kk u.value := by
  have hlt := (List.getElem?_eq_some_iff.1 hu).1
  have e : l[k] = u := by rw [List.getElem?_eq_getElem hlt] at hu; injection hu
  unfold stAt
  rw [List.take_succ_eq_append_getElem hlt, List.foldl_append, e]
  simp [upStep, hk]
theorem fold_up_len (l : List Upd) : ∀ st : List Int, (l.foldl upStep st).length = st.length := by
  induction l with
  | nil => intro st; rfl
  | cons s l ih => intro st; rw [List.foldl_cons, ih]; simp [upStep]
theorem stAt_len (l : List Upd) (k : Nat) : (stAt l k).length = 5 := by unfold stAt; rw [fold_up_len]; rfl
theorem logOk_at {l : List Upd} {k : Nat} {u : Upd} (h : logOk l = true) (hu : l[k]? = some u) : updOk u.key u.value = true := by
  unfold logOk at h
  simp only [Bool.and_eq_true, List.all_eq_true] at h
  exact h.2 u (List.mem_of_getElem? hu)
theorem logOk_key {l : List Upd} {k : Nat} {u : Upd} (h : logOk l = true) (hu : l[k]? = some u) : ∃ kk : Nat, u.key = (kk : Int) ∧ kk < 5 := by
  have ho := logOk_at h hu
  simp only [updOk, Bool.and_eq_true, inB, decide_eq_true_eq] at ho
  exact ⟨u.key.toNat, by omega, by omega⟩
theorem logOk_len {l : List Upd} (h : logOk l = true) : l.length ≤ 12 := by
  unfold logOk at h; simp only [Bool.and_eq_true, decide_eq_true_eq] at h; exact h.1

theorem stAt_src {w : World} {g : Nat} {st : List Int} (h : StAt w g st) : Src w 1 (some ⟨g, 0, none⟩) st.length (st.flatMap encInt) := by
  refine ⟨by rw [length_flatMap encInt_len], (fun e => by cases e), fun ad e j u hu => ?_⟩
  injection e with e; subst e
  have hj := (List.getElem?_eq_some_iff.1 hu).1
  rw [length_flatMap encInt_len, Nat.mul_one] at hj
  have hx := List.getElem?_eq_getElem hj
  have h2 := flatMap_get encInt_len st j _ hx 0 (.int .i64 st[j]) rfl
  rw [Nat.mul_one, Nat.add_zero, hu] at h2
  injection h2 with h2
  have ea : (⟨g, 0, none⟩ : Addr).add j = ⟨g, j, none⟩ := by unfold Addr.add; split <;> simp_all
  rw [ea, h2]
  exact h.2.1 j _ hx

/-- what a state leaves: the numbers st in new memory -/
def StateLeft (w : World) (st : List Int) (e : Ending) (w' : World) : Prop :=
  ∃ g c, e = .returned (.slice (some ⟨g, 0, none⟩) st.length c) ∧ st.length ≤ c ∧ c ≤ maxLen ∧ w.heap.size ≤ g ∧ StAt w' g st ∧ Below w.heap.size w w'

theorem sizeInt : (Try.prog.info? 3).map (·.size) = some 1 := by kernel_rfl


theorem stateLeft_nil {w w1 : World} {t : TypeId} (hb : Below w.heap.size w w1) : StateLeft w [] (.returned (.slice (some ⟨w1.heap.size, 0, none⟩) 0 0)) (w1.alloc (.cells #[] t)) :=
  ⟨w1.heap.size, 0, rfl, Nat.le_refl _, Nat.zero_le _, hb.size, ⟨by simp, (fun i x h => by simp at h), fun i h => absurd h (by simp)⟩, hb.alloc hb.size _⟩



end Go.Proofs.Ytagejkfeceeifaa
