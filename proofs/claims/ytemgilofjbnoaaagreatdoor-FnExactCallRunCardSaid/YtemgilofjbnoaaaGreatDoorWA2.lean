/- Texts of this claim, joined: Bes Trans PassA PassB CrewT CrewS CrewW CrewA PassU PassL PassW CrewM CrewL CrewH CrewC. -/
import Derived.Conc.Beside
import Derived.Conc.CrowdRun
import Derived.Conc.CrowdComm
import Derived.Conc.WgGenN3
import Derived.Test.YtemgilofjbnoaaaGreatDoorChecked
import Derived.WalkKit
import Derived.Test.YtemgilofjbnoaaaGreatDoorWA1
namespace Go.Proofs.YtemgilofjbnoaaaGreatDoor
open Go Go.Conc
open Go.ConcN (sumTo upd sumTo_upd upd_ne upd_same)
set_option linter.unusedVariables false
set_option linter.unusedSimpArgs false
structure PastD (Shun : Loc → Prop) (d : Nat) (t : Trace) : Prop where
  clean : ∀ said, ¬ Race said t
  known : ∀ i a, touchAt t i = some a → a.loc.isMemory = true → Knows t 0 i ∨ (Shun a.loc ∧ a.kind = .atomic)
  over : t.HandedOver
  deaf : Deaf t 0 = d
def EvT (Shun : Loc → Prop) (e : Event) : Prop := ∀ x, (MemAct.ofEvent e).touch? = some x → Shun x.loc → x.kind ≠ .plain
section
variable {Shun : Loc → Prop} {d : Nat} {t : Trace}
theorem PastD.own (h : PastD Shun d t) {fn : FuncId} {pos : String} {es : Array Event} (hes : ∀ e ∈ es, EvT Shun e) : PastD Shun (deafBehind d es) (t ++ MemOp.ofEvents 0 fn pos es) := by
  have hu : ∀ op ∈ MemOp.ofEvents 0 fn pos es, op.g = 0 := fun op hop => by obtain ⟨e, _, rfl⟩ := Go.Conc.mem_ofEvents hop; rfl
  refine ⟨fun said => noRace_append (h.clean said) hu fun i a ha op hop b hb hc => ?_, fun i a ha hm => ?_, handedOver_app h.over fun op hop => .inl (hu op hop), by rw [Deaf_own, h.deaf]⟩
  · rcases h.known i a ha hc.2.1 with hk | ⟨hsa, hka⟩
    · exact hk
    · obtain ⟨e, he, rfl⟩ := Go.Conc.mem_ofEvents hop
      have hkb := hes e he b hb (hc.1 ▸ hsa)
      obtain ⟨_, _, _, hcase⟩ := hc
      rw [hka] at hcase
      rcases hcase with x | x | ⟨_, x, _⟩
      · cases x
      · exact absurd x hkb
      · cases x
  · obtain ⟨x, hx, hxa⟩ := touch_of ha
    rcases getElem?_append_cases hx with ⟨_, hx'⟩ | ⟨_, hxu⟩
    · exact (h.known i a (by rw [touchAt_of hx']; exact hxa) hm).imp (·.app _) id
    · have := knows_own hx
      rw [hu x hxu] at this
      exact .inl this
theorem PastD.mute (h : PastD Shun d t) {g : Nat} (hg : g ≠ 0) {fn : FuncId} {pos : String} {es : Array Event} (hm : ∀ e ∈ es, e.mute = true) : PastD Shun d (t ++ MemOp.ofEvents g fn pos es) := by
  have hn : ∀ op ∈ MemOp.ofEvents g fn pos es, op.act.touch? = none := fun op hop => by obtain ⟨e, he, rfl⟩ := Go.Conc.mem_ofEvents hop; exact touch_mute (hm e he)
  refine ⟨fun said => noRace_append (h.clean said) (fun op hop => by obtain ⟨e, _, rfl⟩ := Go.Conc.mem_ofEvents hop; rfl) fun i a _ op hop b hb _ => (by rw [hn op hop] at hb; cases hb), fun i a ha hmm => ?_, handedOver_app h.over fun op hop => .inr (hn op hop), by rw [Deaf_other t hg _ (fun op hop => by obtain ⟨e, _, rfl⟩ := Go.Conc.mem_ofEvents hop; rfl), h.deaf]⟩
  obtain ⟨x, hx, hxa⟩ := touch_of ha
  rcases getElem?_append_cases hx with ⟨_, hx'⟩ | ⟨_, hxu⟩
  · exact (h.known i a (by rw [touchAt_of hx']; exact hxa) hmm).imp (·.app _) id
  · rw [hn x hxu] at hxa; cases hxa
end
section
variable {P : Program} {Shun : Loc → Prop} {B : Nat} {a : Goroutine}
theorem slip (hrun : a.status = .running) : ∀ (M : Nat) (gs : Array Goroutine) (w : World) (sl : Option (Nat × Nat)) (t : Trace) (q : Nat → Nat), sumTo gs.size q ≤ M → gs[0]? = some a → Leavers P t gs q → PastD Shun B t →
    ∃ (N : Nat) (gs' : Array Goroutine) (d0 d : Nat) (sl' sl2 : Option (Nat × Nat)) (t' : Trace) (q' : Nat → Nat), runNT P N (crowd gs w sl) t = (.next (crowd gs' (w.at d0) sl'), t') ∧ gs'.size = gs.size ∧ gs'[0]? = some a ∧ Leavers P t' gs' q' ∧ PastD Shun B t' ∧
      stepT P (crowd gs' (w.at d0) sl') = runT P (crowd gs' (w.at d) sl2) 0 := by
  intro M
  induction M with
  | zero =>
    intro gs w sl t q hM h0 hL hP
    have haw : ∀ g ∈ gs, awake g := by
      intro g hg
      obtain ⟨i, hi, rfl⟩ := Array.mem_iff_getElem.1 hg
      rcases Nat.eq_zero_or_pos i with rfl | hpos
      · have : gs[0] = a := by simpa [Array.getElem?_eq_getElem hi] using h0
        rw [this]; exact awake_of (.inl hrun)
      · exact awake_of ((hL.old i _ hpos (Array.getElem?_eq_getElem hi)).status.elim .inl fun x => .inr (.inr x))
    obtain ⟨i, g, d, sl', hi, hg, hst⟩ := crowd_pick (P := P) (w := w) (sl := sl) haw ⟨0, a, h0, hrun⟩
    rcases Nat.eq_zero_or_pos i with rfl | hpos
    · exact ⟨0, gs, w.drawn, d, sl, sl', t, q, rfl, rfl, h0, hL, hP, hst⟩
    · have hq := hL.old i g hpos hi
      have hlt : i < gs.size := (Array.getElem?_eq_some_iff.1 hi).1
      cases hqi : q i with
      | zero => rw [hqi] at hq; rw [hq.1] at hg; cases hg
      | succ k =>
        have hsum : sumTo gs.size (upd q i k) + (k + 1) = sumTo gs.size q + k := by
          have := sumTo_upd q k id hlt
          simpa [hqi] using this
        omega
  | succ M ih =>
    intro gs w sl t q hM h0 hL hP
    have haw : ∀ g ∈ gs, awake g := by
      intro g hg
      obtain ⟨i, hi, rfl⟩ := Array.mem_iff_getElem.1 hg
      rcases Nat.eq_zero_or_pos i with rfl | hpos
      · have : gs[0] = a := by simpa [Array.getElem?_eq_getElem hi] using h0
        rw [this]; exact awake_of (.inl hrun)
      · exact awake_of ((hL.old i _ hpos (Array.getElem?_eq_getElem hi)).status.elim .inl fun x => .inr (.inr x))
    obtain ⟨i, g, d, sl', hi, hg, hst⟩ := crowd_pick (P := P) (w := w) (sl := sl) haw ⟨0, a, h0, hrun⟩
    rcases Nat.eq_zero_or_pos i with rfl | hpos
    · exact ⟨0, gs, w.drawn, d, sl, sl', t, q, rfl, rfl, h0, hL, hP, hst⟩
    · have hq := hL.old i g hpos hi
      have hi0 : (i == 0) = false := by simp; omega
      have hlt : i < gs.size := (Array.getElem?_eq_some_iff.1 hi).1
      cases hqi : q i with
      | zero => rw [hqi] at hq; rw [hq.1] at hg; cases hg
      | succ k =>
        rw [hqi] at hq
        rcases hq with ⟨hf, _⟩ | ⟨_, g', es, hm, hstp, hq'⟩
        · rw [hf] at hg; cases hg
        have hrunT := runT_crowd_go (P := P) (sl := sl') (i := i) hi (by rw [hi0]; exact hstp (w.at d))
        have hsz : ((gs.map (woken P g g' (w.at d))).setIfInBounds i g').size = gs.size := by simp
        have hsum : sumTo gs.size (upd q i k) + (k + 1) = sumTo gs.size q + k := by
          have := sumTo_upd q k id hlt
          simpa [hqi] using this
        obtain ⟨N, gs', d0, d1, sl1, sl2, t', q', hr, hs', h0', hL', hP', hst'⟩ := ih ((gs.map (woken P g g' (w.at d))).setIfInBounds i g') (w.at d) sl' (t ++ MemOp.ofEvents i g.frame.fn g.frame.place es) (upd q i k) (by rw [hsz]; omega)
          (by
            have hne : i ≠ 0 := by omega
            rw [Array.getElem?_setIfInBounds_ne hne, Array.getElem?_map, h0]
            simp [woken_run hrun])
          ⟨fun j x hj hx => by
            by_cases hji : i = j
            · subst hji
              rw [Array.getElem?_setIfInBounds_self_of_lt (by simpa using hlt)] at hx
              obtain rfl := Option.some.inj hx
              rw [upd_same, Deaf_own]
              exact hq'
            · rw [Array.getElem?_setIfInBounds_ne hji, Array.getElem?_map] at hx
              obtain ⟨y, hy, rfl⟩ := Option.map_eq_some_iff.1 hx
              have hqj := hL.old j y hj hy
              rw [woken_quitsD hqj, upd_ne q k (Ne.symm hji), Deaf_other t hji _ (fun op hop => by obtain ⟨e, _, rfl⟩ := Go.Conc.mem_ofEvents hop; rfl)]
              exact hqj, fun j hj => by
            rw [Deaf_other t (g' := i) (by simp at hj; omega) _ (fun op hop => by obtain ⟨e, _, rfl⟩ := Go.Conc.mem_ofEvents hop; rfl)]
            exact hL.above j (by simpa using hj)⟩
          (hP.mute (by omega) hm)
        exact ⟨N + 1, gs', d0, d1, sl1, sl2, t', q', by simp only [runNT, hst, hrunT]; exact hr, hs'.trans hsz, h0', hL', hP', hst'⟩
theorem own_step {gs : Array Goroutine} {w : World} {sl : Option (Nat × Nat)} {t : Trace} {q : Nat → Nat} {a' : Goroutine} {w' : World} {es : Array Event} (h0 : gs[0]? = some a) (hL : Leavers P t gs q) (hP : PastD Shun B t)
    (h : stepG P true a w = .go a' w' es) (hes : ∀ e ∈ es, EvT Shun e) :
    ∃ gs' t', runT P (crowd gs w sl) 0 = (.next (crowd gs' w' sl), t') ∧ gs'.size = gs.size ∧ gs'[0]? = some a' ∧ Leavers P (t ++ t') gs' q ∧ PastD Shun (deafBehind B es) (t ++ t') := by
  have hrunT := runT_crowd_go (P := P) (sl := sl) (i := 0) h0 (show stepG P (0 == 0) a w = _ from h)
  have hlt : 0 < gs.size := (Array.getElem?_eq_some_iff.1 h0).1
  refine ⟨_, _, hrunT, by simp, by simp [hlt], ⟨fun j x hj hx => ?_, fun j hj => ?_⟩, hP.own hes⟩
  · have hne : 0 ≠ j := by omega
    rw [Array.getElem?_setIfInBounds_ne hne, Array.getElem?_map] at hx
    obtain ⟨y, hy, rfl⟩ := Option.map_eq_some_iff.1 hx
    have hq := hL.old j y hj hy
    rw [woken_quitsD hq, Deaf_other t (by omega) _ (fun op hop => by obtain ⟨e, _, rfl⟩ := Go.Conc.mem_ofEvents hop; rfl)]
    exact hq
  · rw [Deaf_other t (g' := 0) (by simp at hj; omega) _ (fun op hop => by obtain ⟨e, _, rfl⟩ := Go.Conc.mem_ofEvents hop; rfl)]
    exact hL.above j (by simpa using hj)
theorem runNT_next (P : Program) : ∀ {N : Nat} {m m' m'' : Machine} {t t' : Trace} {ops : Array MemOp}, runNT P N m t = (.next m', t') → stepT P m' = (.next m'', ops) → runNT P (N + 1) m t = (.next m'', t' ++ ops) := by
  intro N
  induction N with
  | zero =>
    intro m m' m'' t t' ops h1 h2
    simp only [runNT, Prod.mk.injEq, Stepped.next.injEq] at h1
    obtain ⟨rfl, rfl⟩ := h1
    simp only [runNT, h2]
  | succ N ih =>
    intro m m' m'' t t' ops h1 h2
    rw [runNT] at h1 ⊢
    cases hs : stepT P m with
    | mk r o =>
      rw [hs] at h1
      cases r with
      | next m1 => exact ih h1 h2
      | ended a b => cases h1
theorem one_step (hrun : a.status = .running) {gs : Array Goroutine} {w : World} {sl : Option (Nat × Nat)} {t : Trace} {q : Nat → Nat} (h0 : gs[0]? = some a) (hL : Leavers P t gs q) (hP : PastD Shun B t) :
    ∃ d, ∀ a' w' es, stepG P true a (w.at d) = .go a' w' es → (∀ e ∈ es, EvT Shun e) →
      ∃ (N : Nat) (gs' : Array Goroutine) (sl' : Option (Nat × Nat)) (t' : Trace) (q' : Nat → Nat), runNT P N (crowd gs w sl) t = (.next (crowd gs' w' sl'), t') ∧ gs'.size = gs.size ∧ gs'[0]? = some a' ∧ Leavers P t' gs' q' ∧ PastD Shun (deafBehind B es) t' := by
  obtain ⟨N, gs1, d0, d, sl1, sl2, t1, q1, hr, hs, h0', hL', hP', hst⟩ := slip hrun _ gs w sl t q (Nat.le_refl _) h0 hL hP
  refine ⟨d, fun a' w' es h hes => ?_⟩
  obtain ⟨gs2, t2, k1, k2, k3, k4, k5⟩ := own_step (sl := sl2) h0' hL' hP' h hes
  exact ⟨N + 1, gs2, sl2, t1 ++ t2, q1, runNT_next P hr (hst.trans k1), k2.trans hs, k3, k4, k5⟩
theorem runNT_add (P : Program) : ∀ {N M : Nat} {m m' : Machine} {t t' : Trace}, runNT P N m t = (.next m', t') → runNT P (N + M) m t = runNT P M m' t' := by
  intro N
  induction N with
  | zero =>
    intro M m m' t t' h1
    simp only [runNT, Prod.mk.injEq, Stepped.next.injEq] at h1
    obtain ⟨rfl, rfl⟩ := h1
    rw [Nat.zero_add]
  | succ N ih =>
    intro M m m' t t' h1
    rw [show N + 1 + M = (N + M) + 1 by omega]
    rw [runNT] at h1 ⊢
    cases hs : stepT P m with
    | mk r o =>
      rw [hs] at h1
      cases r with
      | next m1 => exact ih h1
      | ended a b => cases h1
end
end Go.Proofs.YtemgilofjbnoaaaGreatDoor
namespace Go.Proofs.YtemgilofjbnoaaaGreatDoor
open Go Go.Conc
set_option linter.unusedVariables false
set_option linter.unusedSimpArgs false
def ShunS (S : Nat → Prop) (l : Loc) : Prop := ∃ a, l = .cell a ∧ S a.block
theorem evS_evT {S : Hidn} {Sp : Nat → Prop} (hSp : ∀ b, Sp b → S b) {B : Nat} {e : Event} (h : EvS S B e) : EvT (ShunS Sp) e := by
  intro x hx hs
  rcases h with ⟨a, wr, rfl, h2, h3⟩ | ⟨r, sy, rfl, h2⟩ | rfl | ⟨f, rfl⟩ | ⟨_, r, sy, rfl, h2, _⟩
  · simp only [MemAct.ofEvent, MemAct.touch?, Option.some.injEq] at hx
    subst hx
    obtain ⟨b, hb, hS⟩ := hs
    injection hb with hb; subst hb
    exact absurd (hSp _ hS) h2
  · obtain ⟨b, hb, hS⟩ := hs
    cases sy <;> simp [MemAct.ofEvent, MemAct.touch?] at hx <;> (subst hx; cases hb)
  · simp [MemAct.ofEvent, MemAct.touch?] at hx
  · simp [MemAct.ofEvent, MemAct.touch?] at hx
  · obtain ⟨b, hb, hS⟩ := hs
    cases sy <;> simp [MemAct.ofEvent, MemAct.touch?] at hx <;> (subst hx; cases hb)
theorem evS_still {S : Hidn} {B : Nat} {es : Array Event} (h : ∀ e ∈ es, EvS S B e) (d : Nat) : deafBehind d es = d := by
  refine deafBehind_still (fun e he => ?_) d
  rcases h e he with ⟨a, wr, rfl, h2, h3⟩ | ⟨r, sy, rfl, h2⟩ | rfl | ⟨f, rfl⟩ | ⟨_, r, sy, rfl, h2, _⟩
  · simp
  · simp
  · simp
  · simp
  · simp
structure Sim0 (S : Nat → Prop) (K : Nat → Obj) (u w : World) : Prop where
  size : u.heap.size = w.heap.size
  out : ∀ b, ¬ S b → u.heap[b]? = w.heap[b]?
  ins : ∀ b, S b → ∃ o o', u.heap[b]? = some o ∧ w.heap[b]? = some o' ∧ Alike o o'
  views : NoView u
  os : w.os = u.os
  output : w.output = u.output
  kept : ∀ b, S b → w.heap[b]? = some (K b)
section
variable {S : Nat → Prop} {K : Nat → Obj} {u w : World}
theorem Sim0.sim (h : Sim0 S K u w) (T : Nat) {m : Bool} : Sim ⟨S, K, T, 0, 0, w.tape, m⟩ (re u w.tape w.drawn) w := ⟨h.size, h.out, h.ins, h.views, h.os, h.output, fun _ _ _ => rfl, h.kept, rfl, rfl⟩
theorem Sim.sim0 {T a b : Nat} {tp : Nat → Question → Nat} {m : Bool} (h : Sim ⟨S, K, T, a, b, tp, m⟩ u w) : Sim0 S K u w := ⟨h.size, h.out, h.ins, h.views, h.os, h.output, h.kept⟩
theorem Sim0.re_ {τ : Nat → Question → Nat} {d : Nat} (h : Sim0 S K (re u τ d) w) : Sim0 S K u w := ⟨h.size, h.out, h.ins, h.views, h.os, h.output, h.kept⟩
theorem Sim0.at (h : Sim0 S K u w) (d : Nat) : Sim0 S K u (w.at d) := ⟨h.size, h.out, h.ins, h.views, h.os, h.output, h.kept⟩
end
abbrev St := Frame × List Frame × World
section
variable {P : Program} {F : Array Func} {k0 : FuncId} {Stop : Frame → List Frame → World → Prop}
def Down (U : Program) (Stop : Frame → List Frame → World → Prop) (y x : St) : Prop := ¬ Stop x.1 x.2.1 x.2.2 ∧ ∃ τ d es, stepG U true (G x.1 x.2.1) (re x.2.2 τ d) = .go (G y.1 y.2.1) y.2.2 es
inductive Desc (U : Program) (Stop : Frame → List Frame → World → Prop) : St → St → Prop
  | refl (x : St) : Desc U Stop x x
  | tail {x y z : St} (h : Desc U Stop y x) (h' : Down U Stop z y) : Desc U Stop z x
theorem Desc.trans {U : Program} {x y z : St} (h : Desc U Stop y x) (h' : Desc U Stop z y) : Desc U Stop z x := by
  induction h' with
  | refl => exact h
  | tail _ d ih => exact (ih h).tail d
theorem Desc.head {U : Program} {x z : St} (h : Desc U Stop z x) : z = x ∨ ∃ y, Down U Stop y x ∧ Desc U Stop z y := by
  induction h with
  | refl => exact .inl rfl
  | tail _ d ih =>
    rcases ih with rfl | ⟨y, h1, h2⟩
    · exact .inr ⟨_, d, .refl _⟩
    · exact .inr ⟨y, h1, h2.tail d⟩
def Comes_ (P : Program) (gs : Array Goroutine) (w : World) (sl : Option (Nat × Nat)) (t : Trace) (S : Nat → Prop) (K : Nat → Obj) (Sp : Nat → Prop) (a' : Goroutine) (u' : World) : Prop :=
  ∃ (N : Nat) (gs' : Array Goroutine) (w' : World) (sl' : Option (Nat × Nat)) (t' : Trace) (q' : Nat → Nat) (S' : Nat → Prop) (K' : Nat → Obj) (Sp' : Nat → Prop),
    runNT P N (crowd gs w sl) t = (.next (crowd gs' w' sl'), t') ∧ gs'[0]? = some a' ∧ Leavers P t' gs' q' ∧ PastD (ShunS Sp') 0 t' ∧ Sim0 S' K' u' w' ∧ (∀ b, S b → S' b ∧ K' b = K b) ∧
      (∀ b, Sp' b → S' b) ∧ (∀ b, Sp b → Sp' b) ∧ (∀ b, Sp' b → Sp b ∨ w.heap.size ≤ b) ∧ w.heap.size ≤ w'.heap.size
def Trans (P : Program) (F : Array Func) (k0 : FuncId) (Stop : Frame → List Frame → World → Prop) (x : St) : Prop :=
  ∀ (cs bm bt : List Frame) (S : Nat → Prop) (K : Nat → Obj) (Sp : Nat → Prop) (gs : Array Goroutine) (w : World) (sl : Option (Nat × Nat)) (t : Trace) (q : Nat → Nat), (∀ b, Sp b → S b) →
    x.2.1 = cs ++ bm → bm ≠ [] → Fin_ (PF P F) Stop x.1 x.2.1 x.2.2 → OkFr P F k0 x.1 → (∀ c ∈ cs, OkFr P F k0 c) → Sim0 S K x.2.2 w → gs[0]? = some (G x.1 (cs ++ bt)) → Leavers P t gs q → PastD (ShunS Sp) 0 t →
    ∃ fr' u', OkFr P F k0 fr' ∧ fr'.mode ≠ .run ∧ Desc (PF P F) Stop (fr', bm, u') x ∧ Fin_ (PF P F) Stop fr' bm u' ∧ Comes_ P gs w sl t S K Sp (G fr' bt) u'
def TransM (P : Program) (F : Array Func) (k0 : FuncId) (Stop : Frame → List Frame → World → Prop) (x : St) : Prop :=
  ∀ (cs bm bt : List Frame) (S : Nat → Prop) (K : Nat → Obj) (Sp : Nat → Prop) (gs : Array Goroutine) (w : World) (sl : Option (Nat × Nat)) (t : Trace) (q : Nat → Nat), (∀ b, Sp b → S b) →
    x.2.1 = cs ++ bm → bm ≠ [] → Fin_ (PF P F) Stop x.1 x.2.1 x.2.2 → OkSt P F k0 x.1 cs → Sim0 S K x.2.2 w → gs[0]? = some (G x.1 (cs ++ bt)) → Leavers P t gs q → PastD (ShunS Sp) 0 t →
    ∃ fr' u', OkFr P F k0 fr' ∧ fr'.mode ≠ .run ∧ Desc (PF P F) Stop (fr', bm, u') x ∧ Fin_ (PF P F) Stop fr' bm u' ∧ Comes_ P gs w sl t S K Sp (G fr' bt) u'
theorem TransM.trans {x : St} (h : TransM P F k0 Stop x) : Trans P F k0 Stop x := fun cs bm bt S K Sp gs w sl t q hSp h1 h2 h3 hf hc => h cs bm bt S K Sp gs w sl t q hSp h1 h2 h3 (.one hf hc)
def PassOk (P : Program) (F : Array Func) (k0 : FuncId) (Stop : Frame → List Frame → World → Prop) : Prop :=
  ∀ (args : Array Value) (fr : Frame) (sm stt : List Frame) (u : World) (S : Nat → Prop) (K : Nat → Obj) (Sp : Nat → Prop) (gs : Array Goroutine) (w : World) (sl : Option (Nat × Nat)) (t : Trace) (q : Nat → Nat), (∀ b, Sp b → S b) →
    (∀ y z, Down (PF P F) Stop y (Frame.enter (PF P F) k0 args .normal, fr :: sm, u) → Desc (PF P F) Stop z y → Trans P F k0 Stop z) →
    Fin_ (PF P F) Stop (Frame.enter (PF P F) k0 args .normal) (fr :: sm) u → Sim0 S K u w → gs[0]? = some (G (Frame.enter P k0 args .normal) (fr :: stt)) → Leavers P t gs q → PastD (ShunS Sp) 0 t →
    ∃ fr' u', ((∃ v, fr' = fr.finish v) ∨ ∃ ch, fr' = fr.raise ch) ∧ Desc (PF P F) Stop (fr', sm, u') (Frame.enter (PF P F) k0 args .normal, fr :: sm, u) ∧ Fin_ (PF P F) Stop fr' sm u' ∧ Comes_ P gs w sl t S K Sp (G fr' stt) u'
theorem Comes_.refl {gs : Array Goroutine} {w : World} {sl : Option (Nat × Nat)} {t : Trace} {S : Nat → Prop} {K : Nat → Obj} {Sp : Nat → Prop} {a : Goroutine} {u : World} {q : Nat → Nat} (hSp : ∀ b, Sp b → S b) (h0 : gs[0]? = some a) (hL : Leavers P t gs q) (hP : PastD (ShunS Sp) 0 t) (hs : Sim0 S K u w) : Comes_ P gs w sl t S K Sp a u :=
  ⟨0, gs, w, sl, t, q, S, K, Sp, rfl, h0, hL, hP, hs, fun b h => ⟨h, rfl⟩, hSp, fun _ h => h, fun _ h => .inl h, Nat.le_refl _⟩
theorem Comes_.step {N : Nat} {gs gs' : Array Goroutine} {w w' : World} {sl sl' : Option (Nat × Nat)} {t t' : Trace} {S S' : Nat → Prop} {K K' : Nat → Obj} {Sp Sp' : Nat → Prop} {a : Goroutine} {u : World} (hr : runNT P N (crowd gs w sl) t = (.next (crowd gs' w' sl'), t'))
    (h1 : ∀ b, S b → S' b ∧ K' b = K b) (h2 : ∀ b, Sp b → Sp' b) (h3 : ∀ b, Sp' b → Sp b ∨ w.heap.size ≤ b) (h4 : w.heap.size ≤ w'.heap.size) (h : Comes_ P gs' w' sl' t' S' K' Sp' a u) : Comes_ P gs w sl t S K Sp a u := by
  obtain ⟨M, gs2, w2, sl2, t2, q2, S2, K2, Sp2, r, c1, c2, c3, c4, c5, c6, c7, c8, c9⟩ := h
  exact ⟨N + M, gs2, w2, sl2, t2, q2, S2, K2, Sp2, (runNT_add P hr).trans r, c1, c2, c3, c4, fun b hb => ⟨(c5 b (h1 b hb).1).1, (c5 b (h1 b hb).1).2.trans (h1 b hb).2⟩, c6, fun b hb => c7 b (h2 b hb),
    fun b hb => (c8 b hb).elim (fun q => h3 b q) (fun q => .inr (Nat.le_trans h4 q)), Nat.le_trans h4 c9⟩
set_option maxHeartbeats 1000000 in
theorem transport (hK : FitsK P F k0) (hS : ∀ fr stk u, Stop fr stk u → stk = [c0] ∧ fr.mode ≠ .run ∧ fr.defers = []) (hpass : PassOk P F k0 Stop) {fr : Frame} {stk : List Frame} {u : World} (hF : Fin_ (PF P F) Stop fr stk u) :
    ∀ z, Desc (PF P F) Stop z (fr, stk, u) → TransM P F k0 Stop z := by
  have done : ∀ (x : St), (∀ cs bm : List Frame, x.2.1 = cs ++ bm → bm ≠ [] → cs = [] ∧ x.1.mode ≠ .run ∧ x.1.defers = []) → TransM P F k0 Stop x := by
    intro x hx cs bm bt S K Sp gs w sl t q hSp h1 hbm hFin hf hs h0 hL hP
    obtain ⟨rfl, hm, hd⟩ := hx cs bm h1 hbm
    obtain ⟨fr, stk, u⟩ := x
    simp only [List.nil_append] at h1 h0
    subst h1
    exact ⟨fr, u, hf.m.fr hf.low hd, hm, .refl _, hFin, Comes_.refl hSp h0 hL hP hs⟩
  have stop : ∀ (fr : Frame) (stk : List Frame) (u : World), Stop fr stk u → TransM P F k0 Stop (fr, stk, u) := by
    intro fr stk u h
    obtain ⟨h1, h2, h3⟩ := hS _ _ _ h
    refine done _ (fun cs bm e hb => ⟨?_, h2, h3⟩)
    simp only [] at e
    rw [h1] at e
    cases cs with
    | nil => rfl
    | cons c cs =>
      simp only [List.cons_append, List.cons.injEq] at e
      have := e.2
      simp at this
      exact absurd this.2 hb
  induction hF with
  | @stop fr stk u h =>
    intro z hz
    rcases hz.head with rfl | ⟨y, hd, _⟩
    · exact stop _ _ _ h
    · exact absurd h hd.1
  | @step fr stk u h1 h2 ih =>
    intro z hz
    rcases hz.head with rfl | ⟨⟨fr', stk', u'⟩, hd, hzy⟩
    rotate_left
    · obtain ⟨_, τ, d, es, e⟩ := hd
      exact ih τ d fr' stk' u' es e z hzy
    by_cases hst : Stop fr stk u
    · exact stop _ _ _ hst
    have down : ∀ {τ d fr' stk' u' es}, stepG (PF P F) true (G fr stk) (re u τ d) = .go (G fr' stk') u' es → Down (PF P F) Stop (fr', stk', u') (fr, stk, u) := fun {τ d fr' stk' u' es} e => ⟨hst, τ, d, es, e⟩
    intro cs bm bt S K Sp gs w sl t q hSp hx hbm hFin hf hs h0 hL hP
    simp only [] at hx hFin hf hs h0
    subst hx
    by_cases hm : fr.mode = .run ∨ cs ≠ [] ∨ fr.defers ≠ []
    rotate_left
    · have hcs : cs = [] := Classical.byContradiction fun h => hm (.inr (.inl h))
      have hds : fr.defers = [] := Classical.byContradiction fun h => hm (.inr (.inr h))
      subst hcs
      exact ⟨fr, u, hf.m.fr hf.low hds, fun h => hm (.inl h), .refl _, hFin, Comes_.refl hSp h0 hL hP hs⟩
    obtain ⟨d, one⟩ := one_step (sl := sl) (w := w) rfl h0 hL hP
    have hs1 := (hs.at d).sim (m := true) (gw (stepG (PF P F) true (G fr (cs ++ bm)) (re u (w.at d).tape (w.at d).drawn))).drawn
    rcases lock_step (bm := bm) (bt := bt) hK hs1 rfl hf hm (Nat.le_refl _) with ⟨o, x, y, e⟩ | ⟨fr', cs', u', w', es, es', k1, k2, k3, k4, k5, k6⟩ | ⟨fr, cs, args, u', w', es, es', k1, k2, _, k3, k4, k5, hf⟩
    · obtain ⟨a, b, c, e', h⟩ := h1 (w.at d).tape (w.at d).drawn
      rw [e] at h; cases h
    · obtain ⟨N, gs', sl', t', q', r1, r2, r3, r4, r5⟩ := one _ _ _ k2 (fun e he => evS_evT (S := ⟨S, K, _, 0, 0, _, _⟩) hSp (k5 e he))
      rw [evS_still k5 0] at r5
      obtain ⟨fr2, u2, m1, m2, m3, m4, hc2⟩ := ih _ _ _ _ _ _ k1 _ (.refl _) cs' bm bt S K Sp gs' w' sl' t' q' hSp rfl hbm (h2 _ _ _ _ _ _ k1) k6 k3.sim0 r3 r4 r5
      have hsz : w.heap.size ≤ w'.heap.size := by have := k3.size; have := hs.size; have k4' : u.heap.size ≤ u'.heap.size := k4; omega
      exact ⟨fr2, u2, m1, m2, (Desc.refl _ |>.tail (down k1)).trans m3, m4, hc2.step r1 (fun _ h => ⟨h, rfl⟩) (fun _ h => h) (fun _ h => .inl h) hsz⟩
    · obtain ⟨N, gs', sl', t', q', r1, r2, r3, r4, r5⟩ := one _ _ _ k2 (fun e he => evS_evT (S := ⟨S, K, _, 0, 0, _, _⟩) hSp (k5 e he))
      rw [evS_still k5 0] at r5
      have hsz : w.heap.size ≤ w'.heap.size := by have := k3.size; have := hs.size; have k4' : u.heap.size ≤ u'.heap.size := k4; omega
      obtain ⟨fr1, u1, p1, p2, p3, N1, gs1, w1, sl1, t1, q1, S1, K1, Sp1, b1, b2, b3, b4, b5, b6, b7, b8, b9, b10⟩ := hpass args fr (cs ++ bm) (cs ++ bt) u' S K Sp gs' w' sl' t' q' hSp (fun y z hy hz => (ih _ _ _ _ _ _ k1 z ((Desc.refl _ |>.tail hy).trans hz)).trans) (h2 _ _ _ _ _ _ k1) k3.sim0 r3 r4 r5
      have hf1 : OkSt P F k0 fr1 cs := by
        rcases p1 with ⟨v, rfl⟩ | ⟨ch, rfl⟩
        · exact hf.fin v
        · exact hf.raise_ ch
      obtain ⟨fr2, u2, m1, m2, m3, m4, hc2⟩ := ih _ _ _ _ _ _ k1 _ p2 cs bm bt S1 K1 Sp1 gs1 w1 sl1 t1 q1 b7 rfl hbm p3 hf1 b5 b2 b3 b4
      exact ⟨fr2, u2, m1, m2, ((Desc.refl _ |>.tail (down k1)).trans p2).trans m3, m4, (hc2.step b1 b6 b8 b9 b10).step r1 (fun _ h => ⟨h, rfl⟩) (fun _ h => h) (fun _ h => .inl h) hsz⟩
end
end Go.Proofs.YtemgilofjbnoaaaGreatDoor
namespace Go.Proofs.YtemgilofjbnoaaaGreatDoor
open Go Go.Conc
set_option linter.unusedVariables false
set_option linter.unusedSimpArgs false
section
variable {P : Program} {F : Array Func} {k0 : FuncId} {Stop : Frame → List Frame → World → Prop}
def Concl (P : Program) (F : Array Func) (Stop : Frame → List Frame → World → Prop) (fr : Frame) (sm stt : List Frame) (S : Nat → Prop) (K : Nat → Obj) (Sp : Nat → Prop) (x : St) (gs : Array Goroutine) (w : World) (sl : Option (Nat × Nat)) (t : Trace) : Prop :=
  ∃ fr' u', ((∃ v, fr' = fr.finish v) ∨ ∃ ch, fr' = fr.raise ch) ∧ Desc (PF P F) Stop (fr', sm, u') x ∧ Fin_ (PF P F) Stop fr' sm u' ∧ Comes_ P gs w sl t S K Sp (G fr' stt) u'
variable {fr : Frame} {sm stt : List Frame} {S S' : Nat → Prop} {K K' : Nat → Obj} {Sp Sp' : Nat → Prop} {x y : St} {gs gs' : Array Goroutine} {w w' : World} {sl sl' : Option (Nat × Nat)} {t t' : Trace}
theorem Concl.model (hd : Desc (PF P F) Stop y x) (h : Concl P F Stop fr sm stt S K Sp y gs w sl t) : Concl P F Stop fr sm stt S K Sp x gs w sl t := by
  obtain ⟨fr', u', h1, h2, h3⟩ := h
  exact ⟨fr', u', h1, hd.trans h2, h3⟩
theorem Concl.step {N : Nat} (hr : runNT P N (crowd gs w sl) t = (.next (crowd gs' w' sl'), t')) (h1 : ∀ b, S b → S' b ∧ K' b = K b) (h2 : ∀ b, Sp b → Sp' b) (h3 : ∀ b, Sp' b → Sp b ∨ w.heap.size ≤ b) (h4 : w.heap.size ≤ w'.heap.size)
    (h : Concl P F Stop fr sm stt S' K' Sp' x gs' w' sl' t') : Concl P F Stop fr sm stt S K Sp x gs w sl t := by
  obtain ⟨fr', u', c1, c2, c3, c4⟩ := h
  exact ⟨fr', u', c1, c2, c3, c4.step hr h1 h2 h3 h4⟩
theorem Concl.mach {N : Nat} (hr : runNT P N (crowd gs w sl) t = (.next (crowd gs' w' sl'), t')) (h1 : ∀ b, S b → S' b ∧ K' b = K b) (h4 : w.heap.size ≤ w'.heap.size)
    (h : Concl P F Stop fr sm stt S' K' Sp x gs' w' sl' t') : Concl P F Stop fr sm stt S K Sp x gs w sl t := h.step hr h1 (fun _ h => h) (fun _ h => .inl h) h4
theorem Concl.hide (h1 : ∀ b, S b → S' b ∧ K' b = K b) (h : Concl P F Stop fr sm stt S' K' Sp x gs w sl t) : Concl P F Stop fr sm stt S K Sp x gs w sl t := h.mach (N := 0) rfl h1 (Nat.le_refl _)
structure Here (P : Program) (F : Array Func) (Stop : Frame → List Frame → World → Prop) (fr : Frame) (sm stt : List Frame) (Sp : Nat → Prop) (n : Nat) (x1 : St) (frm : Frame) (u : World) (frt : Frame) (gs : Array Goroutine) (t : Trace) (q : Nat → Nat) : Prop where
  desc : Desc (PF P F) Stop (frm, fr :: sm, u) x1
  fin : Fin_ (PF P F) Stop frm (fr :: sm) u
  h0 : gs[0]? = some (G frt (fr :: stt))
  lv : Leavers P t gs q
  past : PastD (ShunS Sp) 0 t
  size : gs.size = n
variable {n : Nat} {x1 : St} {frm frm' frt frt' : Frame} {u u' : World} {q q' : Nat → Nat}
def NoStop (k0 : FuncId) (Stop : Frame → List Frame → World → Prop) : Prop := ∀ fr stk u, Stop fr stk u → fr.fn ≠ k0 ∧ stk = [c0]
theorem Fin_.go (h : Fin_ (PF P F) Stop frm sm u) (hns : ¬ Stop frm sm u) (τ : Nat → Question → Nat) (d : Nat) :
    ∃ f' s' u' es, stepG (PF P F) true (G frm sm) (re u τ d) = .go (G f' s') u' es ∧ Fin_ (PF P F) Stop f' s' u' ∧ Down (PF P F) Stop (f', s', u') (frm, sm, u) := by
  cases h with
  | stop h => exact absurd h hns
  | step h1 h2 =>
    obtain ⟨f', s', u', es, h⟩ := h1 τ d
    exact ⟨f', s', u', es, h, h2 _ _ _ _ _ _ h, hns, τ, d, es, h⟩
theorem NoStop.at (hS : NoStop k0 Stop) (hm : frm.fn = k0) : ¬ Stop frm sm u := fun h => (hS _ _ _ h).1 hm
theorem Here.model (hS : NoStop k0 Stop) (hm : frm.fn = k0) (h : Here P F Stop fr sm stt Sp n x1 frm u frt gs t q) (hgo : ∀ τ d, ∃ es, stepG (PF P F) true (G frm (fr :: sm)) (re u τ d) = .go (G frm' (fr :: sm)) (re u' τ d) es)
    (next : Here P F Stop fr sm stt Sp n x1 frm' (re u' u.tape u.drawn) frt gs t q → Concl P F Stop fr sm stt S K Sp' (frm', fr :: sm, re u' u.tape u.drawn) gs w sl t) : Concl P F Stop fr sm stt S K Sp' (frm, fr :: sm, u) gs w sl t := by
  obtain ⟨f', s', u2, es, h1, h2, h3⟩ := h.fin.go (hS.at hm) u.tape u.drawn
  obtain ⟨es', h4⟩ := hgo u.tape u.drawn
  rw [h4] at h1
  injection h1 with e1 e2 e3
  injection e1 with e4 e5
  subst e4 e5 e2
  exact Concl.model ((Desc.refl _).tail h3) (next ⟨h.desc.tail h3, h2, h.h0, h.lv, h.past, h.size⟩)
theorem Here.true_ (h : Here P F Stop fr sm stt Sp n x1 frm u frt gs t q) {Q : World → Prop} (hQ : ∀ w', Q w' → w.heap.size ≤ w'.heap.size) (hgo : ∀ d, ∃ w' es, stepG P true (G frt (fr :: stt)) (w.at d) = .go (G frt' (fr :: stt)) w' es ∧ (∀ e ∈ es, EvT (ShunS Sp) e ∧ e.loc ≠ .mark .disable ∧ e.loc ≠ .mark .enable) ∧ Q w')
    (next : ∀ gs' w' sl' t' q', Q w' → Here P F Stop fr sm stt Sp n x1 frm u frt' gs' t' q' → Concl P F Stop fr sm stt S K Sp' x gs' w' sl' t') : Concl P F Stop fr sm stt S K Sp' x gs w sl t := by
  obtain ⟨d, one⟩ := one_step (sl := sl) (w := w) rfl h.h0 h.lv h.past
  obtain ⟨w', es, e1, e2, e3⟩ := hgo d
  obtain ⟨N, gs', sl', t', q', r1, r2, r3, r4, r5⟩ := one _ _ _ e1 (fun e he => (e2 e he).1)
  rw [deafBehind_still (fun e he => (e2 e he).2) 0] at r5
  exact Concl.mach r1 (fun _ h => ⟨h, rfl⟩) (hQ _ e3) (next gs' w' sl' t' q' e3 ⟨h.desc, h.fin, r3, r4, r5, r2.trans h.size⟩)
theorem Here.ctl (h : Here P F Stop fr sm stt Sp n x1 frm u frt gs t q) (hgo : ∀ w, stepG P true (G frt (fr :: stt)) w = .go (G frt' (fr :: stt)) w #[])
    (next : ∀ gs' d sl' t' q', Here P F Stop fr sm stt Sp n x1 frm u frt' gs' t' q' → Concl P F Stop fr sm stt S K Sp' x gs' (w.at d) sl' t') : Concl P F Stop fr sm stt S K Sp' x gs w sl t := by
  obtain ⟨d, one⟩ := one_step (sl := sl) (w := w) rfl h.h0 h.lv h.past
  obtain ⟨N, gs', sl', t', q', r1, r2, r3, r4, r5⟩ := one _ _ _ (hgo _) (by simp)
  exact Concl.mach r1 (fun _ h => ⟨h, rfl⟩) (Nat.le_refl _) (next gs' d sl' t' q' ⟨h.desc, h.fin, r3, r4, r5, r2.trans h.size⟩)
theorem Here.mctl (hS : NoStop k0 Stop) (hm : frm.fn = k0) (h : Here P F Stop fr sm stt Sp n x1 frm u frt gs t q) (hgo : ∀ w, stepG (PF P F) true (G frm (fr :: sm)) w = .go (G frm' (fr :: sm)) w #[])
    (next : Here P F Stop fr sm stt Sp n x1 frm' u frt gs t q → Concl P F Stop fr sm stt S K Sp' (frm', fr :: sm, u) gs w sl t) : Concl P F Stop fr sm stt S K Sp' (frm, fr :: sm, u) gs w sl t :=
  h.model hS hm (u' := u) (fun τ d => ⟨_, hgo _⟩) next
abbrev kf (k0 : FuncId) (a : Act) (todo : List Item) : Frame := (base k0).at a todo
variable {a : Act} {km kt : List Item} {ops ops' : Array Oper} {i i' : Nat} {l l' : List Nat} {o : Oper} {S1 : Nat → Prop} {K1 : Nat → Obj}
theorem kf_finish (v : Value) (k : List Item) : (kf k0 a (.inRegion ops (i :: l) :: k)).finish v = kf k0 (a.put ((ops[i]?).bind (·.dst)) v) (.inRegion ops l :: k) := Frame.finish_at _ _ _ _ _ _ _
theorem two_apply (hF : FitsF P F) (hE : ∀ (fr : Frame) (cs : List Frame) (d : Option Dying) (g : Nat) (w : World), ∃ o w' es, early (PF P F) fr cs d g w = .ended o w' es) {U : Program} (hU : U = PF P F) (ho : ops[i]? = some o) (hw : Region.wanted o (yielded ops a.tmps) = true) (ho' : ops'[i']? = some o) (hw' : Region.wanted o (yielded ops' a.tmps) = true) (hop : okOp P o = true) {T : Nat} {u w : World} {cm ct : List Frame} (hs : Sim ⟨S1, K1, T, 0, 0, w.tape, false⟩ u w)
    (hT : (gw (stepG U true (G (kf k0 a (.inRegion ops (i :: l) :: km)) cm) u)).drawn ≤ T) :
    (∃ oc x y, stepG U true (G (kf k0 a (.inRegion ops (i :: l) :: km)) cm) u = .ended oc x y) ∨
    (∃ v u' w' es es', stepG U true (G (kf k0 a (.inRegion ops (i :: l) :: km)) cm) u = .go (G (kf k0 (a.put o.dst v) (.inRegion ops l :: km)) cm) u' es ∧ stepG P true (G (kf k0 a (.inRegion ops' (i' :: l') :: kt)) ct) w = .go (G (kf k0 (a.put o.dst v) (.inRegion ops' l' :: kt)) ct) w' es' ∧
      Sim ⟨S1, K1, T, 0, 0, w.tape, false⟩ u' w' ∧ (∀ e ∈ es', EvS ⟨S1, K1, T, 0, 0, w.tape, false⟩ u'.heap.size e) ∧ u.heap.size ≤ u'.heap.size ∧ (execOp a.eval o).run U u = .ok (.value v) u') ∨
    (∃ v u' w' es es', stepG U true (G (kf k0 a (.inRegion ops (i :: l) :: km)) cm) u = .go (G (kf k0 (a.put o.dst v) (.inRegion ops l :: km)) cm) u' es ∧ stepG P true (G (kf k0 a (.inRegion ops' (i' :: l') :: kt)) ct) w = .go (G (kf k0 (a.put o.dst v) (.inRegion ops' l' :: kt)) ct) w' es' ∧
      Sim ⟨S1, K1, T, 0, 0, w.tape, false⟩ u' w' ∧ (∀ e ∈ es', EvS ⟨S1, K1, T, 0, 0, w.tape, false⟩ u'.heap.size e) ∧ u.heap.size ≤ u'.heap.size ∧ (execOp a.eval o).run U u = .ok .skip u' ∧ v = undef) ∨
    (∃ f args u' w' es es', stepG U true (G (kf k0 a (.inRegion ops (i :: l) :: km)) cm) u = .go (G (Frame.enter U f args .normal) (kf k0 a (.inRegion ops (i :: l) :: km) :: cm)) u' es ∧
      stepG P true (G (kf k0 a (.inRegion ops' (i' :: l') :: kt)) ct) w = .go (G (Frame.enter P f args .normal) (kf k0 a (.inRegion ops' (i' :: l') :: kt) :: ct)) w' es' ∧ Sim ⟨S1, K1, T, 0, 0, w.tape, false⟩ u' w' ∧ (∀ e ∈ es', EvS ⟨S1, K1, T, 0, 0, w.tape, false⟩ u'.heap.size e) ∧ u.heap.size ≤ u'.heap.size ∧
      (∃ g, F[f]? = some g ∧ g.body.isNone = false) ∧ (execOp a.eval o).run U u = .ok (.enter f args) u') ∨
    (∃ ch u' w' es es', stepG U true (G (kf k0 a (.inRegion ops (i :: l) :: km)) cm) u = .go (G { kf k0 a (.inRegion ops (i :: l) :: km) with mode := .panicking ch } cm) u' es ∧
      stepG P true (G (kf k0 a (.inRegion ops' (i' :: l') :: kt)) ct) w = .go (G { kf k0 a (.inRegion ops' (i' :: l') :: kt) with mode := .panicking ch } ct) w' es' ∧ Sim ⟨S1, K1, T, 0, 0, w.tape, false⟩ u' w' ∧ (∀ e ∈ es', EvS ⟨S1, K1, T, 0, 0, w.tape, false⟩ u'.heap.size e) ∧ u.heap.size ≤ u'.heap.size) := by
  subst hU
  have hk : (base k0).kind ≠ .early := by intro h; cases h
  have hρ : ∀ f, a.eval (.func f) = .func (.func f) #[] #[] := fun f => rfl
  have hss := sim_execOp hF a.eval hρ o hop ⟨S1, K1, T, 0, 0, w.tape, false⟩ u w #[] hs
  have hy := next_execOp hF a.eval hρ o hop
  have hfin : ∀ v k, (kf k0 a (.inRegion ops (i :: l) :: k)).finish v = kf k0 (a.put o.dst v) (.inRegion ops l :: k) := fun v k => by rw [kf_finish, ho]; rfl
  have hfin' : ∀ v k, (kf k0 a (.inRegion ops' (i' :: l') :: k)).finish v = kf k0 (a.put o.dst v) (.inRegion ops' l' :: k) := fun v k => by rw [kf_finish, ho']; rfl
  rw [stepG_oper ho hw] at hT ⊢
  rw [stepG_oper ho' hw']
  generalize execOp a.eval o = s at hss hy hT ⊢
  have hfst := Sem.runT_fst (PF P F) s u #[]
  unfold stepG.apply at hT ⊢
  generalize hrT : s.runT (PF P F) u #[] = rt at hfst hT ⊢
  obtain ⟨r, es⟩ := rt
  dsimp only at hfst
  subst hfst
  cases hr : s.run (PF P F) u with
  | ok nx u' =>
    rw [hr] at hss hT
    have hd : u'.drawn ≤ T := by
      rcases hy u nx u' hr with ⟨v, rfl⟩ | rfl | ⟨f, args, g, rfl, hf, hb⟩
      · exact hT
      · exact hT
      · exact hT
    obtain ⟨w', es', e1, e2, e3, e4⟩ := hss hd
    simp only [e1, if_true]
    have ev : ∀ e ∈ seen P k0 (#[] ++ es') ++ #[], EvS ⟨S1, K1, T, 0, 0, w.tape, false⟩ u'.heap.size e := fun e he => e4 e (by have := mem_seen (by simpa using he : e ∈ seen P k0 (#[] ++ es')); simpa using this)
    rcases hy u nx u' hr with ⟨v, rfl⟩ | rfl | ⟨f, args, g, rfl, hf, hb⟩
    · refine .inr (.inl ⟨v, u', w', seen (PF P F) k0 es ++ #[], seen P k0 (#[] ++ es') ++ #[], ?_, ?_, e2, ev, e3, rfl⟩)
      · rw [← hfin]; rfl
      · rw [← hfin']; rfl
    · refine .inr (.inr (.inl ⟨undef, u', w', seen (PF P F) k0 es ++ #[], seen P k0 (#[] ++ es') ++ #[], ?_, ?_, e2, ev, e3, rfl, rfl⟩))
      · rw [← hfin]; rfl
      · rw [← hfin']; rfl
    · refine .inr (.inr (.inr (.inl ⟨f, args, u', w', seen (PF P F) k0 es ++ #[], seen P k0 (#[] ++ es') ++ #[], ?_, ?_, e2, ev, e3, ⟨g, hf, hb⟩, rfl⟩)))
      · rfl
      · rfl
  | halt x u' =>
    rw [hr] at hss hT
    cases x with
    | stuck m => exact .inl ⟨_, _, _, rfl⟩
    | unsupported m =>
      cases m
      case initOrder g =>
        obtain ⟨oc, w2, es2, q⟩ := hE (kf k0 a (.inRegion ops (i :: l) :: km)) cm none g u'
        have e : GStep.after (seen (PF P F) k0 #[]) (early (PF P F) (kf k0 a (.inRegion ops (i :: l) :: km)) cm none g u') = .ended oc w2 (seen (PF P F) k0 #[] ++ es2) := by rw [q]; rfl
        exact .inl ⟨_, _, _, e⟩
      all_goals exact .inl ⟨_, _, _, rfl⟩
    | fatal m =>
      have hd : u'.drawn ≤ T := Nat.le_trans (endFatal_drawn _ _ _ _ m u') (by rw [gw_after] at hT; exact hT)
      rcases hss hd with hx | ⟨⟨v, hx⟩, _⟩ <;> cases hx
    | exit c => rcases hss hT with hx | ⟨⟨v, hx⟩, _⟩ <;> cases hx
    | throw m => rcases hss hT with hx | ⟨⟨v, hx⟩, _⟩ <;> cases hx
    | blocked => rcases hss hT with hx | ⟨⟨v, hx⟩, _⟩ <;> cases hx
    | waiting => rcases hss hT with hx | ⟨⟨v, hx⟩, _⟩ <;> cases hx
    | goexit => rcases hss hT with hx | ⟨⟨v, hx⟩, _⟩ <;> cases hx
    | panic v =>
      obtain ⟨w', es', e1, e2, e3, e4⟩ := (hss hT).elim (fun q => q.elim) (fun q => q.2)
      simp only [e1, if_true]
      exact .inr (.inr (.inr (.inr ⟨[{ v, recovered := false }], u', w', seen (PF P F) k0 es ++ #[], seen P k0 (#[] ++ es') ++ #[], rfl, rfl, e2, fun e he => e4 e (by have := mem_seen (by simpa using he : e ∈ seen P k0 (#[] ++ es')); simpa using this), e3⟩)))
end
end Go.Proofs.YtemgilofjbnoaaaGreatDoor
namespace Go.Proofs.YtemgilofjbnoaaaGreatDoor
open Go Go.Conc
set_option linter.unusedVariables false
set_option linter.unusedSimpArgs false
section
variable {P : Program} {F : Array Func} {k0 : FuncId} {Stop : Frame → List Frame → World → Prop}
  {fr : Frame} {sm stt : List Frame} {S Sp S0 : Nat → Prop} {K K0 : Nat → Obj} {x x1 : St} {gs : Array Goroutine} {w : World} {sl : Option (Nat × Nat)} {t : Trace} {n : Nat} {u : World} {q : Nat → Nat}
  {a : Act} {km kt : List Item} {ops ops' : Array Oper} {i i' : Nat} {l l' : List Nat} {o : Oper} 
def noCall (o : Oper) : Bool := match o.op with
  | .call { callee := .value _, .. } => false
  | .call { callee := .invoke .., .. } => false
  | _ => true
theorem no_enter (U : Program) (ρ : Operand → Value) (o : Oper) (ho : okOp P o = true) (hc : noCall o = true) : Yields U (fun nx => ∀ f args, nx ≠ .enter f args) (execOp ρ o) := by
  have v : ∀ {γ : Type} {s : Sem γ} {f : γ → Value}, Yields U (fun nx => ∀ f args, nx ≠ .enter f args) (do pure (Next.value (f (← s)))) := fun {γ s f} => Yields.bind (fun a => Yields.pure (by simp))
  have un : ∀ {s : Sem Unit}, Yields U (fun nx => ∀ f args, nx ≠ .enter f args) (do s; pure Next.skip) := fun {s} => Yields.bind (fun a => Yields.pure (by simp))
  obtain ⟨dst, op, type, pos, after, guard⟩ := o
  unfold execOp
  cases op
  case move => exact Yields.pure (by simp)
  case assign => exact Yields.pure (by simp)
  case pick => exact Yields.bind (fun b => Yields.pure (by simp))
  case nilCheck x =>
    dsimp only
    split
    · exact Yields.nilDeref
    · exact Yields.nilDeref
    · exact Yields.nilDeref
    · split
      · exact Yields.nilDeref
      · refine Yields.bind (fun p => Yields.bind (fun r => ?_))
        exact Yields.ite (Yields.bind (fun _ => Yields.pure (by simp))) (Yields.pure (by simp))
      · exact Yields.pure (by simp)
    · exact Yields.pure (by simp)
  case call c =>
    obtain ⟨callee, args, argTypes⟩ := c
    cases callee
    case value f => cases hc
    case builtin b =>
      cases b
      all_goals first
        | (cases ho; done)
        | exact v (f := id)
    case invoke => cases hc
  all_goals first
    | (cases ho; done)
    | exact v (f := id)
    | exact un
theorem Here.panicked {g0 g : Func} (hS : NoStop k0 Stop) (hF0 : F[k0]? = some g0) (hP0 : P.funcs[k0]? = some g) {ch : List PanicEntry} (h : Here P F Stop fr sm stt Sp n x1 { kf k0 a km with mode := .panicking ch } u { kf k0 a kt with mode := .panicking ch } gs t q)
    (ha : a.defers = []) (hsim : Sim0 S K u w) (hSp : ∀ b, Sp b → S b) : Concl P F Stop fr sm stt S K Sp ({ kf k0 a km with mode := .panicking ch }, fr :: sm, u) gs w sl t := by
  have e1 : ∀ (U : Program) (g : Func) (k : List Item) (cs : List Frame) (w : World), U.funcs[k0]? = some g → stepG U true (G { kf k0 a k with mode := .panicking ch } (fr :: cs)) w = .go (G (fr.raise ch) cs) w #[] := by
    intro U g k cs w hg
    have hd : (base k0).roundOf = none := rfl
    obtain ⟨tmps, defers⟩ := a
    simp only at ha
    subst ha
    simp only [kf, base, Frame.at, G, stepG, unwind, Frame.catches, hg]
    rfl
  obtain ⟨f', s', u2, es, h1, h2, h3⟩ := h.fin.go (hS.at rfl) u.tape u.drawn
  rw [e1 _ g0 _ _ _ hF0] at h1
  injection h1 with q1 q2 q3
  injection q1 with q4 q5
  subst q4 q5 q2
  obtain ⟨d, one⟩ := one_step (sl := sl) (w := w) rfl h.h0 h.lv h.past
  obtain ⟨N, gs', sl', t', q', r1, r2, r3, r4, r5⟩ := one _ _ _ (e1 P g kt stt _ hP0) (by simp)
  have h4 : Sim0 S K (re u u.tape u.drawn) (w.at d) := ⟨hsim.size, hsim.out, hsim.ins, hsim.views, hsim.os, hsim.output, hsim.kept⟩
  exact ⟨_, _, .inr ⟨ch, rfl⟩, (Desc.refl _).tail h3, h2, (Comes_.refl hSp r3 r4 r5 h4).step r1 (fun _ h => ⟨h, rfl⟩) (fun _ h => h) (fun _ h => .inl h) (Nat.le_refl _)⟩
theorem PastD.grow {Shun Shun' : Loc → Prop} {d : Nat} {t : Trace} (h : PastD Shun d t) (hs : ∀ l, Shun l → Shun' l) : PastD Shun' d t :=
  ⟨h.clean, fun i a ha hm => (h.known i a ha hm).imp id fun q => ⟨hs _ q.1, q.2⟩, h.over, h.deaf⟩
theorem size_le {S : Nat → Prop} {K : Nat → Obj} {u u' w w' : World} (h : Sim0 S K u w) (h' : Sim0 S K u' w') (hu : u.heap.size ≤ u'.heap.size) : w.heap.size ≤ w'.heap.size := by
  have := h.size; have := h'.size; omega
theorem Here.both {g0 g : Func} (hF : FitsF P F) (hE : ∀ (fr : Frame) (cs : List Frame) (d : Option Dying) (g : Nat) (w : World), ∃ o w' es, early (PF P F) fr cs d g w = .ended o w' es) (hS : NoStop k0 Stop) (hF0 : F[k0]? = some g0) (hP0 : P.funcs[k0]? = some g)
    (h : Here P F Stop fr sm stt Sp n x1 (kf k0 a (.inRegion ops (i :: l) :: km)) u (kf k0 a (.inRegion ops' (i' :: l') :: kt)) gs t q) (ha : a.defers = []) (hsim : Sim0 S K u w) (hsub : ∀ b, S0 b → S b ∧ K b = K0 b) (hSp : ∀ b, Sp b → S b)
    (o : Oper) (ho : ops[i]? = some o) (ho' : ops'[i']? = some o) (hw : Region.wanted o (yielded ops a.tmps) = true) (hw' : Region.wanted o (yielded ops' a.tmps) = true) (hop : okOp P o = true) (hc : noCall o = true)
    (next : ∀ v u' gs' w' sl' t' q' τ d, ((execOp a.eval o).run (PF P F) (re u τ d) = .ok (.value v) u' ∨ ((execOp a.eval o).run (PF P F) (re u τ d) = .ok .skip u' ∧ v = undef)) → Here P F Stop fr sm stt Sp n x1 (kf k0 (a.put o.dst v) (.inRegion ops l :: km)) u' (kf k0 (a.put o.dst v) (.inRegion ops' l' :: kt)) gs' t' q' → Sim0 S K u' w' → u.heap.size ≤ u'.heap.size →
      Concl P F Stop fr sm stt S0 K0 Sp (kf k0 (a.put o.dst v) (.inRegion ops l :: km), fr :: sm, u') gs' w' sl' t') :
    Concl P F Stop fr sm stt S0 K0 Sp (kf k0 a (.inRegion ops (i :: l) :: km), fr :: sm, u) gs w sl t := by
  obtain ⟨d, one⟩ := one_step (sl := sl) (w := w) rfl h.h0 h.lv h.past
  obtain ⟨f', s', u2, es0, h1, h2, h3⟩ := h.fin.go (hS.at rfl) (w.at d).tape (w.at d).drawn
  have hs1 := (hsim.at d).sim (m := false) (gw (stepG (PF P F) true (G (kf k0 a (.inRegion ops (i :: l) :: km)) (fr :: sm)) (re u (w.at d).tape (w.at d).drawn))).drawn
  rcases two_apply (k0 := k0) (km := km) (kt := kt) (cm := fr :: sm) (ct := fr :: stt) hF hE rfl ho hw ho' hw' hop hs1 (Nat.le_refl _) with ⟨oc, xx, y, e⟩ | ⟨v, u', w', es, es', k1, k2, k3, k4, k6, k5⟩ | ⟨v, u', w', es, es', k1, k2, k3, k4, k6, k5, k7⟩ | ⟨f, args, u', w', es, es', k1, k2, k3, k4, k6, _, k5⟩ | ⟨ch, u', w', es, es', k1, k2, k3, k4, k6⟩
  · rw [e] at h1; cases h1
  · rw [k1] at h1
    injection h1 with q1 q2 q3
    injection q1 with q4 q5
    subst q4 q5 q2
    obtain ⟨N, gs', sl', t', q', r1, r2, r3, r4, r5⟩ := one _ _ _ k2 (fun e he => evS_evT (S := ⟨S, K, _, 0, 0, _, _⟩) hSp (k4 e he))
    rw [evS_still k4 0] at r5
    exact Concl.model ((Desc.refl _).tail h3) (Concl.mach r1 (fun _ h => ⟨h, rfl⟩) (size_le hsim k3.sim0 k6) (next v u' gs' w' sl' t' q' _ _ (.inl k5) ⟨h.desc.tail h3, h2, r3, r4, r5, r2.trans h.size⟩ k3.sim0 k6))
  · rw [k1] at h1
    injection h1 with q1 q2 q3
    injection q1 with q4 q5
    subst q4 q5 q2
    obtain ⟨N, gs', sl', t', q', r1, r2, r3, r4, r5⟩ := one _ _ _ k2 (fun e he => evS_evT (S := ⟨S, K, _, 0, 0, _, _⟩) hSp (k4 e he))
    rw [evS_still k4 0] at r5
    exact Concl.model ((Desc.refl _).tail h3) (Concl.mach r1 (fun _ h => ⟨h, rfl⟩) (size_le hsim k3.sim0 k6) (next v u' gs' w' sl' t' q' _ _ (.inr ⟨k5, k7⟩) ⟨h.desc.tail h3, h2, r3, r4, r5, r2.trans h.size⟩ k3.sim0 k6))
  · exact absurd rfl (no_enter (P := P) _ _ o hop hc _ _ _ k5 f args)
  · rw [k1] at h1
    injection h1 with q1 q2 q3
    injection q1 with q4 q5
    subst q4 q5 q2
    obtain ⟨N, gs', sl', t', q', r1, r2, r3, r4, r5⟩ := one _ _ _ k2 (fun e he => evS_evT (S := ⟨S, K, _, 0, 0, _, _⟩) hSp (k4 e he))
    rw [evS_still k4 0] at r5
    exact Concl.model ((Desc.refl _).tail h3) (Concl.mach r1 (fun _ h => ⟨h, rfl⟩) (size_le hsim k3.sim0 k6) (Concl.hide hsub <| Here.panicked hS hF0 hP0 ⟨h.desc.tail h3, h2, r3, r4, r5, r2.trans h.size⟩ ha k3.sim0 hSp))
theorem Here.call {g0 g : Func} (hK : FitsK P F k0) (hS : NoStop k0 Stop) (hF0 : F[k0]? = some g0) (hP0 : P.funcs[k0]? = some g) (hT : ∀ z, Desc (PF P F) Stop z x1 → Trans P F k0 Stop z)
    (h : Here P F Stop fr sm stt Sp n x1 (kf k0 a (.inRegion ops (i :: l) :: km)) u (kf k0 a (.inRegion ops' (i' :: l') :: kt)) gs t q) (ha : a.defers = []) (hsim : Sim0 S K u w) (hsub : ∀ b, S0 b → S b ∧ K b = K0 b) (hSp : ∀ b, Sp b → S b)
    (o : Oper) (ho : ops[i]? = some o) (ho' : ops'[i']? = some o) (hw : Region.wanted o (yielded ops a.tmps) = true) (hw' : Region.wanted o (yielded ops' a.tmps) = true) (hop : okOp P o = true) (hne : ∀ f args u0 u1, (execOp a.eval o).run (PF P F) u0 = .ok (.enter f args) u1 → f ≠ k0) (hen : ∀ u0 u1, (∀ v, (execOp a.eval o).run (PF P F) u0 ≠ .ok (.value v) u1) ∧ (execOp a.eval o).run (PF P F) u0 ≠ .ok .skip u1)
    (next : ∀ v u' gs' n' w' sl' t' q' S2 K2 Sp2, Here P F Stop fr sm stt Sp2 n' x1 (kf k0 (a.put o.dst v) (.inRegion ops l :: km)) u' (kf k0 (a.put o.dst v) (.inRegion ops' l' :: kt)) gs' t' q' → Sim0 S2 K2 u' w' → (∀ b, S b → S2 b ∧ K2 b = K b) → (∀ b, Sp2 b → S2 b) → (∀ b, Sp2 b → Sp b ∨ w.heap.size ≤ b) → w.heap.size ≤ w'.heap.size →
      Concl P F Stop fr sm stt S0 K0 Sp2 (kf k0 (a.put o.dst v) (.inRegion ops l :: km), fr :: sm, u') gs' w' sl' t') :
    Concl P F Stop fr sm stt S0 K0 Sp (kf k0 a (.inRegion ops (i :: l) :: km), fr :: sm, u) gs w sl t := by
  obtain ⟨d, one⟩ := one_step (sl := sl) (w := w) rfl h.h0 h.lv h.past
  obtain ⟨f', s', u2, es0, h1, h2, h3⟩ := h.fin.go (hS.at rfl) (w.at d).tape (w.at d).drawn
  have hs1 := (hsim.at d).sim (m := false) (gw (stepG (PF P F) true (G (kf k0 a (.inRegion ops (i :: l) :: km)) (fr :: sm)) (re u (w.at d).tape (w.at d).drawn))).drawn
  rcases two_apply (k0 := k0) (km := km) (kt := kt) (cm := fr :: sm) (ct := fr :: stt) hK.fits hK.early_ rfl ho hw ho' hw' hop hs1 (Nat.le_refl _) with ⟨oc, xx, y, e⟩ | ⟨v, u', w', es, es', k1, k2, k3, k4, k6, k5⟩ | ⟨v, u', w', es, es', k1, k2, k3, k4, k6, k5, k7⟩ | ⟨f, args, u', w', es, es', k1, k2, k3, k4, k6, ⟨gf, hgf, hgb⟩, k5⟩ | ⟨ch, u', w', es, es', k1, k2, k3, k4, k6⟩
  · rw [e] at h1; cases h1
  · exact absurd k5 ((hen _ _).1 v)
  · exact absurd k5 (hen _ _).2
  · rw [k1] at h1
    injection h1 with q1 q2 q3
    injection q1 with q4 q5
    subst q4 q5 q2
    obtain ⟨N, gs', sl', t', q', r1, r2, r3, r4, r5⟩ := one _ _ _ k2 (fun e he => evS_evT (S := ⟨S, K, _, 0, 0, _, _⟩) hSp (k4 e he))
    rw [evS_still k4 0] at r5
    have hsz := size_le hsim k3.sim0 k6
    refine Concl.model ((Desc.refl _).tail h3) (Concl.mach r1 (fun _ h => ⟨h, rfl⟩) hsz ?_)
    obtain ⟨e1, e2⟩ := enter_ok (args := args) hK hgf hgb (hne f args _ _ k5)
    have htr := hT _ (h.desc.tail h3)
    obtain ⟨f2, u2, m1, m2, m3, m4, N2, gs2, w2, sl2, t2, q2, S2, K2, Sp2, c1, c2, c3, c4, c5, c6, c7, c8, c9, c10⟩ := htr [] (kf k0 a (.inRegion ops (i :: l) :: km) :: fr :: sm) (kf k0 a (.inRegion ops' (i' :: l') :: kt) :: fr :: stt) S K Sp gs' w' sl' t' q' hSp rfl (by simp) h2 (by rw [e1]; exact e2) (by simp) k3.sim0 (by rw [r3, e1]; rfl) r4 r5
    obtain ⟨d2, one2⟩ := one_step (sl := sl2) (w := w2) rfl c2 c3 c4
    refine Concl.model m3 (Concl.step c1 (fun _ h => ⟨h, rfl⟩) c8 c9 c10 ?_)
    have hns : ¬ Stop f2 (kf k0 a (.inRegion ops (i :: l) :: km) :: fr :: sm) u2 := fun hst => by have := (hS _ _ _ hst).2; simp at this
    obtain ⟨f3, s3, u3, es3, g1, g2, g3⟩ := m4.go hns (w2.at d2).tape (w2.at d2).drawn
    have hs2 := (c5.at d2).sim (m := true) (gw (stepG (PF P F) true (G f2 (kf k0 a (.inRegion ops (i :: l) :: km) :: fr :: sm)) (re u2 (w2.at d2).tape (w2.at d2).drawn))).drawn
    have hfin : ∀ v k, (kf k0 a (.inRegion ops (i :: l) :: k)).finish v = kf k0 (a.put o.dst v) (.inRegion ops l :: k) := fun v k => by rw [kf_finish, ho]; rfl
    have hfin' : ∀ v k, (kf k0 a (.inRegion ops' (i' :: l') :: k)).finish v = kf k0 (a.put o.dst v) (.inRegion ops' l' :: k) := fun v k => by rw [kf_finish, ho']; rfl
    have hd3 := (h.desc.tail h3).trans (m3.tail g3)
    have low9 : ∀ b, Sp2 b → Sp b ∨ w.heap.size ≤ b := fun b hb => (c9 b hb).imp id fun q => Nat.le_trans hsz q
    cases hm : f2.mode with
    | run => exact absurd hm m2
    | returning =>
      rcases leave_return (bm := fr :: sm) (bt := fr :: stt) (c := kf k0 a (.inRegion ops (i :: l) :: km)) (c' := kf k0 a (.inRegion ops' (i' :: l') :: kt)) hs2 m1 hm (Nat.le_refl _) with ⟨o', u4, es4, e⟩ | ⟨v, u4, w4, es4, es5, e4, e5, e6, e7, e8⟩
      · rw [e] at g1; cases g1
      · rw [e4] at g1
        injection g1 with q1 q2 q3
        injection q1 with q4 q5
        subst q4 q5 q2
        obtain ⟨N3, gs3, sl3, t3, q3, p1, p2, p3, p4, p5⟩ := one2 _ _ _ e5 (fun e he => evS_evT (S := ⟨S2, K2, _, 0, 0, _, _⟩) c7 (e8 e he))
        rw [evS_still e8 0] at p5
        rw [hfin] at g2 g3 hd3
        rw [hfin'] at p3
        refine Concl.model ((Desc.refl _).tail g3) (Concl.mach p1 (fun _ h => ⟨h, rfl⟩) (size_le c5 e6.sim0 e7) (next v u4 gs3 gs3.size w4 sl3 t3 q3 S2 K2 Sp2 ⟨hd3, g2, p3, p4, p5, rfl⟩ e6.sim0 c6 c7 low9 ?_))
        exact Nat.le_trans hsz (Nat.le_trans c10 (size_le c5 e6.sim0 e7))
    | panicking ch =>
      obtain ⟨e4, e5⟩ := leave_panic (bm := fr :: sm) (bt := fr :: stt) (u := re u2 (w2.at d2).tape (w2.at d2).drawn) (w := w2.at d2) m1 hm (c := kf k0 a (.inRegion ops (i :: l) :: km)) (c' := kf k0 a (.inRegion ops' (i' :: l') :: kt))
      rw [e4] at g1
      injection g1 with q1 q2 q3
      injection q1 with q4 q5
      subst q4 q5 q2
      obtain ⟨N3, gs3, sl3, t3, q3, p1, p2, p3, p4, p5⟩ := one2 _ _ _ e5 (by simp)
      exact Concl.model ((Desc.refl _).tail g3) (Concl.mach p1 (fun _ h => ⟨h, rfl⟩) (Nat.le_refl _) (Concl.hide (fun b hb => ⟨(c6 b (hsub b hb).1).1, ((c6 b (hsub b hb).1).2).trans (hsub b hb).2⟩) <| Here.panicked hS hF0 hP0 ⟨hd3, g2, p3, p4, p5, p2⟩ ha hs2.sim0 c7))
  · rw [k1] at h1
    injection h1 with q1 q2 q3
    injection q1 with q4 q5
    subst q4 q5 q2
    obtain ⟨N, gs', sl', t', q', r1, r2, r3, r4, r5⟩ := one _ _ _ k2 (fun e he => evS_evT (S := ⟨S, K, _, 0, 0, _, _⟩) hSp (k4 e he))
    rw [evS_still k4 0] at r5
    exact Concl.model ((Desc.refl _).tail h3) (Concl.mach r1 (fun _ h => ⟨h, rfl⟩) (size_le hsim k3.sim0 k6) (Concl.hide hsub <| Here.panicked hS hF0 hP0 ⟨h.desc.tail h3, h2, r3, r4, r5, r2.trans h.size⟩ ha k3.sim0 hSp))
end
end Go.Proofs.YtemgilofjbnoaaaGreatDoor
namespace Go.Proofs.YtemgilofjbnoaaaGreatDoor
open Go Go.Conc Go.ConcN
open Go.ConcR (stA smA g_of_ofEvents)
set_option linter.unusedVariables false
set_option linter.unusedSimpArgs false
structure Fam where
  Sh : Loc → Prop
  Shun : Loc → Prop
  Own : Nat → Loc → Prop
  Rd : Nat → Loc → Prop
structure Fam.Apart (f : Fam) : Prop where
  own : ∀ k k' l, f.Own k l → f.Own k' l → k = k'
  ownRd : ∀ k k' l, f.Own k l → ¬ f.Rd k' l
  ownSh : ∀ k l, f.Own k l → ¬ f.Sh l
  rdSh : ∀ k l, f.Rd k l → ¬ f.Sh l
  shun : ∀ l, f.Shun l → ¬ f.Sh l
  ownShun : ∀ k l, f.Own k l → ¬ f.Shun l
  rdShun : ∀ k l, f.Rd k l → ¬ f.Shun l
  ownMem : ∀ k l, f.Own k l → l.isMemory = true
  rdMem : ∀ k l, f.Rd k l → l.isMemory = true
  shMem : ∀ l, f.Sh l → l.isMemory = true
structure T3 (f : Fam) (R : Nat → Prop) (t : Trace) : Prop where
  zero : ¬ R 0
  quiet : ∀ i op x, t[i]? = some op → op.act.touch? = some x → f.Sh x.loc → (x.kind ≠ .plain ∧ (x.kind = .said → op.g = 0)) ∨ (Knows t 0 i ∧ ∀ k, R k → Knows t k i)
  own : ∀ k, R k → ∀ l, f.Own k l → Perm t k l
  rd : ∀ k, R k → ∀ l, f.Rd k l → PermW t k l
  free : ∀ l, l.isMemory = true → ¬ f.Sh l → ¬ f.Shun l → (∀ k, R k → ¬ f.Own k l ∧ ¬ f.Rd k l) → Perm t 0 l
  mine : ∀ l, l.isMemory = true → ¬ f.Sh l → ¬ f.Shun l → (∀ k, R k → ¬ f.Own k l) → PermW t 0 l
  nr : ∀ said, ¬ Race said t
  touch : ∀ i op x, t[i]? = some op → op.act.touch? = some x → x.loc.isMemory = true → Knows t 0 i ∨ (f.Shun x.loc ∧ x.kind = .atomic) ∨ R op.g
  over : ∀ i g, t.g? i = some g → g ≠ 0 → ¬ R g → t.counts i → ∃ j, t.g? j = some 0 ∧ HappensBefore t i j
def OkT (f : Fam) (R : Nat → Prop) (g : Nat) (op : MemOp) : Prop :=
  op.g = g ∧ ∀ x, op.act.touch? = some x → (f.Sh x.loc ∧ x.kind ≠ .plain ∧ (x.kind = .said → g = 0)) ∨ (R g ∧ (f.Own g x.loc ∨ (f.Rd g x.loc ∧ x.write = false)))
theorem counts_touch {t : Trace} {i : Nat} (h : t.counts i) : ∃ x, touchAt t i = some x := by
  obtain ⟨x, hx, _⟩ := h
  exact ⟨x, hx⟩
theorem g?_lt {t : Trace} {i g : Nat} (h : t.g? i = some g) : i < t.size := by
  unfold Trace.g? at h
  obtain ⟨z, hz, _⟩ := Option.map_eq_some_iff.1 h
  exact lt_size_of_getElem? hz
theorem race_none {said : Bool} {t u : Trace} (h : ¬ Race said t) (hu : ∀ op ∈ u, op.act.touch? = none) : ¬ Race said (t ++ u) := by
  rintro ⟨i, j, hij, ⟨a, b, ha, hb, hc⟩, n1, n2⟩
  obtain ⟨x, hx, hxa⟩ := touch_of ha
  obtain ⟨y, hy, hyb⟩ := touch_of hb
  rcases getElem?_append_cases hy with ⟨hj, hy'⟩ | ⟨_, hyu⟩
  · have hi : i < t.size := Nat.lt_trans hij hj
    have hx' : t[i]? = some x := by rw [← getElem?_append_old (u := u) hi]; exact hx
    exact h ⟨i, j, hij, ⟨a, b, by simp [Trace.act?, hx', hxa], by simp [Trace.act?, hy', hyb], hc⟩, fun e => n1 (hb_app u e), fun e => n2 (hb_app u e)⟩
  · rw [hu y hyu] at hyb; cases hyb
section
variable {f : Fam} {R : Nat → Prop} {t u : Trace}
theorem over_app (h : ∀ i g, t.g? i = some g → g ≠ 0 → ¬ R g → t.counts i → ∃ j, t.g? j = some 0 ∧ HappensBefore t i j) (hu : ∀ op ∈ u, op.act.touch? = none ∨ op.g = 0 ∨ R op.g) :
    ∀ i g, (t ++ u).g? i = some g → g ≠ 0 → ¬ R g → (t ++ u).counts i → ∃ j, (t ++ u).g? j = some 0 ∧ HappensBefore (t ++ u) i j := by
  intro i g hg hne hR hc
  obtain ⟨op, hop, hog⟩ := Option.map_eq_some_iff.1 hg
  rcases getElem?_append_cases hop with ⟨hi, hop'⟩ | ⟨_, hopu⟩
  · obtain ⟨j, hj, hb⟩ := h i g (by rw [← g?_old (u := u) hi]; exact hg) hne hR ((counts_old hi).1 hc)
    exact ⟨j, by rw [g?_old (g?_lt hj)]; exact hj, hb_app u hb⟩
  · rcases hu op hopu with h0 | h0 | h0
    · obtain ⟨x, hx⟩ := counts_touch hc
      rw [touchAt_of hop, h0] at hx; cases hx
    · exact absurd (hog ▸ h0) hne
    · exact absurd (hog ▸ h0) hR
theorem T3.app (A : f.Apart) (h : T3 f R t) {g : Nat} (hg : g = 0 ∨ R g) (hu : ∀ op ∈ u, OkT f R g op) : T3 f R (t ++ u) := by
  refine ⟨h.zero, fun i op x hi hx hs => ?_, fun k hk l hl => (h.own k hk l hl).app fun op hop b hb e => ?_, fun k hk l hl => (h.rd k hk l hl).app fun op hop b hb e hw => ?_,
    fun l hm hs hn hl => (h.free l hm hs hn hl).app fun op hop b hb e => ?_, fun l hm hs hn hl => (h.mine l hm hs hn hl).app fun op hop b hb e hw => ?_, fun said => ?_, fun i op x hi hx hm => ?_, over_app h.over fun op hop => ?_⟩
  · rcases getElem?_append_cases hi with ⟨_, hi'⟩ | ⟨_, hiu⟩
    · exact (h.quiet i op x hi' hx hs).imp id fun q => ⟨q.1.app u, fun k hk => (q.2 k hk).app u⟩
    · rcases (hu op hiu).2 x hx with ⟨_, h1, h2⟩ | ⟨_, ho | ⟨hr, _⟩⟩
      · exact .inl ⟨h1, fun e => (hu op hiu).1.trans (h2 e)⟩
      · exact absurd hs (A.ownSh _ _ ho)
      · exact absurd hs (A.rdSh _ _ hr)
  · rcases (hu op hop).2 b hb with ⟨hs, _⟩ | ⟨_, ho | ⟨hr, _⟩⟩
    · exact absurd (e ▸ hs) (A.ownSh k l hl)
    · rw [(hu op hop).1]; exact A.own g k l (e ▸ ho) hl
    · exact absurd (e ▸ hr) (A.ownRd k g l hl)
  · rcases (hu op hop).2 b hb with ⟨hs, _⟩ | ⟨_, ho | ⟨_, hr⟩⟩
    · exact absurd (e ▸ hs) (A.rdSh k l hl)
    · exact absurd hl (A.ownRd g k l (e ▸ ho))
    · rw [hr] at hw; cases hw
  · rcases (hu op hop).2 b hb with ⟨hs', _⟩ | ⟨hR, ho | ⟨hr, _⟩⟩
    · exact absurd (e ▸ hs') hs
    · exact absurd (e ▸ ho) (hl g hR).1
    · exact absurd (e ▸ hr) (hl g hR).2
  · rcases (hu op hop).2 b hb with ⟨hs', _⟩ | ⟨hR, ho | ⟨_, hr⟩⟩
    · exact absurd (e ▸ hs') hs
    · exact absurd (e ▸ ho) (hl g hR)
    · rw [hr] at hw; cases hw
  · refine noRace_append (h.nr said) (fun op hop => (hu op hop).1) (fun i a ha op hop b hb hc => ?_)
    rcases (hu op hop).2 b hb with ⟨hs, hk, hn⟩ | ⟨hR, ho | ⟨hr, hbw⟩⟩
    · obtain ⟨x, hx, hxa⟩ := touch_of ha
      obtain ⟨hloc, _, _, hkind⟩ := hc
      rcases h.quiet i x a hx hxa (hloc ▸ hs) with ⟨q1, q2⟩ | ⟨q1, q2⟩
      · rcases hkind with e | e | ⟨_, e1, e2⟩
        · exact absurd e q1
        · exact absurd e hk
        · have := knows_own hx
          rwa [q2 e1, ← hn e2] at this
      · rcases hg with rfl | hR
        · exact q1
        · exact q2 g hR
    · exact h.own g hR b.loc ho i a ha hc.1
    · exact h.rd g hR b.loc hr i a ha hc.1 (hc.2.2.1.resolve_right (by simp [hbw]))
  · rcases getElem?_append_cases hi with ⟨_, hi'⟩ | ⟨_, hiu⟩
    · exact (h.touch i op x hi' hx hm).imp (·.app u) id
    · rcases hg with rfl | hR
      · have := knows_own hi
        rw [(hu op hiu).1] at this
        exact .inl this
      · exact .inr (.inr (by rw [(hu op hiu).1]; exact hR))
  · rw [(hu op hop).1]; exact .inr hg
theorem T3.mute (h : T3 f R t) (hu : ∀ op ∈ u, op.act.touch? = none) : T3 f R (t ++ u) := by
  have no : ∀ op ∈ u, ∀ b, op.act.touch? = some b → False := fun op hop b hb => by rw [hu op hop] at hb; cases hb
  refine ⟨h.zero, fun i op x hi hx hs => ?_, fun k hk l hl => (h.own k hk l hl).app fun op hop b hb e => (no op hop b hb).elim, fun k hk l hl => (h.rd k hk l hl).app fun op hop b hb e hw => (no op hop b hb).elim,
    fun l hm hs hn hl => (h.free l hm hs hn hl).app fun op hop b hb e => (no op hop b hb).elim, fun l hm hs hn hl => (h.mine l hm hs hn hl).app fun op hop b hb e hw => (no op hop b hb).elim, fun said => race_none (h.nr said) hu, fun i op x hi hx hm => ?_, over_app h.over fun op hop => .inl (hu op hop)⟩
  · rcases getElem?_append_cases hi with ⟨_, hi'⟩ | ⟨_, hiu⟩
    · exact (h.quiet i op x hi' hx hs).imp id fun q => ⟨q.1.app u, fun k hk => (q.2 k hk).app u⟩
    · exact (no op hiu x hx).elim
  · rcases getElem?_append_cases hi with ⟨_, hi'⟩ | ⟨_, hiu⟩
    · exact (h.touch i op x hi' hx hm).imp (·.app u) id
    · exact (no op hiu x hx).elim
theorem T3.fork (A : f.Apart) (h : T3 f R t) {k : Nat} {x y : MemOp} (hx : x.g = 0 ∧ x.act = .go k) (hy : y.g = k ∧ y.act = .start) (h0 : Deaf t 0 = 0) (hk : Deaf t k = 0) (hRk : ¬ R k) (hk0 : k ≠ 0) :
    T3 f (fun j => R j ∨ j = k) (t ++ #[x, y]) := by
  have hm : ∀ op ∈ #[x, y], op = x ∨ op = y := by intro op hop; simpa using hop
  have hu : ∀ op ∈ #[x, y], op.act.touch? = none := by
    intro op hop
    rcases hm op hop with rfl | rfl
    · rw [hx.2]; rfl
    · rw [hy.2]; rfl
  have no : ∀ op ∈ #[x, y], ∀ b, op.act.touch? = some b → False := fun op hop b hb => by rw [hu op hop] at hb; cases hb
  have h' := h.mute hu
  have old : ∀ {i : Nat} {a : Touch}, touchAt (t ++ #[x, y]) i = some a → touchAt t i = some a := by
    intro i a ha
    obtain ⟨z, hz, hza⟩ := touch_of ha
    rcases getElem?_append_cases hz with ⟨_, hz'⟩ | ⟨_, hzu⟩
    · rw [touchAt_of hz']; exact hza
    · exact (no z hzu a hza).elim
  have kn : ∀ {i : Nat}, Knows t 0 i → Knows (t ++ #[x, y]) k i := fun h => fork_knows hx hy h0 hk h
  refine ⟨fun q => q.elim h.zero fun e => hk0 e.symm, fun i op z hi hz hs => ?_, fun j hj l hl => ?_, fun j hj l hl => ?_, fun l hm hs hn hl => h'.free l hm hs hn fun j hj => hl j (.inl hj), fun l hm hs hn hl => h'.mine l hm hs hn fun j hj => hl j (.inl hj),
    h'.nr, fun i op z hi hz hm => (h'.touch i op z hi hz hm).imp id (·.imp id .inl), fun i g hg hne hR hc => h'.over i g hg hne (fun q => hR (.inl q)) hc⟩
  · rcases getElem?_append_cases hi with ⟨_, hi'⟩ | ⟨_, hiu⟩
    · exact (h.quiet i op z hi' hz hs).imp id fun q => ⟨q.1.app _, fun j hj => hj.elim (fun hj => (q.2 j hj).app _) (fun e => by subst e; exact kn q.1)⟩
    · exact (no op hiu z hz).elim
  · rcases hj with hj | rfl
    · exact h'.own j hj l hl
    · exact fun i a ha e => kn (h.free l (A.ownMem _ _ hl) (A.ownSh _ _ hl) (A.ownShun _ _ hl) (fun j' hj' => ⟨fun ho => hRk (A.own _ _ _ ho hl ▸ hj'), A.ownRd _ _ _ hl⟩) i a (old ha) e)
  · rcases hj with hj | rfl
    · exact h'.rd j hj l hl
    · exact fun i a ha e hw => kn (h.mine l (A.rdMem _ _ hl) (A.rdSh _ _ hl) (A.rdShun _ _ hl) (fun j' hj' ho => A.ownRd _ _ _ ho hl) i a (old ha) e hw)
theorem T3.of_past {d : Nat} (A : f.Apart) (h : PastD f.Shun d t) : T3 f (fun _ => False) t := by
  have kn : ∀ i a, touchAt t i = some a → a.loc.isMemory = true → ¬ f.Shun a.loc → Knows t 0 i := fun i a ha hm hn => (h.known i a ha hm).resolve_right fun q => hn q.1
  refine ⟨id, fun i op x hi hx hs => .inr ⟨kn i x (by rw [touchAt_of hi]; exact hx) (A.shMem _ hs) (fun hn => A.shun _ hn hs), fun _ q => q.elim⟩, fun _ q => q.elim, fun _ q => q.elim, fun l hm hs hn _ i a ha e => kn i a ha (e ▸ hm) (e ▸ hn), fun l hm hs hn _ i a ha e _ => kn i a ha (e ▸ hm) (e ▸ hn),
    h.clean, fun i op x hi hx hm => (h.known i x (by rw [touchAt_of hi]; exact hx) hm).imp id .inl, fun i g hg hne _ hc => h.over i g hg hne hc⟩
structure Rel3 (f : Fam) (a : Addr) (n0 : Nat) (t : Trace) (k r : Nat) : Prop where
  low : n0 ≤ r
  by_ : RelBy a t k r
  after : ∀ i, r < i → t.g? i = some k → ∀ x, touchAt t i = some x → f.Sh x.loc ∧ x.kind = .atomic
theorem Rel3.app {a : Addr} {n0 k r : Nat} (h : Rel3 f a n0 t k r) (h1 : RelBy a (t ++ u) k r) (h2 : ∀ op ∈ u, op.g = k → ∀ x, op.act.touch? = some x → f.Sh x.loc ∧ x.kind = .atomic) : Rel3 f a n0 (t ++ u) k r := by
  refine ⟨h.low, h1, fun i hi hg x hx => ?_⟩
  obtain ⟨op, hop, hog⟩ := Option.map_eq_some_iff.1 hg
  rcases getElem?_append_cases hop with ⟨hlt, _⟩ | ⟨_, hou⟩
  · exact h.after i hi (by rw [← g?_old (u := u) hlt]; exact hg) x (by rw [← touchAt_old (u := u) hlt]; exact hx)
  · exact h2 op hou hog x (by rw [← touchAt_of hop]; exact hx)
theorem Rel3.other {a : Addr} {n0 k r : Nat} (h : Rel3 f a n0 t k r) (hu : ∀ op ∈ u, op.g ≠ k) : Rel3 f a n0 (t ++ u) k r :=
  h.app (h.by_.appNot hu) fun op hop e => absurd e (hu op hop)
theorem Rel3.mute {a : Addr} {n0 k r : Nat} (h : Rel3 f a n0 t k r) (hu : ∀ op ∈ u, op.act.touch? = none) : Rel3 f a n0 (t ++ u) k r := by
  refine h.app (h.by_.app fun i hi hg hc => ?_) fun op hop _ x hx => by rw [hu op hop] at hx; cases hx
  obtain ⟨op, ho, hog⟩ := Option.map_eq_some_iff.1 hg
  rcases getElem?_append_cases ho with ⟨hlt, _⟩ | ⟨_, hou⟩
  · omega
  · obtain ⟨x, hx⟩ := counts_touch hc
    rw [touchAt_of ho, hu op hou] at hx; cases hx
def NoRel (a : Addr) (n0 : Nat) (t : Trace) : Prop := ∀ i, n0 ≤ i → t.act? i ≠ some (.mark (.release a))
theorem NoRel.app {a : Addr} {n0 : Nat} (h : NoRel a n0 t) (hu : ∀ op ∈ u, op.act ≠ .mark (.release a)) : NoRel a n0 (t ++ u) := by
  intro i hi hx
  obtain ⟨op, ho, hoa⟩ := Option.map_eq_some_iff.1 hx
  rcases getElem?_append_cases ho with ⟨_, ho'⟩ | ⟨_, hou⟩
  · exact h i hi (by rw [act?_of ho', hoa])
  · exact hu op hou hoa
def Acq3 (f : Fam) (a : Addr) (n0 : Nat) (R : Nat → Prop) (t : Trace) : Prop :=
  ∃ q, t.act? q = some (.mark (.acquire a)) ∧ t.g? q = some 0 ∧ t.heard q ∧ ∀ k, R k → ∃ r, Rel3 f a n0 t k r ∧ r < q
theorem Acq3.app {a : Addr} {n0 : Nat} (h : Acq3 f a n0 R t) (hu : ∀ k r, R k → Rel3 f a n0 t k r → Rel3 f a n0 (t ++ u) k r) : Acq3 f a n0 R (t ++ u) := by
  obtain ⟨q, h1, h2, h3, h4⟩ := h
  have hq := lt_of_act? h1
  exact ⟨q, by rw [act?_old hq]; exact h1, by rw [g?_old hq]; exact h2, (heard_old hq).2 h3, fun k hk => let ⟨r, hr, hrq⟩ := h4 k hk; ⟨r, hu k r hk hr, hrq⟩⟩
theorem T3.past {a : Addr} {n0 : Nat} (h : T3 f R t) (hacq : Acq3 f a n0 R t) (hn : NoRel a n0 t) (hd : Deaf t 0 = 0) {S' : Loc → Prop} (h1 : ∀ l, f.Shun l → S' l) (h2 : ∀ l, f.Sh l → S' l) : PastD S' 0 t := by
  obtain ⟨q, q1, q2, q3, q4⟩ := hacq
  have edge : ∀ k, R k → ∃ r, Rel3 f a n0 t k r ∧ r < q ∧ HappensBefore t r q := by
    intro k hk
    obtain ⟨r, hr, hrq⟩ := q4 k hk
    exact ⟨r, hr, hrq, .single (.inr ⟨.marked hrq (.inr hr.by_.act) q1 (fun j hj _ => hn j (Nat.le_trans hr.low (Nat.le_of_lt hj))), hr.by_.heard, q3⟩)⟩
  obtain ⟨zq, hzq, hgq⟩ := Option.map_eq_some_iff.1 q2
  have bef : ∀ k r i, RelBy a t k r → t.g? i = some k → i ≤ r → Before t i r := by
    intro k r i hr hg hle
    rcases Nat.lt_or_ge i r with hlt | hge
    · exact .inr (.single (.inl ⟨hlt, k, hg, hr.g⟩))
    · exact .inl (by omega)
  refine ⟨h.nr, fun i x hx hm => ?_, fun i g hg hne hc => ?_, hd⟩
  · obtain ⟨op, hop, hox⟩ := touch_of hx
    rcases h.touch i op x hop hox hm with hk | ⟨hs, hk⟩ | hR
    · exact .inl hk
    · exact .inr ⟨h1 _ hs, hk⟩
    · obtain ⟨r, hr, hrq, he⟩ := edge _ hR
      have hg : t.g? i = some op.g := by simp [Trace.g?, hop]
      rcases Nat.lt_or_ge r i with hlt | hge
      · obtain ⟨k1, k2⟩ := hr.after i hlt hg x hx
        exact .inr ⟨h2 _ k1, k2⟩
      · exact .inl ⟨q, zq, hzq, hgq, .inr ((bef _ _ _ hr.by_ hg hge).hb he)⟩
  · by_cases hR : R g
    · obtain ⟨r, hr, hrq, he⟩ := edge _ hR
      exact ⟨q, q2, (bef _ _ _ hr.by_ hg (Nat.le_of_not_lt fun hlt => hr.by_.after i hlt hg hc)).hb he⟩
    · exact h.over i g hg hne hR hc
end
end Go.Proofs.YtemgilofjbnoaaaGreatDoor
namespace Go.Proofs.YtemgilofjbnoaaaGreatDoor
open Go Go.Conc Go.ConcN
open Go.ConcR (KK wgBlock WgAt stA smA rd wr mk Payload Aside2 DC0 Bk g_of_ofEvents again_blocked)
set_option linter.unusedVariables false
set_option linter.unusedSimpArgs false
variable [Payload]
structure Crew where
  P : Program
  ty : TypeId
  Wg : Nat
  Ch : Nat
  X : Nat
  L : Nat
  ka : Nat
  fam : Fam
  val0 : Nat → Value
  v : Value
  z : Value
  zs : Value
  F : World → Prop
  n0 : Nat
  Nx : Goroutine → Prop
def ChLive (c : Nat) (w : World) : Prop := ∃ cl s r, w.heap[c]? = some (.chan 0 #[] cl s r false)
def noFam : Nat → Loc → Prop := fun _ _ => False
section
variable (K : Crew)
structure RA (w w₁ : World) : Prop where
  l : w₁.heap[K.L]? = w.heap[K.L]?
  x : w₁.heap[K.X]? = w.heap[K.X]?
  live : WgLive K.ty K.Wg w → WgLive K.ty K.Wg w₁
structure RB0 (w w₁ : World) : Prop where
  low : ∀ b, b ≠ K.Wg → b ≠ K.Ch → b ≠ K.X → w₁.heap[b]? = w.heap[b]?
  size : w₁.heap.size = w.heap.size
  os : w₁.os = w.os
  output : w₁.output = w.output
  live : WgLive K.ty K.Wg w → WgLive K.ty K.Wg w₁
  ch : ChLive K.Ch w → ChLive K.Ch w₁
  pay : PayAt K.X 2 w → PayAt K.X 2 w₁
structure RB (w w₁ : World) : Prop where
  b : RB0 K w w₁
  cell : w₁.cell? ⟨K.X, 1, none⟩ = w.cell? ⟨K.X, 1, none⟩
def RM (w w₁ : World) : Prop := WgLive K.ty K.Wg w → WgLive K.ty K.Wg w₁
def EvK (i : Nat) (e : Event) : Prop := (∀ x, (MemAct.ofEvent e).touch? = some x → K.fam.Own (K.ka + i) x.loc ∨ (K.fam.Rd (K.ka + i) x.loc ∧ x.write = false)) ∧ e.loc ≠ .mark .disable ∧ e.loc ≠ .mark .enable ∧ e.loc ≠ .mark (.release (stA K.Wg))
def DA (w w' : World) (es : Array Event) : Prop := w' = w ∧ ∀ e ∈ es, EvK K 0 e
structure DB (w w' : World) (es : Array Event) : Prop where
  l : w'.heap[K.L]? = w.heap[K.L]?
  x : w'.heap[K.X]? = w.heap[K.X]?
  wg : w'.heap[K.Wg]? = w.heap[K.Wg]?
  ch : w'.heap[K.Ch]? = w.heap[K.Ch]?
  ev : ∀ e ∈ es, EvK K 1 e
def AtClose (g : Goroutine) (w : World) : Prop :=
  g.status = .running ∧ mayWake K.P g = true ∧ ∀ s r, w.heap[K.Ch]? = some (.chan 0 #[] false s r false) →
    ∃ g', g'.status = .running ∧ stepG K.P false g w = .go g' (w.setChan K.Ch 0 #[] true s r false) #[⟨.obj K.Ch, false, true⟩, ⟨.obj K.Ch, true, true⟩] ∧ ∃ m, (Goes K.P false (RW K.ty K.Wg K.X 2 0 0) (DWs K.Wg noFam noFam K.X 2 (0 + 1)) (AtR0 K.P K.ty K.Wg K.X 2 0 (0 + 1) (K.val0 0))) m g' (w.setChan K.Ch 0 #[] true s r false)
def AtSend (g : Goroutine) (w : World) : Prop :=
  g.status = .running ∧ stepG K.P false g w = .comm g #[scase K.Ch K.v K.zs] true .send w #[] ∧ ∃ m, Goes K.P false (RA K) (DA K) (AtClose K) m (Conc.served g undef) w
def AtRecv2 (g : Goroutine) (w : World) : Prop :=
  g.status = .running ∧ (∀ off, stepG K.P false { g with status := .running, offers := off } w = .comm g #[rcase K.Ch K.z] true (.recv true) w #[]) ∧ K.F w ∧ ∃ m, (Goes K.P false (RW K.ty K.Wg K.X 2 0 1) (DWs K.Wg noFam noFam K.X 2 (1 + 1)) (AtR0 K.P K.ty K.Wg K.X 2 0 (1 + 1) (K.val0 1))) m (Conc.served g (.tuple #[K.z, .bool false])) w
def AtRecv1 (g : Goroutine) (w : World) : Prop :=
  g.status = .running ∧ stepG K.P false g w = .comm g #[rcase K.Ch K.z] true (.recv true) w #[] ∧ ∃ m, Goes K.P false (RB K) (DB K) (AtRecv2 K) m (Conc.served g (.tuple #[K.v, .bool true])) w
inductive Sit : Nat → Nat → Nat → Nat → Option Goroutine → World → Prop
  | unborn {w : World} : Sit 1 13 0 0 none w
  | a12 {m : Nat} {g : Goroutine} {w : World} : Goes K.P false (RA K) (DA K) (AtSend K) m g w → Sit 0 12 m 0 (some g) w
  | a11 {g : Goroutine} {w : World} : (∀ w₁, RA K w w₁ → ∃ m, Goes K.P false (RA K) (DA K) (AtClose K) m (Conc.served g undef) w₁) → Sit 0 11 0 0 (some (parked g #[scase K.Ch K.v K.zs] .send)) w
  | a10 {m : Nat} {g : Goroutine} {w : World} : Goes K.P false (RA K) (DA K) (AtClose K) m g w → Sit 0 10 m 0 (some g) w
  | b12 {m : Nat} {g : Goroutine} {w : World} : Goes K.P false (RB K) (DB K) (AtRecv1 K) m g w → Sit 1 12 m 0 (some g) w
  | b11 {g : Goroutine} {w : World} : (∀ w₁, RB K w w₁ → ∃ m, Goes K.P false (RB K) (DB K) (AtRecv2 K) m (Conc.served g (.tuple #[K.v, .bool true])) w₁) → Sit 1 11 0 0 (some (parked g #[rcase K.Ch K.z] (.recv true))) w
  | b10 {m : Nat} {g : Goroutine} {w : World} : Goes K.P false (RB K) (DB K) (AtRecv2 K) m g w → Sit 1 10 m 0 (some g) w
  | b9 {g : Goroutine} {w : World} : (∀ w₁, RB K w w₁ → AtRecv2 K g w₁) → Sit 1 9 0 0 (some (parked g #[rcase K.Ch K.z] (.recv true))) w
  | b8 {g : Goroutine} {w : World} : (∀ w₁, RB K w w₁ → AtRecv2 K g w₁) → Sit 1 8 0 0 (some { parked g #[rcase K.Ch K.z] (.recv true) with status := .running }) w
  | low {i s m d : Nat} {g : Goroutine} {w : World} : i < 2 → s ≤ 7 → WSit K.P K.ty K.Wg K.X 2 noFam noFam 0 (i + 1) (K.val0 i) s m d g w → (i = 1 → K.F w) → Sit i s m d (some g) w
def AtAcq3 (g : Goroutine) (w : World) : Prop := g.status = .running ∧ ∃ g', stepG K.P true g w = .go g' w #[mk (.acquire (stA K.Wg))] ∧ K.Nx g'
def AtKe3 (g : Goroutine) (w : World) : Prop := g.status = .running ∧ ∃ g', stepG K.P true g w = .go g' w #[mk .enable] ∧ ∃ m, Goes K.P true (RM K) DC0 (AtAcq3 K) m g' w
def AtW43 (g : Goroutine) (w : World) : Prop :=
  g.status = .running ∧ (WgAt K.ty K.Wg w 0 0 → ∃ g', stepG K.P true g w = .go g' w #[rd (stA K.Wg)] ∧ ∃ m, Goes K.P true (RM K) DC0 (AtKe3 K) m g' w)
def AtW33 (g : Goroutine) (w : World) : Prop :=
  g.status = .running ∧ g.offers = none ∧
    ((∃ st, WgAt K.ty K.Wg w st 0) → stepG K.P true g w = .go { g with status := .blocked } w #[]) ∧
    (WgAt K.ty K.Wg w 0 1 → ∃ g', stepG K.P true g w = .go g' (w.setCell (smA K.Wg) (.int .u32 0)) (semEvents (smA K.Wg)) ∧ ∃ m, Goes K.P true (RM K) DC0 (AtW43 K) m g' (w.setCell (smA K.Wg) (.int .u32 0)))
def AtSd3 (g : Goroutine) (w : World) : Prop := g.status = .running ∧ ∃ g', stepG K.P true g w = .go g' w #[mk (.write (smA K.Wg))] ∧ ∃ m, Goes K.P true (RM K) DC0 (AtW33 K) m g' w
def AtW23 (Anch : Goroutine → World → Prop) (vs : Nat) (g : Goroutine) (w : World) : Prop :=
  g.status = .running ∧ ∀ v : Nat, v < 2147483648 → WgAt K.ty K.Wg w (v * KK) 0 →
    (v = vs → ∃ g', stepG K.P true g w = .go g' (w.setCell (stA K.Wg) (.int .u64 (v * KK + 1))) #[rd (stA K.Wg), wr (stA K.Wg)] ∧ ∃ m, Goes K.P true (RM K) DC0 (AtSd3 K) m g' (w.setCell (stA K.Wg) (.int .u64 (v * KK + 1)))) ∧
    (v ≠ vs → ∃ g', stepG K.P true g w = .go g' w #[rd (stA K.Wg)] ∧ ∃ m, Goes K.P true (RM K) DC0 Anch m g' w)
def AtW13 (Anch : Goroutine → World → Prop) (g : Goroutine) (w : World) : Prop :=
  g.status = .running ∧ ∀ v : Nat, v < 2147483648 → WgAt K.ty K.Wg w (v * KK) 0 → ∃ g', stepG K.P true g w = .go g' w #[rd (stA K.Wg)] ∧
    (v = 0 → ∃ m, Goes K.P true (RM K) DC0 (AtKe3 K) m g' w) ∧ (v ≠ 0 → ∃ m, Goes K.P true (RM K) DC0 (AtW23 K Anch v) m g' w)
def AtKd3 (Anch : Goroutine → World → Prop) (g : Goroutine) (w : World) : Prop := g.status = .running ∧ ∃ g', stepG K.P true g w = .go g' w #[mk .disable] ∧ ∃ m, Goes K.P true (RM K) DC0 Anch m g' w
def AtGoB3 (Anch : Goroutine → World → Prop) (WB : World → Prop) (g : Goroutine) (w : World) : Prop :=
  g.status = .running ∧ ∃ g' child, stepG K.P true g w = .spawn g' child w #[] ∧ child.status = .running ∧ (WB w → ∃ m, Goes K.P false (RB K) (DB K) (AtRecv1 K) m child w) ∧ ∃ m, Goes K.P true (RM K) DC0 (AtKd3 K Anch) m g' w
inductive MTag where
  | goB | kd | anch | w1 | w2 (vs : Nat) | sd | w3 | blk | w4 | ke | acq | ret
def ctag : MTag → CTag
  | .goB | .kd => .kd
  | .anch => .anch
  | .w1 => .w1
  | .w2 vs => .w2 vs
  | .sd | .w3 => .w3
  | .blk => .blk
  | .w4 => .w4
  | .ke => .ke
  | .acq => .acq
  | .ret => .ret
def rk (v : Nat) : MTag → Nat
  | .goB => 50
  | .kd => 40
  | .anch => 8 * v + 10
  | .w1 => 8 * v + 9
  | .w2 vs => 8 * vs + 8
  | .sd => 6
  | .w3 => 5
  | .blk => 5
  | .w4 => 4
  | .ke => 3
  | .acq => 2
  | .ret => 1
variable (Anch : Goroutine → World → Prop) (WB : World → Prop)
inductive MSit : MTag → Nat → Nat → Goroutine → World → Prop
  | goB {m : Nat} {g : Goroutine} {w : World} : Goes K.P true (RM K) DC0 (AtGoB3 K Anch WB) m g w → MSit .goB m 0 g w
  | kd {m : Nat} {g : Goroutine} {w : World} : Goes K.P true (RM K) DC0 (AtKd3 K Anch) m g w → MSit .kd m 0 g w
  | anch {m : Nat} {g : Goroutine} {w : World} : Goes K.P true (RM K) DC0 Anch m g w → MSit .anch m 1 g w
  | w1 {m : Nat} {g : Goroutine} {w : World} : Goes K.P true (RM K) DC0 (AtW13 K Anch) m g w → MSit .w1 m 1 g w
  | w2 {vs m : Nat} {g : Goroutine} {w : World} : Goes K.P true (RM K) DC0 (AtW23 K Anch vs) m g w → MSit (.w2 vs) m 1 g w
  | sd {m : Nat} {g : Goroutine} {w : World} : Goes K.P true (RM K) DC0 (AtSd3 K) m g w → MSit .sd m 1 g w
  | w3 {m : Nat} {g : Goroutine} {w : World} : Goes K.P true (RM K) DC0 (AtW33 K) m g w → MSit .w3 (m + 1) 1 g w
  | blk {g : Goroutine} {w : World} : (∀ w₁, RM K w w₁ → AtW33 K g w₁) → MSit .blk 0 1 { g with status := .blocked } w
  | w4 {m : Nat} {g : Goroutine} {w : World} : Goes K.P true (RM K) DC0 (AtW43 K) m g w → MSit .w4 m 1 g w
  | ke {m : Nat} {g : Goroutine} {w : World} : Goes K.P true (RM K) DC0 (AtKe3 K) m g w → MSit .ke m 1 g w
  | acq {m : Nat} {g : Goroutine} {w : World} : Goes K.P true (RM K) DC0 (AtAcq3 K) m g w → MSit .acq m 0 g w
  | ret {g : Goroutine} {w : World} : K.Nx g → MSit .ret 0 0 g w
def Joint (a b : Nat) : Prop := (b = 13 ∧ (a = 12 ∨ a = 11)) ∨ (b = 12 ∧ (a = 12 ∨ a = 11)) ∨ (b = 11 ∧ a = 12) ∨ (a = 10 ∧ (b = 10 ∨ b = 9)) ∨ (a ≤ 7 ∧ (b = 10 ∨ b = 8 ∨ b ≤ 7))
def RR (D : Nat → WD) (k : Nat) : Prop := k = K.ka ∨ (k = K.ka + 1 ∧ (D 1).stage ≠ 13)
structure ComC (gs : Array Goroutine) (w : World) (t : Trace) (D : Nat → WD) (d0 : Nat) (q : Nat → Nat) : Prop where
  long : K.n0 ≤ t.size
  size : gs.size = K.ka + (if (D 1).stage = 13 then 1 else 2)
  pos : 0 < K.ka
  wk : ∀ i, i < 2 → Sit K i (D i).stage (D i).fuel (D i).deaf gs[K.ka + i]? w
  lv : ∀ i g, 0 < i → i < K.ka → gs[i]? = some g → QuitsD K.P (q i) (Deaf t i) g
  above : ∀ j, gs.size ≤ j → Deaf t j = 0
  t3 : T3 K.fam (RR K D) t
  norel : NoRel (stA K.Wg) K.n0 t
  deaf0 : Deaf t 0 = d0
  deafW : ∀ i, i < 2 → Deaf t (K.ka + i) = (D i).deaf
  rel : ∀ i, i < 2 → (D i).stage ≤ 6 → ∃ r, Rel3 K.fam (stA K.Wg) K.n0 t (K.ka + i) r
  pay : PayAt K.X 2 w
  joint : Joint (D 0).stage (D 1).stage
  chan : ∃ cl s r, w.heap[K.Ch]? = some (.chan 0 #[] cl s r false) ∧ (cl = true ↔ (D 0).stage ≤ 7)
def md (D : Nat → WD) : Nat → WD := fun i => ⟨min (D i).stage 7, 0, 0⟩
def fuelC (D : Nat → WD) (f0 : Nat) (q : Nat → Nat) : Nat := f0 + 2 * ((D 0).fuel + (D 1).fuel + sumTo K.ka q)
def rankC (D : Nat → WD) (tag : MTag) : Nat := rk (Vc 2 (md D)) tag + ((D 0).stage + (D 1).stage)
def InvC (μ : Nat × Nat) (m : Machine) (t : Trace) : Prop :=
  ∃ (gs : Array Goroutine) (w : World) (sl : Option (Nat × Nat)) (D : Nat → WD) (tag : MTag) (f0 d0 : Nat) (q : Nat → Nat) (a : Goroutine) (st sm : Int),
    m = crowd gs w sl ∧ gs[0]? = some a ∧ MSit K Anch WB tag f0 d0 a w ∧ ComC K gs w t D d0 q ∧ WgAt K.ty K.Wg w st sm ∧ ConcN.Mode 2 (md D) (ctag tag) st sm ∧
    ((D 1).stage = 13 ↔ tag = .goB) ∧ (tag = .goB → WB w) ∧ (tag = .ret → Acq3 K.fam (stA K.Wg) K.n0 (RR K D) t) ∧ μ = (rankC D tag, fuelC K D f0 q)
structure Good3 : Prop where
  apart : K.fam.Apart
  sh : ∀ l, K.fam.Sh l ↔ ShN K.Wg l
  cw : K.Ch ≠ K.Wg
  xw : K.X ≠ K.Wg
  lw : K.L ≠ K.Wg
  xc : K.X ≠ K.Ch
  lc : K.L ≠ K.Ch
  lx : K.L ≠ K.X
  keeps : ∀ w w₁, RB0 K w w₁ → K.F w → K.F w₁
  wb : ∀ w w₁, RB K w w₁ → WB w → WB w₁
  rdCh : K.fam.Rd K.ka (.obj K.Ch)
  anr : ∀ g w, Anch g w → g.status = .running
  an : ∀ g w, Anch g w → ∃ m, Goes K.P true (RM K) DC0 (AtW13 K Anch) m g w
end
end Go.Proofs.YtemgilofjbnoaaaGreatDoor
namespace Go.Proofs.YtemgilofjbnoaaaGreatDoor
open Go Go.Conc Go.ConcN Go.RowKit Go.Conc.Lib Go.ConcR.Gen Go.ConcN.Gen
open Go.ConcR (KK wgBlock WgAt stA smA rd wr mk Payload Aside2 DC0)
set_option linter.unusedVariables false
set_option linter.unusedSimpArgs false
set_option linter.unusedSectionVars false
variable [Payload] {L : WgLink}
theorem rm_rely {K : Crew} {w w₁ : World} (h : WgLive K.ty K.Wg w) (r : RM K w w₁) : WgLive K.ty K.Wg w₁ := r h
def AnchC (L : WgLink) (K : Crew) (c : Frame) (cs : List Frame) (g : Goroutine) (w : World) : Prop :=
  ∃ T : Array Value, g = G ((base L.wait).at ⟨T, []⟩ [.code (L7 L), .inLoop (L7 L), .inBlock 0]) (c :: cs) ∧ T.size = 84 ∧ T[0]? = some (.pointer (some ⟨K.Wg, 0, none⟩)) ∧ WgLive K.ty K.Wg w
def BackC (K : Crew) (g0 : Goroutine) (g : Goroutine) : Prop := ∀ w, WgLive K.ty K.Wg w → ∃ m, Goes K.P true (RM K) DC0 (fun g' _ => g' = g0) m g w
section
variable {K : Crew} {b₀ : Frame} {a₀ : Act} {ops₀ : Array Oper} {i₀ : Nat} {rest₀ : List Nat} {k₀ : List Item} {cs : List Frame}
set_option maxRecDepth 100000 in
set_option maxHeartbeats 8000000 in
theorem waitRoundC (H : WgLib K.P L) (hN : ∀ g, BackC K (G (b₀.at (a₀.put ((ops₀[i₀]?).bind (·.dst)) (.tuple #[])) (.inRegion ops₀ rest₀ :: k₀)) cs) g → K.Nx g)
    (g : Goroutine) (w : World) (h : AnchC L K (b₀.at a₀ (.inRegion ops₀ (i₀ :: rest₀) :: k₀)) cs g w) :
    ∃ m, Goes K.P true (RM K) DC0 (AtW13 K (AnchC L K (b₀.at a₀ (.inRegion ops₀ (i₀ :: rest₀) :: k₀)) cs)) m g w := by
  lib_facts
  obtain ⟨T, rfl, hT84, t0, hF⟩ := h
  obtain ⟨v0, v1, v2, v3, v4, v5, v6, v7, v8, v9, v10, v11, v12, v13, v14, v15, v16, v17, v18, v19, v20, v21, v22, v23, v24, v25, v26, v27, v28, v29, v30, v31, v32, v33, v34, v35, v36, v37, v38, v39, v40, v41, v42, v43, v44, v45, v46, v47, v48, v49, v50, v51, v52, v53, v54, v55, v56, v57, v58, v59, v60, v61, v62, v63, v64, v65, v66, v67, v68, v69, v70, v71, v72, v73, v74, v75, v76, v77, v78, v79, v80, v81, v82, v83, rfl⟩ := array84 T hT84
  simp only [List.getElem?_toArray, List.getElem?_cons_zero, Option.some.injEq] at t0
  subst t0
  refine ⟨30, ?_⟩
  simp only [L7, body_wait, waitFn, Option.getD_some]
  u_c stepG_block rm_rely hF
  u_c stepG_seq rm_rely hF
  u_reg rm_rely hF
  u_op rm_rely hF
  u_op rm_rely hF
  u_op rm_rely hF
  u_call H.f_uLoad (nm_uLoad L) uLoadFn rm_rely hF
  u_c stepG_seq rm_rely hF
  u_reg rm_rely hF
  u_op rm_rely hF
  u_c stepG_region_end rm_rely hF
  u_c stepG_seq rm_rely hF
  u_reg rm_rely hF
  u_op rm_rely hF
  u_op rm_rely hF
  u_op rm_rely hF
  refine Goes.stop (fun w₁ h₁ => ?_)
  replace hF := rm_rely hF h₁
  clear h₁
  refine ⟨rfl, fun v hv hw => ?_⟩
  rcases Nat.eq_zero_or_pos v with rfl | hvp
  · -- the load reads 0
    replace hw : WgAt K.ty K.Wg w₁ 0 0 := by simpa using hw
    refine ⟨_, stepG_load_atomic (v := 0) rfl rfl (by k_ne) rfl H.f_loadU64 (x_loadU64_n L) (x_loadU64_b L) (x_loadU64_x L) .u64 (x_loadU64_f L) rfl hw.cellSt, fun _ => ⟨50, ?_⟩, fun h => absurd rfl h⟩
    clear hw
    walk_nrm
    u_op rm_rely hF
    u_c stepG_region_end rm_rely hF
    u_c stepG_ret' rm_rely hF
    u_leave1 H.f_uLoad rm_rely hF
    u_op rm_rely hF
    u_c stepG_region_end rm_rely hF
    u_c stepG_seq rm_rely hF
    u_reg rm_rely hF
    u_op rm_rely hF
    u_op rm_rely hF
    u_op rm_rely hF
    u_op rm_rely hF
    u_c stepG_region_end rm_rely hF
    u_c stepG_seq rm_rely hF
    u_reg rm_rely hF
    u_op rm_rely hF
    u_op rm_rely hF
    u_op rm_rely hF
    u_op rm_rely hF
    u_c stepG_region_end rm_rely hF
    u_c stepG_seq rm_rely hF
    u_c stepG_seq rm_rely hF
    u_reg rm_rely hF
    u_op rm_rely hF
    u_op rm_rely hF
    u_c stepG_region_end rm_rely hF
    u_cond true rm_rely hF
    u_c stepG_seq rm_rely hF
    u_cond true rm_rely hF
    u_c stepG_seq rm_rely hF
    u_reg rm_rely hF
    refine Goes.stop (fun w₅ h₅ => ?_)
    replace hF := rm_rely hF h₅
    clear h₅
    refine ⟨rfl, _, stepG_mark0 .enable (by simp) rfl rfl (by k_ne) rfl H.f_enable (x_enable_n L) (x_enable_b L) (x_enable_x L) (x_enable_f L), 12, ?_⟩
    walk_nrm
    u_c stepG_region_end rm_rely hF
    u_reg rm_rely hF
    u_op rm_rely hF
    refine Goes.step rfl (fun _ h₁ => ?_)
    replace hF := rm_rely hF h₁
    clear h₁
    refine goes_oper_k rfl rfl (by k_ne) (fun Kx hKx => ?_)
    have hcv := run_convert_to_unsafe (P := K.P) H.underlying_tWgP H.underlying_tUP H.room_tWg (WgLive.cell0 hF).choose_spec
    have hce := fun es => events_convert_to_unsafe (P := K.P) H.underlying_tWgP H.underlying_tUP H.room_tWg (WgLive.cell0 hF).choose_spec es
    go_simp
    refine hKx _ _ ⟨?_, ?_⟩
    · u_none
      intro ex hex
      have hmx := mem_listed hex
      simp [go_sem, hce] at hmx
    clear hKx Kx hcv hce
    refine Goes.stop (fun w₆ h₆ => ?_)
    replace hF := rm_rely hF h₆
    clear h₆
    refine ⟨rfl, _, stepG_markAt .acquire (by simp) rfl rfl (by k_ne) rfl H.f_acquire (x_acquire_n L) (x_acquire_b L) (x_acquire_x L) (x_acquire_f L) (by simp [Act.eval, stA]), hN _ (fun w₇ hF => ⟨40, ?_⟩)⟩
    walk_nrm
    u_c stepG_region_end rm_rely hF
    u_c stepG_seq rm_rely hF
    u_c stepG_seq rm_rely hF
    u_reg rm_rely hF
    u_op rm_rely hF
    u_op rm_rely hF
    u_op rm_rely hF
    u_op rm_rely hF
    u_op rm_rely hF
    u_op rm_rely hF
    u_op rm_rely hF
    u_op rm_rely hF
    u_skip rm_rely hF
    u_skip rm_rely hF
    u_op rm_rely hF
    u_c stepG_region_end rm_rely hF
    u_cond false rm_rely hF
    u_c stepG_skip rm_rely hF
    u_c stepG_ret' rm_rely hF
    u_leave0 H.f_wait rm_rely hF
    exact Goes.stop (fun _ _ => rfl)
  · -- the load reads more
    obtain ⟨S, hS⟩ : ∃ S : Int, (v : Int) * KK = S := ⟨_, rfl⟩
    have a1 : S / 4294967296 = (v : Int) := by rw [← hS]; simp only [KK]; omega
    have b1 : bits .and .u64 S 2147483648 = 0 := by rw [← hS]; have := st_flag v 0 (by omega) (by omega); simpa [KK] using this
    have b2 : bits .and .u64 S 2147483647 = 0 := by rw [← hS]; have := st_waiters v 0 (by omega) (by omega); simpa [KK] using this
    have c1 : IntKind.i32.wrap (v : Int) = (v : Int) := by rw [IntKind.wrap_i32]; omega
    have w1 : IntKind.u64.wrap (S + 1) = S + 1 := by rw [IntKind.wrap_u64, ← hS]; simp only [KK]; omega
    have q3 : decide ((v : Int) < 0) = false := decide_eq_false (by omega)
    have q4 : decide (0 < (v : Int)) = true := decide_eq_true (by omega)
    have q5 : ((v : Int) == 0) = false := by simp; omega
    have q6 : decide ((v : Int) = 0) = false := decide_eq_false (by omega)
    rw [hS] at hw
    refine ⟨_, stepG_load_atomic (v := S) rfl rfl (by k_ne) rfl H.f_loadU64 (x_loadU64_n L) (x_loadU64_b L) (x_loadU64_x L) .u64 (x_loadU64_f L) rfl hw.cellSt, fun h0 => absurd h0 (by omega), fun _ => ⟨60, ?_⟩⟩
    clear hw
    walk_nrm
    u_op rm_rely hF
    u_c stepG_region_end rm_rely hF
    u_c stepG_ret' rm_rely hF
    u_leave1 H.f_uLoad rm_rely hF
    u_op rm_rely hF
    u_c stepG_region_end rm_rely hF
    u_c stepG_seq rm_rely hF
    u_reg rm_rely hF
    u_op rm_rely hF
    u_op rm_rely hF
    u_op rm_rely hF
    u_op rm_rely hF
    u_c stepG_region_end rm_rely hF
    u_c stepG_seq rm_rely hF
    u_reg rm_rely hF
    u_op rm_rely hF
    u_op rm_rely hF
    u_op rm_rely hF
    u_op rm_rely hF
    u_c stepG_region_end rm_rely hF
    u_c stepG_seq rm_rely hF
    u_c stepG_seq rm_rely hF
    u_reg rm_rely hF
    u_op rm_rely hF
    u_op rm_rely hF
    u_c stepG_region_end rm_rely hF
    u_cnd false rm_rely hF
    u_c stepG_skip rm_rely hF
    u_c stepG_seq rm_rely hF
    u_reg rm_rely hF
    u_op rm_rely hF
    u_op rm_rely hF
    u_op rm_rely hF
    u_op rm_rely hF
    u_op rm_rely hF
    u_op rm_rely hF
    u_call H.f_uCas (nm_uCas L) uCasFn rm_rely hF
    u_c stepG_seq rm_rely hF
    u_reg rm_rely hF
    u_op rm_rely hF
    u_c stepG_region_end rm_rely hF
    u_c stepG_seq rm_rely hF
    u_reg rm_rely hF
    u_op rm_rely hF
    u_op rm_rely hF
    u_op rm_rely hF
    u_op rm_rely hF
    u_op rm_rely hF
    refine Goes.stop (fun w₂ h₂ => ?_)
    replace hF := rm_rely hF h₂
    clear h₂
    refine ⟨rfl, fun v' hv' hw => ⟨fun e => ?_, fun e => ?_⟩⟩
    · -- the CompareAndSwap hits
      subst e
      rw [hS] at hw ⊢
      refine ⟨_, (stepG_cas_hit (v := S) (n := S + 1) rfl rfl (by k_ne) rfl H.f_casU64 (x_casU64_n L) (x_casU64_b L) (x_casU64_x L) .u64 (x_casU64_f L) rfl rfl rfl hw.cellSt (hw.thaw 0)).trans (by rfl), 70, ?_⟩
      replace hF : WgLive K.ty K.Wg (w₂.setCell (stA K.Wg) (.int .u64 (S + 1))) := ⟨_, _, hw.setSt _⟩
      clear hw
      walk_nrm
      u_op rm_rely hF
      u_c stepG_region_end rm_rely hF
      u_c stepG_ret' rm_rely hF
      u_leave1 H.f_uCas rm_rely hF
      u_c stepG_region_end rm_rely hF
      u_cond true rm_rely hF
      u_c stepG_seq rm_rely hF
      u_c stepG_seq rm_rely hF
      u_reg rm_rely hF
      u_op rm_rely hF
      u_op rm_rely hF
      u_op rm_rely hF
      u_op rm_rely hF
      u_c stepG_region_end rm_rely hF
      u_cond true rm_rely hF
      u_reg rm_rely hF
      u_op rm_rely hF
      u_op rm_rely hF
      u_op rm_rely hF
      refine Goes.step rfl (fun _ h₁ => ?_)
      replace hF := rm_rely hF h₁
      clear h₁
      refine goes_oper_k rfl rfl (by k_ne) (fun Kx hKx => ?_)
      have hcv := run_convert_to_unsafe (P := K.P) H.underlying_tPU32 H.underlying_tUP H.room_tU32 (WgLive.cell1 hF).choose_spec
      have hce := fun es => events_convert_to_unsafe (P := K.P) H.underlying_tPU32 H.underlying_tUP H.room_tU32 (WgLive.cell1 hF).choose_spec es
      go_simp
      refine hKx _ _ ⟨?_, ?_⟩
      · u_none
        intro ex hex
        have hmx := mem_listed hex
        simp [go_sem, hce] at hmx
      clear hKx Kx hcv hce
      refine Goes.stop (fun w₃ h₃ => ?_)
      replace hF := rm_rely hF h₃
      clear h₃
      refine ⟨rfl, _, stepG_markAt .write (by simp) rfl rfl (by k_ne) rfl H.f_raceWrite (x_raceWrite_n L) (x_raceWrite_b L) (x_raceWrite_x L) (x_raceWrite_f L) (ad := ⟨_, 1, none⟩) (by simp [Act.eval] <;> rfl), 40, ?_⟩
      walk_nrm
      u_c stepG_region_end rm_rely hF
      u_c stepG_seq rm_rely hF
      u_reg rm_rely hF
      u_op rm_rely hF
      u_c stepG_region_end rm_rely hF
      u_c stepG_seq rm_rely hF
      u_c stepG_seq rm_rely hF
      u_reg rm_rely hF
      u_op rm_rely hF
      u_op rm_rely hF
      u_op rm_rely hF
      u_op rm_rely hF
      u_skip rm_rely hF
      u_op rm_rely hF
      u_c stepG_region_end rm_rely hF
      u_cond false rm_rely hF
      u_c stepG_skip rm_rely hF
      u_c stepG_seq rm_rely hF
      u_reg rm_rely hF
      u_op rm_rely hF
      u_op rm_rely hF
      u_op rm_rely hF
      u_op rm_rely hF
      refine Goes.stop (fun w₄ h₄ => ?_)
      replace hF := rm_rely hF h₄
      clear h₄
      refine ⟨rfl, rfl, fun ⟨st, hw⟩ => stepG_semacquire_wait rfl rfl rfl H.f_semacquire (x_semacquire_n L) (x_semacquire_b L) (x_semacquire_x L) (x_semacquire_f L) (by simp [Act.eval, smA]) hw.cellSm, fun hf => ?_⟩
      refine ⟨_, (stepG_semacquire (n := 1) rfl rfl (by k_ne) rfl H.f_semacquire (x_semacquire_n L) (x_semacquire_b L) (x_semacquire_x L) (x_semacquire_f L) (by simp [Act.eval, smA]) hf.cellSm (by k_ne) (hf.thaw 1)).trans (by rfl), 30, ?_⟩
      replace hF : WgLive K.ty K.Wg (w₄.setCell (smA K.Wg) (.int .u32 0)) := ⟨_, _, hf.setSm 0⟩
      clear hf
      walk_nrm
      u_c stepG_region_end rm_rely hF
      u_c stepG_seq rm_rely hF
      u_reg rm_rely hF
      u_op rm_rely hF
      u_op rm_rely hF
      u_op rm_rely hF
      u_call H.f_uLoad (nm_uLoad L) uLoadFn rm_rely hF
      u_c stepG_seq rm_rely hF
      u_reg rm_rely hF
      u_op rm_rely hF
      u_c stepG_region_end rm_rely hF
      u_c stepG_seq rm_rely hF
      u_reg rm_rely hF
      u_op rm_rely hF
      u_op rm_rely hF
      u_op rm_rely hF
      refine Goes.stop (fun w₇ h₇ => ?_)
      replace hF := rm_rely hF h₇
      clear h₇
      refine ⟨rfl, fun hw => ⟨_, stepG_load_atomic (v := 0) rfl rfl (by k_ne) rfl H.f_loadU64 (x_loadU64_n L) (x_loadU64_b L) (x_loadU64_x L) .u64 (x_loadU64_f L) rfl hw.cellSt, 30, ?_⟩⟩
      clear hw
      walk_nrm
      u_op rm_rely hF
      u_c stepG_region_end rm_rely hF
      u_c stepG_ret' rm_rely hF
      u_leave1 H.f_uLoad rm_rely hF
      u_op rm_rely hF
      u_op rm_rely hF
      u_c stepG_region_end rm_rely hF
      u_c stepG_seq rm_rely hF
      u_cond true rm_rely hF
      u_c stepG_seq rm_rely hF
      u_reg rm_rely hF
      refine Goes.stop (fun w₅ h₅ => ?_)
      replace hF := rm_rely hF h₅
      clear h₅
      refine ⟨rfl, _, stepG_mark0 .enable (by simp) rfl rfl (by k_ne) rfl H.f_enable (x_enable_n L) (x_enable_b L) (x_enable_x L) (x_enable_f L), 12, ?_⟩
      walk_nrm
      u_c stepG_region_end rm_rely hF
      u_reg rm_rely hF
      u_op rm_rely hF
      refine Goes.step rfl (fun _ h₁ => ?_)
      replace hF := rm_rely hF h₁
      clear h₁
      refine goes_oper_k rfl rfl (by k_ne) (fun Kx hKx => ?_)
      have hcv := run_convert_to_unsafe (P := K.P) H.underlying_tWgP H.underlying_tUP H.room_tWg (WgLive.cell0 hF).choose_spec
      have hce := fun es => events_convert_to_unsafe (P := K.P) H.underlying_tWgP H.underlying_tUP H.room_tWg (WgLive.cell0 hF).choose_spec es
      go_simp
      refine hKx _ _ ⟨?_, ?_⟩
      · u_none
        intro ex hex
        have hmx := mem_listed hex
        simp [go_sem, hce] at hmx
      clear hKx Kx hcv hce
      refine Goes.stop (fun w₆ h₆ => ?_)
      replace hF := rm_rely hF h₆
      clear h₆
      refine ⟨rfl, _, stepG_markAt .acquire (by simp) rfl rfl (by k_ne) rfl H.f_acquire (x_acquire_n L) (x_acquire_b L) (x_acquire_x L) (x_acquire_f L) (by simp [Act.eval, stA]), hN _ (fun w₇ hF => ⟨40, ?_⟩)⟩
      walk_nrm
      u_c stepG_region_end rm_rely hF
      u_c stepG_seq rm_rely hF
      u_c stepG_seq rm_rely hF
      u_reg rm_rely hF
      u_op rm_rely hF
      u_c stepG_region_end rm_rely hF
      u_cond false rm_rely hF
      u_c stepG_skip rm_rely hF
      u_c stepG_ret' rm_rely hF
      u_leave0 H.f_wait rm_rely hF
      exact Goes.stop (fun _ _ => rfl)
    · -- it misses
      refine ⟨_, stepG_cas_miss (v := (v' : Int) * KK) (old := S) (n := S + 1) rfl rfl (by k_ne) rfl H.f_casU64 (x_casU64_n L) (x_casU64_b L) (x_casU64_x L) .u64 (x_casU64_f L) rfl rfl rfl hw.cellSt (hw.thaw 0) (by rw [← hS]; simp only [KK]; omega), 20, ?_⟩
      clear hw
      walk_nrm
      u_op rm_rely hF
      u_c stepG_region_end rm_rely hF
      u_c stepG_ret' rm_rely hF
      u_leave1 H.f_uCas rm_rely hF
      u_c stepG_region_end rm_rely hF
      u_cond false rm_rely hF
      u_c stepG_skip rm_rely hF
      u_c stepG_inBlock rm_rely hF
      u_c stepG_inLoop rm_rely hF
      exact Goes.stop (fun w₃ h₃ => ⟨_, rfl, by simp, by simp, rm_rely hF h₃⟩)
set_option maxRecDepth 100000 in
theorem waitStartC (H : WgLib K.P L) (w : World) (hF : WgLive K.ty K.Wg w) :
    Goes K.P true (RM K) DC0 (AtKd3 K (AnchC L K (b₀.at a₀ (.inRegion ops₀ (i₀ :: rest₀) :: k₀)) cs)) 3
      (G ((base L.wait).at ⟨#[.pointer (some ⟨K.Wg, 0, none⟩), undef, undef, undef, undef, undef, undef, undef, undef, undef, undef, undef, undef, undef, undef, undef, undef, undef, undef, undef, undef, undef, undef, undef, undef, undef, undef, undef, undef, undef, undef, undef, undef, undef, undef, undef, undef, undef, undef, undef, undef, undef, undef, undef, undef, undef, undef, undef, undef, undef, undef, undef, undef, undef, undef, undef, undef, undef, undef, undef, undef, undef, undef, undef, undef, undef, undef, undef, undef, undef, undef, undef, undef, undef, undef, undef, undef, undef, undef, undef, undef, undef, undef, undef], []⟩ [.code (body_wait L)]) (b₀.at a₀ (.inRegion ops₀ (i₀ :: rest₀) :: k₀) :: cs)) w := by
  lib_facts
  simp only [body_wait, waitFn, Option.getD_some]
  u_c stepG_seq rm_rely hF
  u_cond true rm_rely hF
  u_reg rm_rely hF
  refine Goes.stop (fun w₁ h₁ => ?_)
  replace hF := rm_rely hF h₁
  clear h₁
  refine ⟨rfl, _, stepG_mark0 .disable (by simp) rfl rfl (by k_ne) rfl H.f_disable (x_disable_n L) (x_disable_b L) (x_disable_x L) (x_disable_f L), 3, ?_⟩
  walk_nrm
  u_c stepG_region_end rm_rely hF
  u_c stepG_block rm_rely hF
  u_c stepG_loop rm_rely hF
  exact Goes.stop (fun w₂ h₂ => ⟨_, rfl, by simp, by simp, rm_rely hF h₂⟩)
end
end Go.Proofs.YtemgilofjbnoaaaGreatDoor
namespace Go.Proofs.YtemgilofjbnoaaaGreatDoor
open Go Go.Conc Go.ConcN Go.RowKit Go.Conc.Lib Go.ConcR.Gen Go.ConcN.Gen
open Go.ConcR (KK wgBlock WgAt stA smA rd wr mk Payload Aside2 DC0)
set_option linter.unusedVariables false
set_option linter.unusedSimpArgs false
set_option linter.unusedSectionVars false
variable [Payload] {L : WgLink}
section
variable (K : Crew) (Stop : Goroutine → World → Prop)
def AtEn (g : Goroutine) (w : World) : Prop := g.status = .running ∧ ∃ g', stepG K.P true g w = .go g' w #[mk .enable] ∧ ∃ m, Goes K.P true (RM K) DC0 Stop m g' w
def AtSr (g : Goroutine) (w : World) : Prop := g.status = .running ∧ ∃ g', stepG K.P true g w = .go g' w #[mk (.read (smA K.Wg))] ∧ ∃ m, Goes K.P true (RM K) DC0 (AtEn K Stop) m g' w
def AtA2 (g : Goroutine) (w : World) : Prop :=
  g.status = .running ∧ (WgAt K.ty K.Wg w 0 0 → ∃ g', stepG K.P true g w = .go g' (w.setCell (stA K.Wg) (.int .u64 (2 * KK))) #[rd (stA K.Wg), wr (stA K.Wg)] ∧ ∃ m, Goes K.P true (RM K) DC0 (AtSr K Stop) m g' (w.setCell (stA K.Wg) (.int .u64 (2 * KK))))
def AtDis (g : Goroutine) (w : World) : Prop := g.status = .running ∧ ∃ g', stepG K.P true g w = .go g' w #[mk .disable] ∧ ∃ m, Goes K.P true (RM K) DC0 (AtA2 K Stop) m g' w
end
section
variable {K : Crew} {b₀ : Frame} {a₀ : Act} {ops₀ : Array Oper} {i₀ : Nat} {rest₀ : List Nat} {k₀ : List Item} {cs : List Frame}
set_option maxRecDepth 100000 in
set_option maxHeartbeats 8000000 in
theorem addTwoC (H : WgLib K.P L) (w : World) (hF : WgLive K.ty K.Wg w) :
    Goes K.P true (RM K) DC0 (AtDis K fun g _ => g = G (b₀.at (a₀.put ((ops₀[i₀]?).bind (·.dst)) (.tuple #[])) (.inRegion ops₀ rest₀ :: k₀)) cs) 12
      (G ((base L.add).at ⟨#[.pointer (some ⟨K.Wg, 0, none⟩), .int .i64 2, undef, undef, undef, undef, undef, undef, undef, undef, undef, undef, undef, undef, undef, undef, undef, undef, undef, undef, undef, undef, undef, undef, undef, undef, undef, undef, undef, undef, undef, undef, undef, undef, undef, undef, undef, undef, undef, undef, undef, undef, undef, undef, undef, undef, undef, undef, undef, undef, undef, undef, undef, undef, undef, undef, undef, undef, undef, undef, undef, undef, undef, undef, undef, undef, undef, undef, undef, undef, undef, undef, undef, undef, undef, undef, undef, undef, undef, undef, undef, undef, undef, undef, undef, undef, undef, undef, undef, undef, undef, undef, undef, undef, undef, undef, undef, undef, undef, undef, undef, undef, undef, undef, undef, undef, undef, undef, undef, undef, undef, undef, undef, undef, undef, undef, undef], []⟩ [.code (body_add L)]) (b₀.at a₀ (.inRegion ops₀ (i₀ :: rest₀) :: k₀) :: cs)) w := by
  lib_facts
  simp only [body_add, addFn, Option.getD_some]
  u_c stepG_seq rm_rely hF
  u_cond true rm_rely hF
  u_c stepG_seq rm_rely hF
  u_c stepG_seq rm_rely hF
  u_reg rm_rely hF
  u_op rm_rely hF
  u_op rm_rely hF
  u_c stepG_region_end rm_rely hF
  u_cond false rm_rely hF
  u_c stepG_skip rm_rely hF
  u_c stepG_seq rm_rely hF
  u_reg rm_rely hF
  refine Goes.stop (fun w₁ h₁ => ?_)
  replace hF := rm_rely hF h₁
  clear h₁
  refine ⟨rfl, _, stepG_mark0 .disable (by simp) rfl rfl (by k_ne) rfl H.f_disable (x_disable_n L) (x_disable_b L) (x_disable_x L) (x_disable_f L), 40, ?_⟩
  walk_nrm
  u_c stepG_region_end rm_rely hF
  u_reg rm_rely hF
  u_defer rm_rely hF
  u_c stepG_region_end rm_rely hF
  u_c stepG_seq rm_rely hF
  u_reg rm_rely hF
  u_op rm_rely hF
  u_c stepG_region_end rm_rely hF
  u_c stepG_seq rm_rely hF
  u_c stepG_seq rm_rely hF
  u_reg rm_rely hF
  u_bub rm_rely hF
  u_c stepG_region_end rm_rely hF
  u_cond false rm_rely hF
  u_c stepG_skip rm_rely hF
  u_c stepG_seq rm_rely hF
  u_reg rm_rely hF
  u_op rm_rely hF
  u_op rm_rely hF
  u_op rm_rely hF
  u_op rm_rely hF
  u_op rm_rely hF
  u_op rm_rely hF
  u_call H.f_uAdd (nm_uAdd L) uAddFn rm_rely hF
  u_c stepG_seq rm_rely hF
  u_reg rm_rely hF
  u_op rm_rely hF
  u_c stepG_region_end rm_rely hF
  u_c stepG_seq rm_rely hF
  u_reg rm_rely hF
  u_op rm_rely hF
  u_op rm_rely hF
  u_op rm_rely hF
  u_op rm_rely hF
  refine Goes.stop (fun w₂ h₂ => ?_)
  replace hF := rm_rely hF h₂
  clear h₂
  refine ⟨rfl, fun hw => ?_⟩
  have e0 : IntKind.u64.wrap (0 + 8589934592) = 2 * KK := by decide
  refine ⟨_, (stepG_add_atomic rfl rfl (by k_ne) rfl H.f_addU64 (x_addU64_n L) (x_addU64_b L) (x_addU64_x L) .u64 (x_addU64_f L) rfl rfl hw.cellSt (hw.thaw 0)).trans (by rw [e0]; rfl), 110, ?_⟩
  replace hF : WgLive K.ty K.Wg (w₂.setCell (stA K.Wg) (.int .u64 (2 * KK))) := ⟨_, _, hw.setSt _⟩
  clear hw
  have e2 : (2 : Int) * KK = 8589934592 := by decide
  rw [e2] at hF ⊢
  have b1 : bits .and .u64 8589934592 2147483648 = 0 := by have := st_flag 2 0 (by omega) (by omega); simpa [KK] using this
  have b2 : bits .and .u64 8589934592 2147483647 = 0 := by have := st_waiters 2 0 (by omega) (by omega); simpa [KK] using this
  walk_nrm
  u_op rm_rely hF
  u_c stepG_region_end rm_rely hF
  u_c stepG_ret' rm_rely hF
  u_leave1 H.f_uAdd rm_rely hF
  u_op rm_rely hF
  u_c stepG_region_end rm_rely hF
  u_c stepG_seq rm_rely hF
  u_c stepG_seq rm_rely hF
  u_reg rm_rely hF
  u_op rm_rely hF
  u_op rm_rely hF
  u_op rm_rely hF
  u_op rm_rely hF
  u_skip rm_rely hF
  u_skip rm_rely hF
  u_op rm_rely hF
  u_c stepG_region_end rm_rely hF
  u_cond false rm_rely hF
  u_c stepG_skip rm_rely hF
  u_c stepG_seq rm_rely hF
  u_reg rm_rely hF
  u_op rm_rely hF
  u_op rm_rely hF
  u_op rm_rely hF
  u_op rm_rely hF
  u_c stepG_region_end rm_rely hF
  u_c stepG_seq rm_rely hF
  u_reg rm_rely hF
  u_op rm_rely hF
  u_op rm_rely hF
  u_op rm_rely hF
  u_op rm_rely hF
  u_c stepG_region_end rm_rely hF
  u_c stepG_seq rm_rely hF
  u_c stepG_seq rm_rely hF
  u_reg rm_rely hF
  u_op rm_rely hF
  u_op rm_rely hF
  u_op rm_rely hF
  u_op rm_rely hF
  u_op rm_rely hF
  u_op rm_rely hF
  u_op rm_rely hF
  u_op rm_rely hF
  u_op rm_rely hF
  u_op rm_rely hF
  u_c stepG_region_end rm_rely hF
  u_cond true rm_rely hF
  u_reg rm_rely hF
  u_op rm_rely hF
  u_op rm_rely hF
  u_op rm_rely hF
  refine Goes.step rfl (fun _ h₁ => ?_)
  replace hF := rm_rely hF h₁
  clear h₁
  refine goes_oper_k rfl rfl (by k_ne) (fun Kx hKx => ?_)
  have hcv := run_convert_to_unsafe (P := K.P) H.underlying_tPU32 H.underlying_tUP H.room_tU32 (WgLive.cell1 hF).choose_spec
  have hce := fun es => events_convert_to_unsafe (P := K.P) H.underlying_tPU32 H.underlying_tUP H.room_tU32 (WgLive.cell1 hF).choose_spec es
  go_simp
  refine hKx _ _ ⟨?_, ?_⟩
  · u_none
    intro ex hex
    have hmx := mem_listed hex
    simp [go_sem, hce] at hmx
  clear hKx Kx hcv hce
  refine Goes.stop (fun w₃ h₃ => ?_)
  replace hF := rm_rely hF h₃
  clear h₃
  refine ⟨rfl, _, stepG_markAt .read (by simp) rfl rfl (by k_ne) rfl H.f_raceRead (x_raceRead_n L) (x_raceRead_b L) (x_raceRead_x L) (x_raceRead_f L) (ad := ⟨_, 1, none⟩) (by simp [Act.eval] <;> rfl), 60, ?_⟩
  walk_nrm
  u_c stepG_region_end rm_rely hF
  u_c stepG_seq rm_rely hF
  u_c stepG_seq rm_rely hF
  u_reg rm_rely hF
  u_op rm_rely hF
  u_op rm_rely hF
  u_c stepG_region_end rm_rely hF
  u_cond false rm_rely hF
  u_c stepG_skip rm_rely hF
  u_c stepG_seq rm_rely hF
  u_c stepG_seq rm_rely hF
  u_reg rm_rely hF
  u_op rm_rely hF
  u_op rm_rely hF
  u_op rm_rely hF
  u_skip rm_rely hF
  u_skip rm_rely hF
  u_op rm_rely hF
  u_op rm_rely hF
  u_skip rm_rely hF
  u_skip rm_rely hF
  u_skip rm_rely hF
  u_skip rm_rely hF
  u_op rm_rely hF
  u_c stepG_region_end rm_rely hF
  u_cond false rm_rely hF
  u_c stepG_skip rm_rely hF
  u_c stepG_seq rm_rely hF
  u_c stepG_seq rm_rely hF
  u_reg rm_rely hF
  u_op rm_rely hF
  u_op rm_rely hF
  u_op rm_rely hF
  u_skip rm_rely hF
  u_skip rm_rely hF
  u_op rm_rely hF
  u_c stepG_region_end rm_rely hF
  u_cond true rm_rely hF
  u_c stepG_ret' rm_rely hF
  refine Goes.stop (fun w₄ h₄ => ?_)
  replace hF := rm_rely hF h₄
  clear h₄
  refine ⟨rfl, _, stepG_unwind_entry (v := .tuple #[]) (evs := #[mk .enable]) rfl H.f_enable (x_enable_n L) (x_enable_b L) (x_enable_x L) (x_enable_f L) (by simp [Extern.Race.none_]) (by simp [mk]) (by simp [mk]), 3, ?_⟩
  u_leave0 H.f_add rm_rely hF
  exact Goes.stop (fun _ _ => rfl)
end
end Go.Proofs.YtemgilofjbnoaaaGreatDoor
namespace Go.Proofs.YtemgilofjbnoaaaGreatDoor
open Go Go.Conc Go.ConcN
open Go.ConcR (KK wgBlock WgAt stA smA rd wr mk Payload DC0)
set_option linter.unusedVariables false
set_option linter.unusedSimpArgs false
section
variable {P : Program} {R : World → World → Prop} {Stop : Goroutine → World → Prop}
theorem Goes.cases' {main : Bool} {D : World → World → Array Event → Prop} {n : Nat} {g : Goroutine} {w : World} (h : Goes P main R D Stop n g w) :
    (∀ w₁, R w w₁ → Stop g w₁) ∨ ∃ n', n = n' + 1 ∧ g.status = .running ∧ ∀ w₁, R w w₁ → ∃ g' w' es, stepG P main g w₁ = .go g' w' es ∧ D w₁ w' es ∧ Goes P main R D Stop n' g' w' := by
  cases n with
  | zero => exact .inl h
  | succ n =>
    rcases h with h | ⟨hs, h⟩
    · exact .inl h
    · exact .inr ⟨n, rfl, hs, fun w₁ h₁ => goes_elim (h w₁ h₁)⟩
structure Alone (P : Program) (Sp : Nat → Prop) (B n : Nat) (g : Goroutine) (gs : Array Goroutine) (t : Trace) (q : Nat → Nat) : Prop where
  h0 : gs[0]? = some g
  lv : Leavers P t gs q
  past : PastD (ShunS Sp) B t
  size : gs.size = n
variable {F : Array Func} {SM : Frame → List Frame → World → Prop} {fr : Frame} {sm stt : List Frame} {S Sp Sp0 : Nat → Prop} {K : Nat → Obj} {x : St} {gs : Array Goroutine} {w : World} {sl : Option (Nat × Nat)} {t : Trace} {q : Nat → Nat} {B n : Nat} {g : Goroutine}
theorem Alone.step {Q : Goroutine → World → Array Event → Prop} (h : Alone P Sp B n g gs t q) (hrun : g.status = .running) (hgo : ∀ d, ∃ g' w' es, stepG P true g (w.at d) = .go g' w' es ∧ (∀ e ∈ es, EvT (ShunS Sp) e) ∧ w.heap.size ≤ w'.heap.size ∧ Q g' w' es)
    (next : ∀ g' w' es gs' sl' t' q', Q g' w' es → Alone P Sp (deafBehind B es) n g' gs' t' q' → Concl P F SM fr sm stt S K Sp0 x gs' w' sl' t') : Concl P F SM fr sm stt S K Sp0 x gs w sl t := by
  obtain ⟨d, one⟩ := one_step (sl := sl) (w := w) hrun h.h0 h.lv h.past
  obtain ⟨g', w', es, e1, e2, e3, e4⟩ := hgo d
  obtain ⟨N, gs', sl', t', q', r1, r2, r3, r4, r5⟩ := one _ _ _ e1 e2
  exact Concl.mach r1 (fun _ h => ⟨h, rfl⟩) e3 (next g' w' es gs' sl' t' q' e4 ⟨r3, r4, r5, r2.trans h.size⟩)
theorem Alone.goes (hR : ∀ w d, R w (w.at d)) : ∀ (m : Nat) {g : Goroutine} {gs : Array Goroutine} {w : World} {sl : Option (Nat × Nat)} {t : Trace} {q : Nat → Nat}, Goes P true R DC0 Stop m g w → Alone P Sp B n g gs t q →
    (∀ g' gs' d sl' t' q', Alone P Sp B n g' gs' t' q' → (∀ d, Stop g' (w.at d)) → Concl P F SM fr sm stt S K Sp0 x gs' (w.at d) sl' t') → Concl P F SM fr sm stt S K Sp0 x gs w sl t := by
  intro m
  induction m with
  | zero =>
    intro g gs w sl t q hg h next
    exact next g gs w.drawn sl t q h (fun d => hg _ (hR w d))
  | succ m ih =>
    intro g gs w sl t q hg h next
    rcases Goes.cases' hg with hstop | ⟨m', hm, hs, hstep⟩
    · exact next g gs w.drawn sl t q h (fun d => hstop _ (hR w d))
    · injection hm with hm
      subst hm
      obtain ⟨d, one⟩ := one_step (sl := sl) (w := w) hs h.h0 h.lv h.past
      obtain ⟨g', w', es, e1, ⟨rfl, rfl⟩, e3⟩ := hstep _ (hR w d)
      obtain ⟨N, gs', sl', t', q', r1, r2, r3, r4, r5⟩ := one _ _ _ e1 (by simp)
      exact Concl.mach r1 (fun _ h => ⟨h, rfl⟩) (Nat.le_refl _) (ih e3 ⟨r3, r4, r5, r2.trans h.size⟩ fun g2 gs2 d2 sl2 t2 q2 h2 hst => next g2 gs2 d2 sl2 t2 q2 h2 hst)
end
section
variable [Payload]
variable {Kc : Crew} {St0 : Goroutine → World → Prop} {F : Array Func} {SM : Frame → List Frame → World → Prop} {fr : Frame} {sm stt : List Frame} {S Sp Sp0 : Nat → Prop} {K : Nat → Obj} {x : St} {gs : Array Goroutine} {w : World} {sl : Option (Nat × Nat)} {t : Trace} {q : Nat → Nat} {n : Nat} {g : Goroutine}
omit [Payload] in
theorem evT_mk {m : Mark} (h : ∀ a, m ≠ .read a) (h2 : ∀ a, m ≠ .write a) : EvT (ShunS Sp) (mk m) := by
  intro x hx
  cases m <;> simp [mk, MemAct.ofEvent, MemAct.touch?] at hx <;> simp_all
omit [Payload] in
theorem add_alone {m0 : Nat} (hg : Goes Kc.P true (RM Kc) DC0 (AtDis Kc St0) m0 g w) (h : Alone Kc.P Sp 0 n g gs t q) (hW : WgAt Kc.ty Kc.Wg w 0 0)
    (next : ∀ g' gs' d sl' t' q', Alone Kc.P Sp 0 n g' gs' t' q' → (∃ w0, St0 g' w0) → Concl Kc.P F SM fr sm stt S K Sp0 x gs' ((w.setCell (stA Kc.Wg) (.int .u64 (2 * KK))).at d) sl' t') : Concl Kc.P F SM fr sm stt S K Sp0 x gs w sl t := by
  have hR : ∀ w d, RM Kc w (w.at d) := fun w d h => h
  have hA := aside_setCell w (stA Kc.Wg) (.int .u64 (2 * KK))
  refine h.goes hR _ hg fun g1 gs1 d1 sl1 t1 q1 h1 k1 => ?_
  refine h1.step (k1 0).1 (Q := fun g' w' es => (∃ d, w' = w.at d) ∧ es = #[mk Mark.disable] ∧ ∃ m, Goes Kc.P true (RM Kc) DC0 (AtA2 Kc St0) m g' w') (fun d => ?_) fun g2 w2 es2 gs2 sl2 t2 q2 hq h2 => ?_
  · obtain ⟨_, g', e1, e2⟩ := k1 d
    exact ⟨g', _, _, e1, by intro e he; simp at he; subst he; exact evT_mk (by simp) (by simp), Nat.le_refl _, ⟨d, rfl⟩, rfl, e2⟩
  obtain ⟨⟨d2, rfl⟩, rfl, m2, hg2⟩ := hq
  replace h2 : Alone Kc.P Sp 1 n g2 gs2 t2 q2 := h2
  refine h2.goes hR _ hg2 fun g3 gs3 d3 sl3 t3 q3 h3 k3 => ?_
  refine h3.step (k3 0).1 (Q := fun g' w' es => (∃ d, w' = (w.setCell (stA Kc.Wg) (.int .u64 (2 * KK))).at d) ∧ es = #[rd (stA Kc.Wg), wr (stA Kc.Wg)] ∧ ∃ m, Goes Kc.P true (RM Kc) DC0 (AtSr Kc St0) m g' w') (fun d => ?_) fun g4 w4 es4 gs4 sl4 t4 q4 hq h4 => ?_
  · obtain ⟨_, k⟩ := k3 d
    obtain ⟨g', e1, e2⟩ := k hW
    refine ⟨g', _, _, e1, ?_, Nat.le_of_eq ?_, ⟨d, ?_⟩, rfl, e2⟩
    · intro e he x hx _
      simp at he
      rcases he with rfl | rfl <;> simp [rd, wr, MemAct.ofEvent, MemAct.touch?] at hx <;> subst hx <;> simp
    · exact (aside_setCell (w.at d) (stA Kc.Wg) (.int .u64 (2 * KK))).size.symm
    · rfl
  obtain ⟨⟨d4, rfl⟩, rfl, m4, hg4⟩ := hq
  replace h4 : Alone Kc.P Sp 1 n g4 gs4 t4 q4 := by
    have : deafBehind 1 #[rd (stA Kc.Wg), wr (stA Kc.Wg)] = 1 := by simp [deafBehind, rd, wr]
    rw [this] at h4; exact h4
  refine h4.goes hR _ hg4 fun g5 gs5 d5 sl5 t5 q5 h5 k5 => ?_
  refine h5.step (k5 0).1 (Q := fun g' w' es => (∃ d, w' = (w.setCell (stA Kc.Wg) (.int .u64 (2 * KK))).at d) ∧ es = #[mk (Mark.read (smA Kc.Wg))] ∧ ∃ m, Goes Kc.P true (RM Kc) DC0 (AtEn Kc St0) m g' w') (fun d => ?_) fun g6 w6 es6 gs6 sl6 t6 q6 hq h6 => ?_
  · obtain ⟨_, g', e1, e2⟩ := k5 d
    refine ⟨g', _, _, e1, ?_, Nat.le_refl _, ⟨d, rfl⟩, rfl, e2⟩
    intro e he x hx _
    simp at he
    subst he
    simp [mk, MemAct.ofEvent, MemAct.touch?] at hx
    subst hx
    simp
  obtain ⟨⟨d6, rfl⟩, rfl, m6, hg6⟩ := hq
  replace h6 : Alone Kc.P Sp 1 n g6 gs6 t6 q6 := h6
  refine h6.goes hR _ hg6 fun g7 gs7 d7 sl7 t7 q7 h7 k7 => ?_
  refine h7.step (k7 0).1 (Q := fun g' w' es => (∃ d, w' = (w.setCell (stA Kc.Wg) (.int .u64 (2 * KK))).at d) ∧ es = #[mk Mark.enable] ∧ ∃ m, Goes Kc.P true (RM Kc) DC0 St0 m g' w') (fun d => ?_) fun g8 w8 es8 gs8 sl8 t8 q8 hq h8 => ?_
  · obtain ⟨_, g', e1, e2⟩ := k7 d
    exact ⟨g', _, _, e1, by intro e he; simp at he; subst he; exact evT_mk (by simp) (by simp), Nat.le_refl _, ⟨d, rfl⟩, rfl, e2⟩
  obtain ⟨⟨d8, rfl⟩, rfl, m8, hg8⟩ := hq
  replace h8 : Alone Kc.P Sp 0 n g8 gs8 t8 q8 := h8
  refine h8.goes hR _ hg8 fun g9 gs9 d9 sl9 t9 q9 h9 k9 => ?_
  exact next g9 gs9 d9 sl9 t9 q9 h9 ⟨_, k9 0⟩
end
end Go.Proofs.YtemgilofjbnoaaaGreatDoor
namespace Go.Proofs.YtemgilofjbnoaaaGreatDoor
open Go Go.Conc Go.Conc.Lib
abbrev link : WgLink := { add := 132, done := 134, wait := 136, relMerge := 143, disable := 144, enable := 145, inBubble := 146, associate := 147, fatal := 148, uOr := 149, uAdd := 150, raceRead := 151, uLoad := 152, uStore := 153, disassociate := 154, semrelease := 155, acquire := 156, isAssociated := 157, uCas := 158, raceWrite := 159, semacquire := 160, orU64 := 162, addU64 := 163, loadU64 := 164, storeU64 := 165, casU64 := 166, tWgP := 187, tUP := 189, tAssoc := 190, tWg := 179, tAU := 177, tU64 := 159, tUint := 139, tU32 := 157, tPU32 := 194, tPAU := 204, tPU64 := 206, tNoCopy := 173, tANoCopy := 174, tAlign64 := 175 }
theorem wgLib : WgLib Tryz.prog link :=
  ⟨Tryz.func132, Tryz.func134, Tryz.func136, Tryz.func143, Tryz.func144, Tryz.func145, Tryz.func146, Tryz.func147, Tryz.func148, Tryz.func149, Tryz.func150, Tryz.func151, Tryz.func152, Tryz.func153, Tryz.func154, Tryz.func155, Tryz.func156, Tryz.func157, Tryz.func158, Tryz.func159, Tryz.func160, Tryz.func162, Tryz.func163, Tryz.func164, Tryz.func165, Tryz.func166, Tryz.underlying187, Tryz.runUnderlying187, Tryz.sizeOf187, Tryz.isAgg187, Tryz.zeroValue187, Tryz.underlying189, Tryz.runUnderlying189, Tryz.sizeOf189, Tryz.isAgg189, Tryz.zeroValue189, Tryz.underlying190, Tryz.runUnderlying190, Tryz.sizeOf190, Tryz.isAgg190, Tryz.zeroValue190, Tryz.underlying179, Tryz.runUnderlying179, Tryz.sizeOf179, Tryz.isAgg179, Tryz.zeroValue179, Tryz.underlying177, Tryz.runUnderlying177, Tryz.sizeOf177, Tryz.isAgg177, Tryz.zeroValue177, Tryz.underlying159, Tryz.runUnderlying159, Tryz.sizeOf159, Tryz.isAgg159, Tryz.zeroValue159, Tryz.underlying139, Tryz.runUnderlying139, Tryz.sizeOf139, Tryz.isAgg139, Tryz.zeroValue139, Tryz.underlying157, Tryz.runUnderlying157, Tryz.sizeOf157, Tryz.isAgg157, Tryz.zeroValue157, Tryz.underlying194, Tryz.runUnderlying194, Tryz.sizeOf194, Tryz.isAgg194, Tryz.zeroValue194, Tryz.underlying204, Tryz.runUnderlying204, Tryz.sizeOf204, Tryz.isAgg204, Tryz.zeroValue204, Tryz.underlying206, Tryz.runUnderlying206, Tryz.sizeOf206, Tryz.isAgg206, Tryz.zeroValue206, Tryz.underlying0, Tryz.runUnderlying0, Tryz.sizeOf0, Tryz.isAgg0, Tryz.zeroValue0, Tryz.underlying3, Tryz.runUnderlying3, Tryz.sizeOf3, Tryz.isAgg3, Tryz.zeroValue3, Tryz.underlying4, Tryz.runUnderlying4, Tryz.sizeOf4, Tryz.isAgg4, Tryz.zeroValue4, Tryz.underlying9, Tryz.runUnderlying9, Tryz.sizeOf9, Tryz.isAgg9, Tryz.zeroValue9, Tryz.underlying20, Tryz.runUnderlying20, Tryz.sizeOf20, Tryz.isAgg20, Tryz.zeroValue20, Tryz.underlying21, Tryz.runUnderlying21, Tryz.sizeOf21, Tryz.isAgg21, Tryz.zeroValue21, (by kernel_rfl), (by kernel_rfl)⟩
end Go.Proofs.YtemgilofjbnoaaaGreatDoor
namespace Go.Proofs.YtemgilofjbnoaaaGreatDoor
open Go Go.Conc
set_option linter.unusedVariables false
set_option linter.unusedSimpArgs false
section
variable {P : Program} {main : Bool} {R : World → World → Prop} {D : World → World → Array Event → Prop} {Stop : Goroutine → World → Prop} {n : Nat} {g g' : Goroutine} {w : World}
theorem served_G (fr : Frame) (cs : List Frame) (v : Value) : Conc.served (G fr cs) v = G (fr.finish v) cs := rfl
theorem goes_q (hD : ∀ w, D w w #[]) (hs : g.status = .running) (h : ∀ w, stepG P main g w = .go g' w #[]) (hG : ∀ w₁, R w w₁ → Goes P main R D Stop n g' w₁) : Goes P main R D Stop (n + 1) g w :=
  Goes.step hs fun w₁ r => by rw [h w₁]; exact ⟨hD w₁, hG w₁ r⟩
theorem goes_s (hs : g.status = .running) (h : ∀ w₁, R w w₁ → ∃ g' w' es, stepG P main g w₁ = .go g' w' es ∧ D w₁ w' es ∧ Goes P main R D Stop n g' w') : Goes P main R D Stop (n + 1) g w :=
  Goes.step hs fun w₁ r => by
    obtain ⟨g', w', es, e, hd, hG⟩ := h w₁ r
    rw [e]
    exact ⟨hd, hG⟩
variable {b : Frame} {a : Act} {ops : Array Oper} {i : Nat} {l : List Nat} {k : List Item} {cs : List Frame} {o : Oper} {t : TypeId} {x : Operand} {ad : Addr} {v v0 v1 : Value}
theorem events_underlying (P : Program) (t : TypeId) (w : World) (es : Array Event) : (underlying t).events P w es = es := by
  cases h : P.underlying t with
  | none => simp [underlying, h]
  | some d => simp [underlying, h]
theorem events_isAgg (P : Program) (t : TypeId) (w : World) (es : Array Event) : (isAgg t).events P w es = es := by
  unfold isAgg
  rw [Sem.events_bind, events_underlying]
  cases h : (underlying t).run P w with
  | ok d w' => cases d <;> simp
  | halt x w' => simp
theorem events_typeInfo (P : Program) (t : TypeId) (w : World) (es : Array Event) : (typeInfo t).events P w es = es := by
  cases h : P.info? t with
  | none => simp [typeInfo, h]
  | some d => simp [typeInfo, h]
theorem events_sizeOf (P : Program) (t : TypeId) (w : World) (es : Array Event) : (sizeOf t).events P w es = es := by
  unfold sizeOf
  rw [Sem.events_bind, events_typeInfo]
  cases h : (typeInfo t).run P w with
  | ok d w' => simp
  | halt x w' => simp
theorem exec_load (hop : o.op = .load t x) (hx : a.eval x = .pointer (some ad)) : execOp a.eval o = (do let v ← loadVar t ad; pure (Next.value v)) := by
  unfold execOp
  simp only [hop, Instr.loadAt, hx]
  rfl
theorem run_load1 (hop : o.op = .load t x) (hx : a.eval x = .pointer (some ad)) (hg : (isAgg t).run P w = .ok false w) (hc : w.cell? ad = some v) : (execOp a.eval o).run P w = .ok (.value v) w := by
  rw [exec_load hop hx]
  simp [loadVar, hg, hc]
theorem events_load1 (hop : o.op = .load t x) (hx : a.eval x = .pointer (some ad)) (hg : (isAgg t).run P w = .ok false w) (hc : w.cell? ad = some v) : (execOp a.eval o).events P w #[] = #[⟨.cell ad, false, false⟩] := by
  rw [exec_load hop hx]
  simp [loadVar, hg, hc, events_isAgg, events_load]
theorem run_load2 (hop : o.op = .load t x) (hx : a.eval x = .pointer (some ad)) (hg : (isAgg t).run P w = .ok true w) (hs : (sizeOf t).run P w = .ok 2 w) (hc0 : w.cell? (ad.add 0) = some v0) (hc1 : w.cell? (ad.add 1) = some v1) : (execOp a.eval o).run P w = .ok (.value (.agg #[v0, v1])) w := by
  rw [exec_load hop hx]
  simp [loadVar, hg, hs, loadCells, loadCellsFrom, hc0, hc1]
theorem events_load2 (hop : o.op = .load t x) (hx : a.eval x = .pointer (some ad)) (hg : (isAgg t).run P w = .ok true w) (hs : (sizeOf t).run P w = .ok 2 w) (hc0 : w.cell? (ad.add 0) = some v0) (hc1 : w.cell? (ad.add 1) = some v1) :
    (execOp a.eval o).events P w #[] = #[⟨.cell (ad.add 0), false, false⟩, ⟨.cell (ad.add 1), false, false⟩] := by
  rw [exec_load hop hx]
  simp [loadVar, hg, hs, loadCells, loadCellsFrom, hc0, hc1, events_isAgg, events_sizeOf, events_load]
theorem step_load1 (ho : ops[i]? = some o) (hw : Region.wanted o (yielded ops a.tmps) = true) (hk : b.kind ≠ .early) (hop : o.op = .load t x) (hx : a.eval x = .pointer (some ad)) (hg : (isAgg t).run P w = .ok false w) (hc : w.cell? ad = some v) :
    ∃ es, stepG P main (G (b.at a (.inRegion ops (i :: l) :: k)) cs) w = .go (G (b.at (a.put o.dst v) (.inRegion ops l :: k)) cs) w es ∧ ∀ e ∈ es, e = ⟨.cell ad, false, false⟩ := by
  refine ⟨_, stepG_value ho hw hk (run_load1 hop hx hg hc), fun e he => ?_⟩
  have := mem_listed he
  rw [events_load1 hop hx hg hc] at this
  simpa using this
theorem step_load2 (ho : ops[i]? = some o) (hw : Region.wanted o (yielded ops a.tmps) = true) (hk : b.kind ≠ .early) (hop : o.op = .load t x) (hx : a.eval x = .pointer (some ad)) (hg : (isAgg t).run P w = .ok true w) (hs : (sizeOf t).run P w = .ok 2 w) (hc0 : w.cell? (ad.add 0) = some v0) (hc1 : w.cell? (ad.add 1) = some v1) :
    ∃ es, stepG P main (G (b.at a (.inRegion ops (i :: l) :: k)) cs) w = .go (G (b.at (a.put o.dst (.agg #[v0, v1])) (.inRegion ops l :: k)) cs) w es ∧ ∀ e ∈ es, e = ⟨.cell (ad.add 0), false, false⟩ ∨ e = ⟨.cell (ad.add 1), false, false⟩ := by
  refine ⟨_, stepG_value ho hw hk (run_load2 hop hx hg hs hc0 hc1), fun e he => ?_⟩
  have := mem_listed he
  rw [events_load2 hop hx hg hs hc0 hc1] at this
  simpa using this
theorem goes_load1 (ho : ops[i]? = some o) (hw : Region.wanted o (yielded ops a.tmps) = true) (hk : b.kind ≠ .early) (hop : o.op = .load t x) (hx : a.eval x = .pointer (some ad))
    (h : ∀ w₁, R w w₁ → (isAgg t).run P w₁ = .ok false w₁ ∧ w₁.cell? ad = some v ∧ (∀ es, (∀ e ∈ es, e = ⟨.cell ad, false, false⟩) → D w₁ w₁ es) ∧ Goes P main R D Stop n (G (b.at (a.put o.dst v) (.inRegion ops l :: k)) cs) w₁) :
    Goes P main R D Stop (n + 1) (G (b.at a (.inRegion ops (i :: l) :: k)) cs) w :=
  goes_s rfl fun w₁ r => by
    obtain ⟨h1, h2, h3, h4⟩ := h w₁ r
    obtain ⟨es, e1, e2⟩ := step_load1 (main := main) (l := l) (k := k) (cs := cs) ho hw hk hop hx h1 h2
    exact ⟨_, _, es, e1, h3 es e2, h4⟩
theorem goes_load2 (ho : ops[i]? = some o) (hw : Region.wanted o (yielded ops a.tmps) = true) (hk : b.kind ≠ .early) (hop : o.op = .load t x) (hx : a.eval x = .pointer (some ad))
    (h : ∀ w₁, R w w₁ → (isAgg t).run P w₁ = .ok true w₁ ∧ (sizeOf t).run P w₁ = .ok 2 w₁ ∧ w₁.cell? (ad.add 0) = some v0 ∧ w₁.cell? (ad.add 1) = some v1 ∧ (∀ es, (∀ e ∈ es, e = ⟨.cell (ad.add 0), false, false⟩ ∨ e = ⟨.cell (ad.add 1), false, false⟩) → D w₁ w₁ es) ∧ Goes P main R D Stop n (G (b.at (a.put o.dst (.agg #[v0, v1])) (.inRegion ops l :: k)) cs) w₁) :
    Goes P main R D Stop (n + 1) (G (b.at a (.inRegion ops (i :: l) :: k)) cs) w :=
  goes_s rfl fun w₁ r => by
    obtain ⟨h1, h2, h3, h4, h5, h6⟩ := h w₁ r
    obtain ⟨es, e1, e2⟩ := step_load2 (main := main) (l := l) (k := k) (cs := cs) ho hw hk hop hx h1 h2 h3 h4
    exact ⟨_, _, es, e1, h5 es e2, h6⟩
end
end Go.Proofs.YtemgilofjbnoaaaGreatDoor
namespace Go.Proofs.YtemgilofjbnoaaaGreatDoor
open Go Go.Conc Go.ConcN
open Go.ConcR (KK wgBlock WgAt stA smA rd wr mk Payload Aside2 DC0 Bk g_of_ofEvents again_blocked ofEvent_loc_mark ofEvent_cell ofEvent_mk bk_of_mute)
set_option linter.unusedVariables false
set_option linter.unusedSimpArgs false
set_option linter.unusedSectionVars false
variable [Payload]
section
variable {K : Crew} {Anch : Goroutine → World → Prop} {WB : World → Prop} {w w₁ w₂ w' : World}
theorem RA.refl (w : World) : RA K w w := ⟨rfl, rfl, id⟩
theorem RA.trans (h : RA K w w₁) (h' : RA K w₁ w₂) : RA K w w₂ := ⟨h'.l.trans h.l, h'.x.trans h.x, h'.live ∘ h.live⟩
theorem RA.at (w : World) (d : Nat) : RA K w (w.at d) := ⟨rfl, rfl, id⟩
theorem RB0.refl (w : World) : RB0 K w w := ⟨fun _ _ _ _ => rfl, rfl, rfl, rfl, id, id, id⟩
theorem RB.refl (w : World) : RB K w w := ⟨.refl w, rfl⟩
theorem RB0.trans (h : RB0 K w w₁) (h' : RB0 K w₁ w₂) : RB0 K w w₂ := ⟨fun b a c d => (h'.low b a c d).trans (h.low b a c d), h'.size.trans h.size, h'.os.trans h.os, h'.output.trans h.output, h'.live ∘ h.live, h'.ch ∘ h.ch, h'.pay ∘ h.pay⟩
theorem RB.trans (h : RB K w w₁) (h' : RB K w₁ w₂) : RB K w w₂ := ⟨h.b.trans h'.b, h'.cell.trans h.cell⟩
theorem RB.at (w : World) (d : Nat) : RB K w (w.at d) := ⟨⟨fun _ _ _ _ => rfl, rfl, rfl, rfl, id, id, id⟩, rfl⟩
theorem RM.refl (w : World) : RM K w w := id
theorem RM.trans (h : RM K w w₁) (h' : RM K w₁ w₂) : RM K w w₂ := h' ∘ h
theorem WgLive.of_block' {ty : TypeId} {Wg : Nat} (e : w₁.heap[Wg]? = w.heap[Wg]?) : WgLive ty Wg w → WgLive ty Wg w₁ := fun ⟨st, sm, h⟩ => ⟨st, sm, h.of_block e⟩
theorem ChLive.of_block {c : Nat} (e : w₁.heap[c]? = w.heap[c]?) : ChLive c w → ChLive c w₁ := fun ⟨a, s, r, h⟩ => ⟨a, s, r, e.trans h⟩
theorem PayAt.of_block {C n : Nat} (e : w₁.heap[C]? = w.heap[C]?) : PayAt C n w → PayAt C n w₁ := fun ⟨cs, h, hn⟩ => ⟨cs, e.trans h, hn⟩
theorem RA.of_wg (G : Good3 K Anch WB) (h : Aside K.Wg w w') (hl : WgLive K.ty K.Wg w') : RA K w w' := ⟨h.block _ G.lw, h.block _ G.xw, fun _ => hl⟩
theorem RB.of_wg (G : Good3 K Anch WB) (h : Aside K.Wg w w') (hl : WgLive K.ty K.Wg w') : RB K w w' :=
  ⟨⟨fun b hb _ _ => h.block b hb, h.size, h.os, h.output, fun _ => hl, ChLive.of_block (h.block _ G.cw), PayAt.of_block (h.block _ G.xw)⟩, cell_of_block (h.block _ G.xw) 1⟩
theorem aside_setChan (w : World) (c cap : Nat) (buf : Array Value) (cl : Bool) (s r : Nat) (tm : Bool) : Aside c w (w.setChan c cap buf cl s r tm) :=
  ⟨rfl, rfl, rfl, by simp [World.setChan], fun k hk => by simp only [World.setChan]; rw [Array.getElem?_setIfInBounds_ne (fun e => hk e.symm)]⟩
theorem setChan_get {c cap s r s' r' : Nat} {buf buf' : Array Value} {cl cl' tm tm' : Bool} {cap' : Nat} (h : w.heap[c]? = some (.chan cap' buf' cl' s' r' tm')) : (w.setChan c cap buf cl s r tm).heap[c]? = some (.chan cap buf cl s r tm) := by
  have hlt := (Array.getElem?_eq_some_iff.1 h).1
  simp [World.setChan, hlt]
theorem RA.of_ch (G : Good3 K Anch WB) (h : Aside K.Ch w w') : RA K w w' := ⟨h.block _ G.lc, h.block _ G.xc, WgLive.of_block' (h.block _ (Ne.symm G.cw))⟩
theorem RB.of_ch (G : Good3 K Anch WB) (h : Aside K.Ch w w') (hl : ChLive K.Ch w') : RB K w w' :=
  ⟨⟨fun b _ hb _ => h.block b hb, h.size, h.os, h.output, WgLive.of_block' (h.block _ (Ne.symm G.cw)), fun _ => hl, PayAt.of_block (h.block _ G.xc)⟩, cell_of_block (h.block _ G.xc) 1⟩
theorem RW.of_ch (G : Good3 K Anch WB) (h : Aside K.Ch w w') (i : Nat) : RW K.ty K.Wg K.X 2 0 i w w' :=
  ⟨fun b hb => absurd hb (Nat.not_lt_zero _), WgLive.of_block' (h.block _ (Ne.symm G.cw)), PayAt.of_block (h.block _ G.xc), cell_of_block (h.block _ G.xc) i⟩
theorem RB0.of_cell (G : Good3 K Anch WB) {i : Nat} (h : AsideCell K.X 2 i w w') : RB0 K w w' :=
  ⟨fun b _ _ hb => h.block b hb, h.size, h.os, h.output, WgLive.of_block' (h.block _ (Ne.symm G.xw)), ChLive.of_block (h.block _ (Ne.symm G.xc)), h.pay⟩
theorem RB.of_cell (G : Good3 K Anch WB) (h : AsideCell K.X 2 0 w w') : RB K w w' := ⟨.of_cell G h, h.cells 1 (by omega)⟩
theorem RW.of_cell' (G : Good3 K Anch WB) {i i' : Nat} (h : AsideCell K.X 2 i w w') (hne : i' ≠ i) : RW K.ty K.Wg K.X 2 0 i' w w' := RW.of_cell h hne G.xw
theorem RA.of_db {es : Array Event} (h : DB K w w' es) : RA K w w' := ⟨h.l, h.x, WgLive.of_block' h.wg⟩
theorem RW.of_db {es : Array Event} (h : DB K w w' es) (i : Nat) : RW K.ty K.Wg K.X 2 0 i w w' :=
  ⟨fun b hb => absurd hb (Nat.not_lt_zero _), WgLive.of_block' h.wg, PayAt.of_block h.x, cell_of_block h.x i⟩
theorem RW.of_wg' (G : Good3 K Anch WB) (h : Aside K.Wg w w') (hl : WgLive K.ty K.Wg w') (i : Nat) : RW K.ty K.Wg K.X 2 0 i w w' := RW.of_wg h hl G.xw
theorem tr_RA : ∀ a b c, RA K a b → RA K b c → RA K a c := fun _ _ _ h1 h2 => h1.trans h2
theorem tr_RB : ∀ a b c, RB K a b → RB K b c → RB K a c := fun _ _ _ h1 h2 => h1.trans h2
theorem tr_RM : ∀ a b c, RM K a b → RM K b c → RM K a c := fun _ _ _ h1 h2 => RM.trans h1 h2
section
variable {i s m d : Nat} {og : Option Goroutine} {o g g' : Goroutine}
theorem Sit.rely (h : Sit K i s m d og w) (hA : i = 0 → 10 ≤ s → RA K w w') (hB : i = 1 → 8 ≤ s → RB K w w') (hW : s ≤ 7 → RW K.ty K.Wg K.X 2 0 i w w') (hF : i = 1 → s ≤ 7 → K.F w → K.F w') : Sit K i s m d og w' := by
  cases h with
  | unborn => exact .unborn
  | a12 h => exact .a12 (Goes.rely tr_RA h (hA rfl (by omega)))
  | a11 h => exact .a11 (fun w₂ h₂ => h w₂ ((hA rfl (by omega)).trans h₂))
  | a10 h => exact .a10 (Goes.rely tr_RA h (hA rfl (by omega)))
  | b12 h => exact .b12 (Goes.rely tr_RB h (hB rfl (by omega)))
  | b11 h => exact .b11 (fun w₂ h₂ => h w₂ ((hB rfl (by omega)).trans h₂))
  | b10 h => exact .b10 (Goes.rely tr_RB h (hB rfl (by omega)))
  | b9 h => exact .b9 (fun w₂ h₂ => h w₂ ((hB rfl (by omega)).trans h₂))
  | b8 h => exact .b8 (fun w₂ h₂ => h w₂ ((hB rfl (by omega)).trans h₂))
  | low hi hs h hf => exact .low hi hs (h.rely (by simpa using hW hs)) (fun e => hF e hs (hf e))
theorem Sit.status (h : Sit K i s m d (some o) w) : (o.status = .running ∨ o.status = .finished) ∨ (o.status = .blocked ∧ (s = 11 ∨ s = 9)) := by
  cases h with
  | a12 h => exact .inl (.inl (Goes.running (fun _ _ x => x.1) w (.refl w) h))
  | a11 h => exact .inr ⟨rfl, .inl rfl⟩
  | a10 h => exact .inl (.inl (Goes.running (fun _ _ x => x.1) w (.refl w) h))
  | b12 h => exact .inl (.inl (Goes.running (fun _ _ x => x.1) w (.refl w) h))
  | b11 h => exact .inr ⟨rfl, .inl rfl⟩
  | b10 h => exact .inl (.inl (Goes.running (fun _ _ x => x.1) w (.refl w) h))
  | b9 h => exact .inr ⟨rfl, .inr rfl⟩
  | b8 h => exact .inl (.inl rfl)
  | low hi hs h hf => exact .inl h.status
theorem Sit.running (h : Sit K i s m d (some o) w) (h1 : s ≠ 1) (h2 : s ≠ 11) (h3 : s ≠ 9) : o.status = .running := by
  cases h with
  | a12 h => exact Goes.running (fun _ _ x => x.1) w (.refl w) h
  | a11 h => exact absurd rfl h2
  | a10 h => exact Goes.running (fun _ _ x => x.1) w (.refl w) h
  | b12 h => exact Goes.running (fun _ _ x => x.1) w (.refl w) h
  | b11 h => exact absurd rfl h2
  | b10 h => exact Goes.running (fun _ _ x => x.1) w (.refl w) h
  | b9 h => exact absurd rfl h3
  | b8 h => rfl
  | low hi hs h hf => exact h.running_of h1
theorem Sit.there (h : Sit K i s m d og w) (hs : s ≠ 13) : ∃ o, og = some o := by
  cases h with
  | unborn => exact absurd rfl hs
  | _ => exact ⟨_, rfl⟩
theorem Sit.woken_id (h : Sit K i s m d (some o) w) (ho : s = 11 ∨ s = 9 → ∃ s r, w'.heap[K.Ch]? = some (.chan 0 #[] false s r false)) : woken K.P g g' w' o = o := by
  rcases h.status with hs | ⟨_, h9⟩
  · unfold Go.Conc.woken
    split
    · exact again_running _ hs
    · rfl
  · obtain ⟨s', r', hc⟩ := ho h9
    cases h with
    | a11 h => exact woken_send_open _ _ hc
    | b11 h => exact woken_recv_open _ _ hc
    | b9 h => exact woken_recv_open _ _ hc
    | low hi hs _ _ => omega
    | _ => rcases h9 with h9 | h9 <;> cases h9
theorem Sit.silent (h : Sit K i s m d (some o) w) (h2 : s ≠ 11) (h3 : s ≠ 9) (r : Nat) (b : Bool) : offersAt o r b = [] := by
  refine offersAt_of_not_blocked ?_ r b
  rcases h.status with (e | e) | ⟨_, e⟩
  · rw [e]; simp
  · rw [e]; simp
  · rcases e with e | e
    · exact absurd e h2
    · exact absurd e h3
end
section
variable {tag : MTag} {f d : Nat} {a g g' : Goroutine}
theorem MSit.rely (h : MSit K Anch WB tag f d a w) (hr : RM K w w') : MSit K Anch WB tag f d a w' := by
  cases h with
  | goB h => exact .goB (Goes.rely tr_RM h hr)
  | kd h => exact .kd (Goes.rely tr_RM h hr)
  | anch h => exact .anch (Goes.rely tr_RM h hr)
  | w1 h => exact .w1 (Goes.rely tr_RM h hr)
  | w2 h => exact .w2 (Goes.rely tr_RM h hr)
  | sd h => exact .sd (Goes.rely tr_RM h hr)
  | w3 h => exact .w3 (Goes.rely tr_RM h hr)
  | blk h => exact .blk (fun w₂ h₂ => h w₂ (RM.trans hr h₂))
  | w4 h => exact .w4 (Goes.rely tr_RM h hr)
  | ke h => exact .ke (Goes.rely tr_RM h hr)
  | acq h => exact .acq (Goes.rely tr_RM h hr)
  | ret h => exact .ret h
theorem MSit.status (hAr : ∀ g w, Anch g w → g.status = .running) (h : MSit K Anch WB tag f d a w) (hne : tag ≠ .ret) : (a.status = .running ∧ tag ≠ .blk) ∨ (a.status = .blocked ∧ a.offers = none ∧ tag = .blk) := by
  cases h with
  | goB h => exact .inl ⟨Goes.running (fun _ _ x => x.1) w (RM.refl w) h, by simp⟩
  | kd h => exact .inl ⟨Goes.running (fun _ _ x => x.1) w (RM.refl w) h, by simp⟩
  | anch h => exact .inl ⟨Goes.running hAr w (RM.refl w) h, by simp⟩
  | w1 h => exact .inl ⟨Goes.running (fun _ _ x => x.1) w (RM.refl w) h, by simp⟩
  | w2 h => exact .inl ⟨Goes.running (fun _ _ x => x.1) w (RM.refl w) h, by simp⟩
  | sd h => exact .inl ⟨Goes.running (fun _ _ x => x.1) w (RM.refl w) h, by simp⟩
  | w3 h => exact .inl ⟨Goes.running (fun _ _ x => x.1) w (RM.refl w) h, by simp⟩
  | blk h => exact .inr ⟨rfl, (h w (RM.refl w)).2.1, rfl⟩
  | w4 h => exact .inl ⟨Goes.running (fun _ _ x => x.1) w (RM.refl w) h, by simp⟩
  | ke h => exact .inl ⟨Goes.running (fun _ _ x => x.1) w (RM.refl w) h, by simp⟩
  | acq h => exact .inl ⟨Goes.running (fun _ _ x => x.1) w (RM.refl w) h, by simp⟩
  | ret h => exact absurd rfl hne
theorem MSit.silent (hAr : ∀ g w, Anch g w → g.status = .running) (h : MSit K Anch WB tag f d a w) (hne : tag ≠ .ret) (r : Nat) (b : Bool) : offersAt a r b = [] := by
  rcases h.status hAr hne with ⟨hs, _⟩ | ⟨hs, ho, _⟩
  · exact offersAt_of_not_blocked (by rw [hs]; simp) r b
  · simp [offersAt, hs, ho]
theorem MSit.wokenBy (hAr : ∀ g w, Anch g w → g.status = .running) (h : MSit K Anch WB tag f d a w) (hne : tag ≠ .ret) (hr : RM K w w') (g g' : Goroutine) :
    ∃ tag' f', MSit K Anch WB tag' f' d (woken K.P g g' w' a) w' ∧ f' ≤ f + 1 ∧ (tag' = tag ∨ (tag = .blk ∧ tag' = .w3)) ∧ (mayWake K.P g = true → g'.status = .running → tag' ≠ .blk) := by
  have h' := h.rely hr
  unfold Go.Conc.woken
  split
  · rcases h'.status hAr hne with ⟨hs, hne⟩ | ⟨_, _, rfl⟩
    · exact ⟨tag, f, by rw [again_running _ (.inl hs)]; exact h', by omega, .inl rfl, fun _ _ => hne⟩
    · cases h' with
      | blk hb =>
        rename_i g0
        have h3 := hb w' (RM.refl w')
        exact ⟨.w3, 0 + 1, by rw [again_blocked h3.1 h3.2.1]; exact .w3 (Goes.stop hb), by omega, .inr ⟨rfl, rfl⟩, fun _ _ => by simp⟩
  · rename_i hc
    exact ⟨tag, f, h', by omega, .inl rfl, fun h1 h2 => absurd (by simp [h1, h2]) hc⟩
end
section
variable {fn : FuncId} {pos : String} {es : Array Event} {R : Nat → Prop} {k : Nat}
theorem okT_of_EvK {i : Nat} (h : ∀ e ∈ es, EvK K i e) (hR : R (K.ka + i)) : ∀ op ∈ MemOp.ofEvents (K.ka + i) fn pos es, OkT K.fam R (K.ka + i) op := by
  intro op hop
  rw [ofEvents_eq] at hop
  obtain ⟨e, he, rfl⟩ := Array.mem_map.1 hop
  exact ⟨rfl, fun x hx => .inr ⟨hR, (h e he).1 x hx⟩⟩
theorem okT_of_Bk (G : Good3 K Anch WB) (h : ∀ e ∈ es, Bk K.Wg e) : ∀ op ∈ MemOp.ofEvents k fn pos es, OkT K.fam R k op := by
  intro op hop
  rw [ofEvents_eq] at hop
  obtain ⟨e, he, rfl⟩ := Array.mem_map.1 hop
  refine ⟨rfl, fun x hx => ?_⟩
  rcases h e he with h1 | h1 | ⟨a, wr, rfl, ha⟩
  · simp only [ofEvent_loc_mark h1] at hx; cases hx
  · simp only [ofEvent_loc_mark h1] at hx; cases hx
  · simp only [ofEvent_cell, MemAct.touch?, Option.some.injEq] at hx
    subst hx
    exact .inl ⟨(G.sh _).2 ⟨a, rfl, ha⟩, by simp, by simp⟩
theorem okT_of_EvW (G : Good3 K Anch WB) {i : Nat} (h : ∀ e ∈ es, EvW K.Wg noFam noFam (i + 1) e) : ∀ op ∈ MemOp.ofEvents k fn pos es, OkT K.fam R k op := by
  intro op hop
  rw [ofEvents_eq] at hop
  obtain ⟨e, he, rfl⟩ := Array.mem_map.1 hop
  refine ⟨rfl, fun x hx => ?_⟩
  rcases ((h e he).1 fn pos).2 x hx with ⟨h1, h2, h3⟩ | h1 | ⟨h1, _⟩
  · exact .inl ⟨(G.sh _).2 h1, h2, fun e => absurd e h3⟩
  · exact h1.elim
  · exact h1.elim
theorem okT_none (h : ∀ e ∈ es, (MemAct.ofEvent e).touch? = none) : ∀ op ∈ MemOp.ofEvents k fn pos es, OkT K.fam R k op := by
  intro op hop
  rw [ofEvents_eq] at hop
  obtain ⟨e, he, rfl⟩ := Array.mem_map.1 hop
  exact ⟨rfl, fun x hx => by simp only [h e he] at hx; cases hx⟩
end
section
variable {gs gs' : Array Goroutine} {sl : Option (Nat × Nat)} {t u : Trace} {D D' : Nat → WD} {d0 d0' : Nat} {q q' : Nat → Nat} {tag : MTag} {f0 : Nat} {a : Goroutine} {st sm st' sm' : Int}
theorem rr_eq (h13 : (D' 1).stage = 13 ↔ (D 1).stage = 13) : RR K D' = RR K D := by
  funext k
  simp only [RR, ne_eq, h13]
theorem ComC.next (h : ComC K gs w t D d0 q) (hsz : gs'.size = gs.size) (h13 : (D' 1).stage = 13 ↔ (D 1).stage = 13)
    (hwk : ∀ i, i < 2 → Sit K i (D' i).stage (D' i).fuel (D' i).deaf gs'[K.ka + i]? w') (hlv : ∀ i g, 0 < i → i < K.ka → gs'[i]? = some g → QuitsD K.P (q' i) (Deaf (t ++ u) i) g)
    (hab : ∀ j, gs.size ≤ j → Deaf (t ++ u) j = Deaf t j) (ht3 : T3 K.fam (RR K D) (t ++ u)) (hnr : ∀ op ∈ u, op.act ≠ .mark (.release (stA K.Wg))) (hd0 : Deaf (t ++ u) 0 = d0')
    (hdW : ∀ i, i < 2 → Deaf (t ++ u) (K.ka + i) = (D' i).deaf) (hrel : ∀ i, i < 2 → (D' i).stage ≤ 6 → ∃ r, Rel3 K.fam (stA K.Wg) K.n0 (t ++ u) (K.ka + i) r) (hpay : PayAt K.X 2 w')
    (hj : Joint (D' 0).stage (D' 1).stage) (hc : ∃ cl s r, w'.heap[K.Ch]? = some (.chan 0 #[] cl s r false) ∧ (cl = true ↔ (D' 0).stage ≤ 7)) : ComC K gs' w' (t ++ u) D' d0' q' := by
  refine ⟨by have := h.long; simp; omega, by rw [hsz, h.size]; simp only [h13], h.pos, hwk, hlv, fun j hj => (hab j (by omega)).trans (h.above j (by omega)), by rw [rr_eq h13]; exact ht3, h.norel.app hnr, hd0, hdW, hrel, hpay, hj, hc⟩
omit [Payload] in
theorem two {i : Nat} (h : i < 2) : i = 0 ∨ i = 1 := by omega
theorem ComC.lt (h : ComC K gs w t D d0 q) {i : Nat} {g : Goroutine} (hi : i < 2) (hg : gs[K.ka + i]? = some g) : (i = 1 → (D 1).stage ≠ 13) := by
  rintro rfl e
  have := (Array.getElem?_eq_some_iff.1 hg).1
  rw [h.size, e] at this
  simp at this
theorem ComC.rr (h : ComC K gs w t D d0 q) {i : Nat} {g : Goroutine} (hi : i < 2) (hg : gs[K.ka + i]? = some g) : RR K D (K.ka + i) := by
  rcases two hi with rfl | rfl
  · exact .inl rfl
  · exact .inr ⟨rfl, h.lt hi hg rfl⟩
theorem wstep (G : Good3 K Anch WB) (ha : gs[0]? = some a) (hms : MSit K Anch WB tag f0 d0 a w) (hne : tag ≠ .ret) (hcom : ComC K gs w t D d0 q) (htag : (D 1).stage = 13 ↔ tag = .goB) (hWB : tag = .goB → WB w')
    {i : Nat} (hi : i < 2) {g g' : Goroutine} {es : Array Event} {s' m' dd' : Nat} (hg : gs[K.ka + i]? = some g) (hgo : stepG K.P false g w = .go g' w' es) (hDi : D' i = ⟨s', m', dd'⟩) (hs' : Sit K i s' m' dd' (some g') w')
    (hoth : ∀ i', i' < 2 → i' ≠ i → Sit K i' (D' i').stage (D' i').fuel (D' i').deaf (gs[K.ka + i']?.map (woken K.P g g' w')) w')
    (hro : ∀ i', i' < 2 → i' ≠ i → (D' i').deaf = (D i').deaf ∧ ((D' i').stage ≤ 6 → (D i').stage ≤ 6)) (h13 : (D' 1).stage = 13 ↔ (D 1).stage = 13)
    (hok : ∀ op ∈ MemOp.ofEvents (K.ka + i) g.frame.fn g.frame.place es, OkT K.fam (RR K D) (K.ka + i) op) (hnr : ∀ e ∈ es, e.loc ≠ .mark (.release (stA K.Wg))) (hdeaf : deafBehind (D i).deaf es = dd')
    (hrel : s' ≤ 6 → ∃ r, Rel3 K.fam (stA K.Wg) K.n0 (t ++ MemOp.ofEvents (K.ka + i) g.frame.fn g.frame.place es) (K.ka + i) r)
    (hpay : PayAt K.X 2 w') (hwg : WgAt K.ty K.Wg w' st' sm') (hj : Joint (D' 0).stage (D' 1).stage) (hc : ∃ cl s r, w'.heap[K.Ch]? = some (.chan 0 #[] cl s r false) ∧ (cl = true ↔ (D' 0).stage ≤ 7))
    (hmode : ∀ tag', (tag' = tag ∨ (tag = .blk ∧ tag' = .w3)) → (mayWake K.P g = true → g'.status = .running → tag' ≠ .blk) → ConcN.Mode 2 (md D') (ctag tag') st' sm')
    (hlt : (Vc 2 (md D') ≤ Vc 2 (md D) ∧ (D' 0).stage + (D' 1).stage < (D 0).stage + (D 1).stage) ∨ (Vc 2 (md D') = Vc 2 (md D) ∧ (D' 0).stage + (D' 1).stage = (D 0).stage + (D 1).stage ∧ (D' 0).fuel + (D' 1).fuel + 1 ≤ (D 0).fuel + (D 1).fuel)) :
    ∃ m₁ ops μ', runT K.P (crowd gs w sl) (K.ka + i) = (.next m₁, ops) ∧ Lt2 μ' (rankC D tag, fuelC K D f0 q) ∧ InvC K Anch WB μ' m₁ (t ++ ops) := by
  have hpos := hcom.pos
  obtain ⟨tag', f', hms', hf', ht', hwk⟩ := hms.wokenBy G.anr hne (fun _ => ⟨_, _, hwg⟩ : RM K w w') g g'
  have hrun := runT_crowd_go (P := K.P) (sl := sl) (i := K.ka + i) hg (by rw [show (K.ka + i == 0) = false by simp; omega]; exact hgo)
  have hlt' : K.ka + i < gs.size := (Array.getElem?_eq_some_iff.1 hg).1
  have htag' : tag' = .goB ↔ tag = .goB := by
    rcases ht' with rfl | ⟨rfl, rfl⟩
    · exact Iff.rfl
    · simp
  have hret : tag' ≠ .ret := by
    rcases ht' with rfl | ⟨rfl, rfl⟩
    · exact hne
    · simp
  refine ⟨_, _, (rankC D' tag', fuelC K D' f' q), hrun, ?_, _, w', sl, D', tag', f', d0, q, woken K.P g g' w' a, st', sm', rfl, by rw [get_map_set _ _ _ _ (by omega), ha]; rfl, hms',
    hcom.next (by simp) h13 (fun i' hi' => ?_) (fun j x hj hjk hx => ?_) (fun j hj => Deaf_other t (by omega) _ g_of_ofEvents) (hcom.t3.app G.apart (.inr (hcom.rr hi hg)) hok) (norel_of hnr) (by rw [Deaf_other t (by omega) _ g_of_ofEvents, hcom.deaf0])
      (fun i' hi' => ?_) (fun i' hi' hst => ?_) hpay hj hc, hwg, hmode tag' ht' hwk, by rw [h13, htag, htag'], fun e => hWB (htag'.1 e), fun e => absurd e hret, rfl⟩
  · have hph : rk (Vc 2 (md D')) tag' = rk (Vc 2 (md D')) tag := by rcases ht' with rfl | ⟨rfl, rfl⟩ <;> rfl
    simp only [rankC, fuelC, hph]
    rcases hlt with ⟨h1, h2⟩ | ⟨h1, h2, h3⟩
    · refine Prod.Lex.left _ _ ?_
      have : rk (Vc 2 (md D')) tag ≤ rk (Vc 2 (md D)) tag := by cases tag <;> simp only [rk] <;> omega
      omega
    · rw [h1, h2]
      exact Prod.Lex.right _ (by omega)
  · by_cases e : i' = i
    · subst e
      rw [get_map_set_same _ _ _ (by simpa using hlt'), hDi]
      exact hs'
    · rw [get_map_set _ _ _ _ (by omega)]
      exact hoth i' hi' e
  · rw [get_map_set _ _ _ _ (by omega)] at hx
    obtain ⟨y, hy, rfl⟩ := Option.map_eq_some_iff.1 hx
    have hq := hcom.lv j y hj hjk hy
    rw [woken_quitsD hq, Deaf_other t (by omega) _ g_of_ofEvents]
    exact hq
  · by_cases e : i' = i
    · subst e; rw [Deaf_own, hcom.deafW i' hi', hDi]; exact hdeaf
    · rw [Deaf_other t (by omega) _ g_of_ofEvents, hcom.deafW i' hi', (hro i' hi' e).1]
  · by_cases e : i' = i
    · subst e; rw [hDi] at hst; exact hrel hst
    · obtain ⟨r, hr⟩ := hcom.rel i' hi' ((hro i' hi' e).2 hst)
      exact ⟨r, hr.other fun op hop => by rw [g_of_ofEvents op hop]; omega⟩
end
end
end Go.Proofs.YtemgilofjbnoaaaGreatDoor
namespace Go.Proofs.YtemgilofjbnoaaaGreatDoor
open Go Go.Conc Go.ConcN
open Go.ConcR (KK wgBlock WgAt stA smA rd wr mk Payload Aside2 DC0 Bk g_of_ofEvents again_blocked ofEvent_loc_mark ofEvent_cell ofEvent_mk bk_of_mute)
set_option linter.unusedVariables false
set_option linter.unusedSimpArgs false
set_option linter.unusedSectionVars false
variable [Payload]
section
variable {K : Crew} {Anch : Goroutine → World → Prop} {WB : World → Prop} {w w' : World}
  {gs : Array Goroutine} {sl : Option (Nat × Nat)} {t : Trace} {D D' : Nat → WD} {d0 : Nat} {q : Nat → Nat} {tag : MTag} {f0 : Nat} {a : Goroutine} {st sm st' sm' : Int}
omit [Payload] in
theorem md_upd (D : Nat → WD) (i s' m' d' : Nat) (hs' : s' ≤ 7) : ∀ a, a < 2 → (md (upd D i ⟨s', m', d'⟩) a).stage = (upd (md D) i ⟨s', 0, 0⟩ a).stage := by
  intro a _
  by_cases e : a = i
  · subst e; simp only [md, upd_same]; omega
  · simp only [md, upd_ne D _ e, upd_ne (md D) _ e]
omit [Payload] in
theorem md_upd' (D : Nat → WD) (i : Nat) (x : WD) : md (upd D i x) = upd (md D) i ⟨min x.stage 7, 0, 0⟩ := by
  funext a
  by_cases e : a = i
  · subst e; simp only [md, upd_same]
  · simp only [md, upd_ne D _ e, upd_ne (md D) _ e]
omit [Payload] in
theorem sum_upd {D : Nat → WD} {i : Nat} (hi : i < 2) (x : WD) (φ : WD → Nat) : φ (upd D i x 0) + φ (upd D i x 1) + φ (D i) = φ (D 0) + φ (D 1) + φ x := by
  rcases two hi with rfl | rfl
  · rw [upd_same, upd_ne D _ (by omega)]; omega
  · rw [upd_same, upd_ne D _ (by omega)]; omega
omit [Payload] in
theorem lt_upd {i : Nat} (hi : i < 2) {s' m' d' : Nat} (h : s' < (D i).stage ∨ (s' = (D i).stage ∧ m' + 1 = (D i).fuel)) :
    (Vc 2 (md (upd D i ⟨s', m', d'⟩)) ≤ Vc 2 (md D) ∧ (upd D i ⟨s', m', d'⟩ 0).stage + (upd D i ⟨s', m', d'⟩ 1).stage < (D 0).stage + (D 1).stage) ∨
    (Vc 2 (md (upd D i ⟨s', m', d'⟩)) = Vc 2 (md D) ∧ (upd D i ⟨s', m', d'⟩ 0).stage + (upd D i ⟨s', m', d'⟩ 1).stage = (D 0).stage + (D 1).stage ∧ (upd D i ⟨s', m', d'⟩ 0).fuel + (upd D i ⟨s', m', d'⟩ 1).fuel + 1 ≤ (D 0).fuel + (D 1).fuel) := by
  have e1 := sum_upd (D := D) hi ⟨s', m', d'⟩ WD.stage
  have e2 := sum_upd (D := D) hi ⟨s', m', d'⟩ WD.fuel
  have e3 := Vc_upd (md D) (⟨min s' 7, 0, 0⟩ : WD) hi
  rw [md_upd']
  dsimp only at e1 e2 ⊢
  have c1 : cnt (⟨min s' 7, 0, 0⟩ : WD) = if 5 ≤ min s' 7 then 1 else 0 := rfl
  have c2 : cnt (md D i) = if 5 ≤ min (D i).stage 7 then 1 else 0 := rfl
  rcases h with h | ⟨h1, h2⟩
  · left
    refine ⟨?_, by omega⟩
    split at c1 <;> split at c2 <;> omega
  · right
    subst h1
    exact ⟨by omega, by omega, by omega⟩
theorem low_oth (G : Good3 K Anch WB) (hcom : ComC K gs w t D d0 q) {i : Nat} (hi : i < 2) (h7 : (D i).stage ≤ 7) (x : WD) (g g' : Goroutine) (hRB : i = 0 → RB K w w') (hRW : ∀ i', i' < 2 → i' ≠ i → RW K.ty K.Wg K.X 2 0 i' w w') (hF : K.F w → K.F w') :
    ∀ i', i' < 2 → i' ≠ i → Sit K i' (upd D i x i').stage (upd D i x i').fuel (upd D i x i').deaf (gs[K.ka + i']?.map (woken K.P g g' w')) w' := by
  intro i' hi' hne
  rw [upd_ne D _ hne]
  have hs := hcom.wk i' hi'
  have hj := hcom.joint
  simp only [Joint] at hj
  have h9 : (D i').stage ≠ 11 ∧ (D i').stage ≠ 9 ∧ (i' = 0 → (D i').stage ≤ 7) := by
    rcases two hi with rfl | rfl <;> rcases two hi' with rfl | rfl <;> omega
  have hs' := hs.rely (w' := w') (fun e h => by have := h9.2.2 e; omega) (fun e _ => hRB (by omega)) (fun _ => hRW i' hi' hne) (fun _ _ => hF)
  cases hg : gs[K.ka + i']? with
  | none => rw [hg] at hs'; exact hs'
  | some o =>
    rw [hg] at hs'
    rw [Option.map_some, hs'.woken_id (fun h => by omega)]
    exact hs'
omit [Payload] in
theorem ctag_re {tag tag' : MTag} (h : tag' = tag ∨ (tag = .blk ∧ tag' = .w3)) : ctag tag' = ctag tag ∨ (ctag tag = .blk ∧ ctag tag' = .w3) := by
  rcases h with rfl | ⟨rfl, rfl⟩
  · exact .inl rfl
  · exact .inr ⟨rfl, rfl⟩
omit [Payload] in
theorem pend_ctag (tag : MTag) : pend (ctag tag) = 0 := by cases tag <;> rfl
omit [Payload] in
theorem rel_book {f : Fam} {Wg n0 : Nat} (hsh : ∀ l, f.Sh l ↔ ShN Wg l) {ad : Addr} {k r d : Nat} (h : Rel3 f ad n0 t k r) (hdk : Deaf t k = d) (fn : FuncId) (pos : String) {es : Array Event} (hes : ∀ e ∈ es, Bk Wg e)
    (hd : ∀ j e, es[j]? = some e → (MemAct.ofEvent e).touch? = none ∨ 0 < deafBehind d (es.extract 0 j)) : Rel3 f ad n0 (t ++ MemOp.ofEvents k fn pos es) k r := by
  refine h.app (h.by_.book hdk fn pos hes hd) fun op hop _ x hx => ?_
  rw [ofEvents_eq] at hop
  obtain ⟨e, he, rfl⟩ := Array.mem_map.1 hop
  rcases hes e he with h1 | h1 | ⟨a, wr, rfl, ha⟩
  · simp only [ofEvent_loc_mark h1] at hx; cases hx
  · simp only [ofEvent_loc_mark h1] at hx; cases hx
  · simp only [ofEvent_cell, MemAct.touch?, Option.some.injEq] at hx
    subst hx
    exact ⟨(hsh _).2 ⟨a, rfl, ha⟩, rfl⟩
set_option maxHeartbeats 1600000 in
theorem stepLow (G : Good3 K Anch WB) (ha : gs[0]? = some a) (hms : MSit K Anch WB tag f0 d0 a w) (hne : tag ≠ .ret) (hcom : ComC K gs w t D d0 q) (htag : (D 1).stage = 13 ↔ tag = .goB) (hWB : tag = .goB → WB w)
    (hwg : WgAt K.ty K.Wg w st sm) (hmode : ConcN.Mode 2 (md D) (ctag tag) st sm) {i : Nat} (hi : i < 2) {g : Goroutine} (hg : gs[K.ka + i]? = some g) (hrun : g.status = .running) {s m dd : Nat} (hDi : D i = ⟨s, m, dd⟩) (hs7 : s ≤ 7)
    (hs : WSit K.P K.ty K.Wg K.X 2 noFam noFam 0 (i + 1) (K.val0 i) s m dd g w) (hF : i = 1 → K.F w) :
    ∃ m₁ ops μ', runT K.P (crowd gs w sl) (K.ka + i) = (.next m₁, ops) ∧ Lt2 μ' (rankC D tag, fuelC K D f0 q) ∧ InvC K Anch WB μ' m₁ (t ++ ops) := by
  have hst : (D i).stage = s := by rw [hDi]
  have hfu : (D i).fuel = m := by rw [hDi]
  have hde : (D i).deaf = dd := by rw [hDi]
  have hmd : (md D i).stage = s := by simp only [md, hst]; omega
  have hV2 := Vc_le 2 (md D)
  have hpos := hcom.pos
  have hdk : Deaf t (K.ka + i) = dd := by rw [hcom.deafW i hi, hde]
  have hjo := hcom.joint
  have hpay := hcom.pay
  obtain ⟨cl, cs_, cr_, hch, hcl⟩ := hcom.chan
  have h1ne : (D 1).stage ≠ 13 := by
    simp only [Joint] at hjo
    rcases two hi with rfl | rfl <;> omega
  have h13 : ∀ s' m' d', s' ≤ 7 → ((upd D i ⟨s', m', d'⟩ 1).stage = 13 ↔ (D 1).stage = 13) := fun s' m' d' h => by
    by_cases e : 1 = i
    · subst e; rw [upd_same]; simp only []; omega
    · rw [upd_ne D _ e]
  have hj' : ∀ s' m' d', s' ≤ 7 → Joint (upd D i ⟨s', m', d'⟩ 0).stage (upd D i ⟨s', m', d'⟩ 1).stage := fun s' m' d' h => by
    simp only [Joint] at hjo ⊢
    rcases two hi with rfl | rfl
    · rw [upd_same, upd_ne D _ (by omega)]; simp only []; omega
    · rw [upd_same, upd_ne D _ (by omega)]; simp only []; omega
  have hc' : ∀ s' m' d' (w' : World), s' ≤ 7 → w'.heap[K.Ch]? = w.heap[K.Ch]? → ∃ cl s r, w'.heap[K.Ch]? = some (.chan 0 #[] cl s r false) ∧ (cl = true ↔ (upd D i ⟨s', m', d'⟩ 0).stage ≤ 7) := fun s' m' d' w' h e => by
    refine ⟨cl, cs_, cr_, e.trans hch, ?_⟩
    rw [hcl]
    rcases two hi with rfl | rfl
    · rw [upd_same]; simp only []; omega
    · rw [upd_ne D _ (by omega)]
  have hro : ∀ x : WD, ∀ i', i' < 2 → i' ≠ i → (upd D i x i').deaf = (D i').deaf ∧ ((upd D i x i').stage ≤ 6 → (D i').stage ≤ 6) := fun x i' _ h => by rw [upd_ne D _ h]; exact ⟨rfl, id⟩
  have conv : ∀ {s' m' d' : Nat} {c : CTag} {x y : Int}, s' ≤ 7 → ConcN.Mode 2 (upd (md D) i ⟨s', 0, 0⟩) c x y → ConcN.Mode 2 (md (upd D i ⟨s', m', d'⟩)) c x y := fun h hm => hm.congr (md_upd D i _ _ _ h)
  have bookG : ∀ {g' : Goroutine} {w' : World} {es : Array Event} {s' m' dd' : Nat} {st' sm' : Int}, stepG K.P false g w = .go g' w' es → Aside K.Wg w w' → WgAt K.ty K.Wg w' st' sm' → (∀ e ∈ es, Bk K.Wg e) →
      (∀ jx e, es[jx]? = some e → (MemAct.ofEvent e).touch? = none ∨ 0 < deafBehind dd (es.extract 0 jx)) → WSit K.P K.ty K.Wg K.X 2 noFam noFam 0 (i + 1) (K.val0 i) s' m' dd' g' w' → deafBehind dd es = dd' → s ≤ 6 → s' ≤ 7 →
      (∀ tag', (tag' = tag ∨ (tag = .blk ∧ tag' = .w3)) → (mayWake K.P g = true → g'.status = .running → tag' ≠ .blk) → ConcN.Mode 2 (upd (md D) i ⟨s', 0, 0⟩) (ctag tag') st' sm') → (s' < s ∨ (s' = s ∧ m' + 1 = m)) →
      ∃ m₁ ops μ', runT K.P (crowd gs w sl) (K.ka + i) = (.next m₁, ops) ∧ Lt2 μ' (rankC D tag, fuelC K D f0 q) ∧ InvC K Anch WB μ' m₁ (t ++ ops) := by
    intro g' w' es s' m' dd' st' sm' hgo hAs hwg' hbk hd hs' hdd h6 h7' hmode' hlt
    have hl : WgLive K.ty K.Wg w' := ⟨_, _, hwg'⟩
    exact wstep (D' := upd D i ⟨s', m', dd'⟩) G ha hms hne hcom htag (fun e => G.wb _ _ (RB.of_wg G hAs hl) (hWB e)) hi hg hgo (upd_same ..) (.low hi h7' hs' fun e => G.keeps _ _ (RB.of_wg G hAs hl).b (hF e))
      (low_oth G hcom hi (by omega) _ g g' (fun _ => RB.of_wg G hAs hl) (fun i' _ _ => RW.of_wg' G hAs hl i') (G.keeps _ _ (RB.of_wg G hAs hl).b)) (hro _) (h13 _ _ _ h7') (okT_of_Bk G hbk) (norel_of_Bk hbk) (by rw [hde]; exact hdd)
      (fun _ => let ⟨r, hr⟩ := hcom.rel i hi (by omega); ⟨r, rel_book G.sh hr hdk _ _ hbk hd⟩) (PayAt.of_block (hAs.block _ G.xw) hpay) hwg' (hj' _ _ _ h7') (hc' _ _ _ _ h7' (hAs.block _ G.cw)) (fun tag' h1 h2 => conv h7' (hmode' tag' h1 h2))
      (lt_upd hi (by rw [hst, hfu]; exact hlt))
  have book : ∀ {g' : Goroutine} {w' : World} {es : Array Event} {s' m' dd' : Nat} {st' sm' : Int}, stepG K.P false g w = .go g' w' es → Aside K.Wg w w' → WgAt K.ty K.Wg w' st' sm' → (∀ e ∈ es, Bk K.Wg e) →
      (∀ jx e, es[jx]? = some e → (MemAct.ofEvent e).touch? = none ∨ 0 < deafBehind dd (es.extract 0 jx)) → WSit K.P K.ty K.Wg K.X 2 noFam noFam 0 (i + 1) (K.val0 i) s' m' dd' g' w' → deafBehind dd es = dd' → s ≤ 6 → s' ≤ 7 →
      ConcN.Mode 2 (upd (md D) i ⟨s', 0, 0⟩) (ctag tag) st' sm' → (s' < s ∨ (s' = s ∧ m' + 1 = m)) →
      ∃ m₁ ops μ', runT K.P (crowd gs w sl) (K.ka + i) = (.next m₁, ops) ∧ Lt2 μ' (rankC D tag, fuelC K D f0 q) ∧ InvC K Anch WB μ' m₁ (t ++ ops) :=
    fun hgo hAs hwg' hbk hd hs' hdd h6 h7' hmode' hlt => bookG hgo hAs hwg' hbk hd hs' hdd h6 h7' (fun _ ht _ => hmode'.retag (ctag_re ht)) hlt
  have same : ConcN.Mode 2 (upd (md D) i ⟨s, 0, 0⟩) (ctag tag) st sm := by have := hmode.same (i := i) 0 0; rwa [hmd] at this
  have idle : ∀ {g' : Goroutine} {m' : Nat}, stepG K.P false g w = .go g' w #[] → WSit K.P K.ty K.Wg K.X 2 noFam noFam 0 (i + 1) (K.val0 i) s m' dd g' w → m' + 1 = m → s ≤ 6 →
      ∃ m₁ ops μ', runT K.P (crowd gs w sl) (K.ka + i) = (.next m₁, ops) ∧ Lt2 μ' (rankC D tag, fuelC K D f0 q) ∧ InvC K Anch WB μ' m₁ (t ++ ops) := by
    intro g' m' hgo hs' hm h6
    exact book hgo (.refl K.Wg w) hwg (by simp) (by simp) hs' rfl h6 hs7 same (.inr ⟨rfl, hm⟩)
  cases hs with
  | r0 h =>
    rcases Goes.cases h with hstop | ⟨m', rfl, hstep⟩
    · obtain ⟨_, hhas, g', hgo, m₂, hk⟩ := hstop w (RW.refl w)
      refine wstep (D' := upd D i ⟨6, m₂, 0⟩) G ha hms hne hcom htag hWB hi hg hgo (upd_same ..) (.low hi (by omega) (.k1 hk) hF)
        (low_oth G hcom hi (by omega) _ g g' (fun _ => RB.refl w) (fun _ _ _ => RW.refl w) id) (hro _) (h13 _ _ _ (by omega)) (okT_none (by intro e he; simp at he; subst he; rfl)) (by intro e he; simp at he; subst he; simp [mk]) (by rw [hde]; rfl)
        (fun _ => ⟨t.size, ?_⟩) hpay hwg (hj' _ _ _ (by omega)) (hc' _ _ _ _ (by omega) rfl) (fun _ ht _ => conv (by omega) ((hmode.counted hi (by omega) (.inl rfl) 0 0).retag (ctag_re ht))) (lt_upd hi (.inl (by omega)))
      have hn0 : K.n0 ≤ t.size := ?_
      refine ⟨hn0, RelBy.new hdk _ _, fun j hj hgj x hx => ?_⟩
      · obtain ⟨op, hop, hox⟩ := touch_of hx
        have := lt_size_of_getElem? hop
        simp [ofEvents_eq] at this
        omega
      · exact hcom.long
    · obtain ⟨g', w', es, hgo, ⟨hac, hev⟩, hg'⟩ := hstep w (RW.refl w)
      simp only [Nat.add_sub_cancel] at hac
      have hRB := RB0.of_cell G hac
      exact wstep (D' := upd D i ⟨7, m', 0⟩) G ha hms hne hcom htag (fun e => by exfalso; have h13' := htag.2 e; have hjo := hcom.joint; simp only [Joint] at hjo; rcases two hi with rfl | rfl <;> omega) hi hg hgo (upd_same ..) (.low hi (by omega) (.r0 hg') fun e => G.keeps _ _ hRB (hF e))
        (low_oth G hcom hi (by omega) _ g g' (fun e => by subst e; exact RB.of_cell G hac) (fun i' _ e => RW.of_cell' G hac e) (G.keeps _ _ hRB)) (hro _) (h13 _ _ _ (by omega)) (okT_of_EvW G hev) (fun e he => (hev e he).2.2.2)
        (by rw [hde]; exact deafBehind_idle (fun e he => ⟨(hev e he).2.1, (hev e he).2.2.1⟩) 0) (fun h => by omega) (hac.pay hpay) (hwg.of_block (hac.block _ (Ne.symm G.xw))) (hj' _ _ _ (by omega)) (hc' _ _ _ _ (by omega) (hac.block _ (Ne.symm G.xc)))
        (fun _ ht _ => conv (by omega) (same.retag (ctag_re ht))) (lt_upd hi (.inr ⟨by omega, by omega⟩))
  | k1 h =>
    rcases Goes.cases h with hstop | ⟨m', rfl, hstep⟩
    · obtain ⟨_, g', hgo, m₂, hk⟩ := hstop w (RW.refl w)
      exact book hgo (.refl K.Wg w) hwg (by intro e he; simp at he; subst he; exact .inl rfl) (by intro jx e he; exact .inl (by have := Array.mem_of_getElem? he; simp at this; subst this; rfl)) (.d1 hk) rfl (by omega) (by omega)
        (hmode.counted hi (by omega) (.inr rfl) 0 0) (.inl (by omega))
    · obtain ⟨g', w', es, hgo, ⟨rfl, rfl⟩, hg'⟩ := hstep w (RW.refl w)
      exact idle hgo (.k1 hg') rfl (by omega)
  | d1 h =>
    rcases Goes.cases h with hstop | ⟨m', rfl, hstep⟩
    · obtain ⟨_, hall⟩ := hstop w (RW.refl w)
      have hc1 : cnt (md D i) = 1 := by simp [cnt, hmd]
      have hV1 : 1 ≤ Vc 2 (md D) := by have := le_sumTo (f := fun x => cnt (md D x)) hi; simp only [Vc]; omega
      have bk2 : ∀ e ∈ #[rd (stA K.Wg), wr (stA K.Wg)], Bk K.Wg e := by intro e he; simp at he; rcases he with rfl | rfl <;> exact bk_cell _ _ rfl
      have df2 : ∀ jx e, (#[rd (stA K.Wg), wr (stA K.Wg)] : Array Event)[jx]? = some e → (MemAct.ofEvent e).touch? = none ∨ 0 < deafBehind 1 ((#[rd (stA K.Wg), wr (stA K.Wg)] : Array Event).extract 0 jx) := by
        intro jx e he
        match jx, he with
        | 0, _ => exact .inr (by simp [deafBehind])
        | 1, _ => exact .inr (by simp [deafBehind, rd])
        | jx + 2, he => simp at he
      have hq0 : cnt (⟨1, 0, 0⟩ : WD) = 0 := rfl
      have opq : OpenSt 2 (md D) → OpenSt 2 (upd (md D) i ⟨1, 0, 0⟩) := fun h a ha => by
        by_cases e : a = i
        · subst e; rw [upd_same]; simp
        · rw [upd_ne (md D) _ e]; exact h a ha
      have hvu := Vc_upd (md D) (⟨1, 0, 0⟩ : WD) hi
      have hp := pend_ctag tag
      generalize hcc : ctag tag = c at hmode hp
      cases hmode with
      | opn h1 h2 h3 =>
        obtain ⟨v, hv⟩ : ∃ v, Vc 2 (md D) + pend c = v + 1 := ⟨Vc 2 (md D) + pend c - 1, by omega⟩
        rw [hv] at hwg
        have hw1 : WgAt K.ty K.Wg w (((v : Nat) + 1) * KK + ((0 : Nat) : Int)) 0 := by simpa using hwg
        obtain ⟨g', hgo, _, hq⟩ := hall v 0 (by omega) (by omega) hw1
        obtain ⟨q, hq⟩ := hq (by omega)
        have hv' : Vc 2 (upd (md D) i ⟨1, 0, 0⟩) + pend c = v := by omega
        refine book hgo (aside_setCell w (stA K.Wg) _) (hwg.setSt _) bk2 df2 (.quit hq) rfl (by omega) (by omega) ?_ (.inl (by omega))
        have e : ((v : Nat) : Int) * KK + ((0 : Nat) : Int) = ((Vc 2 (upd (md D) i ⟨1, 0, 0⟩) + pend c : Nat) : Int) * KK := by rw [hv']; simp
        rw [e, hcc]
        exact .opn h1 (opq h2) (fun vs ev => by have := h3 vs ev; omega)
      | reg h1 h2 h3 =>
        obtain ⟨v, hv⟩ : ∃ v, Vc 2 (md D) = v + 1 := ⟨Vc 2 (md D) - 1, by omega⟩
        rw [hv] at hwg
        have hw1 : WgAt K.ty K.Wg w (((v : Nat) + 1) * KK + ((1 : Nat) : Int)) 0 := by simpa using hwg
        obtain ⟨g', hgo, hl, hq⟩ := hall v 1 (by omega) (by omega) hw1
        by_cases hv0 : v = 0
        · subst hv0
          obtain ⟨m₂, hk⟩ := hl ⟨rfl, rfl⟩
          refine book hgo (aside_setCell w (stA K.Wg) _) (hwg.setSt _) bk2 df2 (.d2 hk) rfl (by omega) (by omega) ?_ (.inl (by omega))
          have hoth : ∀ a, a < 2 → a ≠ i → (md D a).stage = 1 := fun a ha e => by
            have c0 := others_uncounted hi hv hc1 a ha e
            have := h2 a ha
            simp only [cnt] at c0
            split at c0 <;> omega
          have := Mode.last (j := 2) (D := upd (md D) i ⟨4, 0, 0⟩) (tag := c) i h1 hi (by rw [upd_same]; simp) (fun a ha e => by rw [upd_ne (md D) _ e]; exact hoth a ha e)
          rw [upd_same] at this
          rw [hcc]
          simpa using this
        · obtain ⟨q, hq⟩ := hq (by omega)
          have hv' : Vc 2 (upd (md D) i ⟨1, 0, 0⟩) = v := by omega
          refine book hgo (aside_setCell w (stA K.Wg) _) (hwg.setSt _) bk2 df2 (.quit hq) rfl (by omega) (by omega) ?_ (.inl (by omega))
          have e : ((v : Nat) : Int) * KK + ((1 : Nat) : Int) = ((Vc 2 (upd (md D) i ⟨1, 0, 0⟩) : Nat) : Int) * KK + 1 := by rw [hv']; simp
          rw [e, hcc]
          exact .reg h1 (opq h2) (by omega)
      | last L _ h2 h3 h4 =>
        by_cases e : i = L
        · subst e; omega
        · have := h4 i hi e; omega
      | sema h2 => have := h2 i hi; omega
      | fin _ h2 => have := h2 i hi; omega
    · obtain ⟨g', w', es, hgo, ⟨rfl, rfl⟩, hg'⟩ := hstep w (RW.refl w)
      exact idle hgo (.d1 hg') rfl (by omega)
  | d2 h =>
    rcases Goes.cases h with hstop | ⟨m', rfl, hstep⟩
    · obtain ⟨_, hx⟩ := hstop w (RW.refl w)
      obtain ⟨hW3, hoth, rfl, rfl⟩ := hmode.isLast hi (by omega)
      simp only [hmd] at hwg
      obtain ⟨g', hgo, m₂, hk⟩ := hx (by simpa using hwg)
      refine book hgo (.refl K.Wg w) hwg (by intro e he; simp at he; subst he; exact bk_cell _ _ rfl) (by intro jx e he; match jx, he with | 0, _ => exact .inr (by simp [deafBehind]) | jx + 1, he => simp at he) (.d3 hk) rfl (by omega) (by omega) ?_ (.inl (by omega))
      have := Mode.last (j := 2) (D := upd (md D) i ⟨3, 0, 0⟩) (tag := ctag tag) i hW3 hi (by rw [upd_same]; simp) (fun a ha e => by rw [upd_ne (md D) _ e]; exact hoth a ha e)
      rw [upd_same] at this
      simpa using this
    · obtain ⟨g', w', es, hgo, ⟨rfl, rfl⟩, hg'⟩ := hstep w (RW.refl w)
      exact idle hgo (.d2 hg') rfl (by omega)
  | d3 h =>
    rcases Goes.cases h with hstop | ⟨m', rfl, hstep⟩
    · obtain ⟨_, hx⟩ := hstop w (RW.refl w)
      obtain ⟨hW3, hoth, rfl, rfl⟩ := hmode.isLast hi (by omega)
      simp only [hmd] at hwg
      obtain ⟨g', hgo, m₂, hk⟩ := hx (by simpa using hwg)
      refine book hgo (aside_setCell w (stA K.Wg) _) (hwg.setSt 0) (by intro e he; simp at he; subst he; exact bk_cell _ _ rfl) (by intro jx e he; match jx, he with | 0, _ => exact .inr (by simp [deafBehind]) | jx + 1, he => simp at he) (.d4 hk) rfl (by omega) (by omega) ?_ (.inl (by omega))
      have := Mode.last (j := 2) (D := upd (md D) i ⟨2, 0, 0⟩) (tag := ctag tag) i hW3 hi (by rw [upd_same]; simp) (fun a ha e => by rw [upd_ne (md D) _ e]; exact hoth a ha e)
      rw [upd_same] at this
      simpa using this
    · obtain ⟨g', w', es, hgo, ⟨rfl, rfl⟩, hg'⟩ := hstep w (RW.refl w)
      exact idle hgo (.d3 hg') rfl (by omega)
  | d4 h =>
    rcases Goes.cases h with hstop | ⟨m', rfl, hstep⟩
    · obtain ⟨_, hmw, hx⟩ := hstop w (RW.refl w)
      obtain ⟨hW3, hoth, rfl, rfl⟩ := hmode.isLast hi (by omega)
      simp only [hmd] at hwg
      obtain ⟨g', hgo, q, hq⟩ := hx (by simpa using hwg)
      have hrun' : g'.status = .running := by
        cases q with
        | zero => exact absurd hq.2 (by decide)
        | succ q => exact hq.elim (fun x => absurd x.2 (by decide)) (fun x => x.1)
      refine bookG hgo (aside_setCell w (smA K.Wg) _) (hwg.setSm 1) (es := semEvents (smA K.Wg)) ?_ ?_ (.quit hq) (by simp [deafBehind, semEvents]) (by omega) (by omega) ?_ (.inl (by omega))
      · intro e he
        simp [semEvents] at he
        rcases he with rfl | rfl | rfl | rfl
        · exact .inl rfl
        · exact bk_cell _ _ rfl
        · exact bk_cell _ _ rfl
        · exact .inr (.inl rfl)
      · intro jx e he
        match jx, he with
        | 0, he => simp [semEvents] at he; subst he; exact .inl rfl
        | 1, _ => exact .inr (by simp [deafBehind, semEvents])
        | 2, _ => exact .inr (by simp [deafBehind, semEvents])
        | 3, he => simp [semEvents] at he; subst he; exact .inl rfl
        | jx + 4, he => simp [semEvents] at he
      · intro tag' ht hw
        have hnb := hw hmw hrun'
        have e3 : ctag tag' = .w3 := by
          rcases ht with rfl | ⟨_, rfl⟩
          · cases tag' <;> first | rfl | exact hW3.elim | exact absurd rfl hnb
          · rfl
        rw [e3]
        simp only [if_true]
        exact .sema fun a ha => by
          by_cases e : a = i
          · subst e; rw [upd_same]
          · rw [upd_ne (md D) _ e]; exact hoth a ha e
    · obtain ⟨g', w', es, hgo, ⟨rfl, rfl⟩, hg'⟩ := hstep w (RW.refl w)
      exact idle hgo (.d4 hg') rfl (by omega)
  | quit h =>
    cases m with
    | zero => rw [h.1] at hrun; cases hrun
    | succ q =>
      rcases h with ⟨hf, _⟩ | ⟨_, g', es, hmute, hstep, hq⟩
      · rw [hf] at hrun; cases hrun
      · have hbk : ∀ e ∈ es, Bk K.Wg e := fun e he => bk_of_mute (hmute e he)
        have hno : ∀ jx e, es[jx]? = some e → (MemAct.ofEvent e).touch? = none ∨ 0 < deafBehind dd (es.extract 0 jx) := fun jx e he => .inl (touch_mute (hmute e (Array.mem_of_getElem? he)))
        exact book (hstep w) (.refl K.Wg w) hwg hbk hno (.quit hq) rfl (by omega) (by omega) same (.inr ⟨rfl, rfl⟩)
end
end Go.Proofs.YtemgilofjbnoaaaGreatDoor
namespace Go.Proofs.YtemgilofjbnoaaaGreatDoor
open Go Go.Conc Go.ConcN
open Go.ConcR (KK wgBlock WgAt stA smA rd wr mk Payload Aside2 DC0 Bk g_of_ofEvents again_blocked ofEvent_loc_mark ofEvent_cell ofEvent_mk bk_of_mute)
set_option linter.unusedVariables false
set_option linter.unusedSimpArgs false
set_option linter.unusedSectionVars false
variable [Payload]
section
variable {K : Crew} {Anch : Goroutine → World → Prop} {WB : World → Prop} {w w' : World}
  {gs gs' : Array Goroutine} {sl : Option (Nat × Nat)} {t u : Trace} {D D' : Nat → WD} {d0 : Nat} {q : Nat → Nat} {tag : MTag} {f0 : Nat} {a : Goroutine} {st sm st' sm' : Int}
theorem cstep (G : Good3 K Anch WB) (ha : gs'[0]? = some a) (hms : MSit K Anch WB tag f0 d0 a w) (hne : tag ≠ .ret) (hcom : ComC K gs w t D d0 q) (htag : (D 1).stage = 13 ↔ tag = .goB) (hWB : tag = .goB → WB w') {k : Nat}
    (hrun : runT K.P (crowd gs w sl) k = (.next (crowd gs' w' sl), u)) (hsz : gs'.size = gs.size) (h13 : (D' 1).stage = 13 ↔ (D 1).stage = 13)
    (hwk : ∀ i, i < 2 → Sit K i (D' i).stage (D' i).fuel (D' i).deaf gs'[K.ka + i]? w') (hlv : ∀ j, 0 < j → j < K.ka → gs'[j]? = gs[j]?)
    (hu : ∀ op ∈ u, op.act.touch? = none ∧ op.act ≠ .mark .disable ∧ op.act ≠ .mark .enable ∧ op.act ≠ .mark (.release (stA K.Wg)))
    (hro : ∀ i, i < 2 → (D' i).deaf = (D i).deaf ∧ ((D' i).stage ≤ 6 → (D i).stage ≤ 6)) (hpay : PayAt K.X 2 w') (hwg : WgAt K.ty K.Wg w' st sm) (hmode : ConcN.Mode 2 (md D') (ctag tag) st sm)
    (hj : Joint (D' 0).stage (D' 1).stage) (hc : ∃ cl s r, w'.heap[K.Ch]? = some (.chan 0 #[] cl s r false) ∧ (cl = true ↔ (D' 0).stage ≤ 7))
    (hV : Vc 2 (md D') ≤ Vc 2 (md D)) (hlt : (D' 0).stage + (D' 1).stage < (D 0).stage + (D 1).stage) :
    ∃ m₁ ops μ', runT K.P (crowd gs w sl) k = (.next m₁, ops) ∧ Lt2 μ' (rankC D tag, fuelC K D f0 q) ∧ InvC K Anch WB μ' m₁ (t ++ ops) := by
  have hdf : ∀ g, Deaf (t ++ u) g = Deaf t g := fun g => Deaf_still t g u fun op hop => ⟨(hu op hop).2.1, (hu op hop).2.2.1⟩
  refine ⟨_, _, (rankC D' tag, fuelC K D' f0 q), hrun, ?_, gs', w', sl, D', tag, f0, d0, q, a, st, sm, rfl, ha, hms.rely (fun _ => ⟨_, _, hwg⟩),
    hcom.next hsz h13 hwk (fun i g h1 h2 h3 => ?_) (fun j _ => hdf j) (hcom.t3.mute fun op hop => (hu op hop).1) (fun op hop => (hu op hop).2.2.2) (by rw [hdf, hcom.deaf0]) (fun i hi => by rw [hdf, hcom.deafW i hi, (hro i hi).1])
      (fun i hi hst => ?_) hpay hj hc, hwg, hmode, by rw [h13, htag], hWB, fun e => absurd e hne, rfl⟩
  · simp only [rankC]
    refine Prod.Lex.left _ _ ?_
    have : rk (Vc 2 (md D')) tag ≤ rk (Vc 2 (md D)) tag := by cases tag <;> simp only [rk] <;> omega
    omega
  · rw [hlv i h1 h2] at h3
    rw [hdf]
    exact hcom.lv i g h1 h2 h3
  · obtain ⟨r, hr⟩ := hcom.rel i hi ((hro i hi).2 hst)
    exact ⟨r, hr.mute fun op hop => (hu op hop).1⟩
theorem silent_all (G : Good3 K Anch WB) (ha : gs[0]? = some a) (hms : MSit K Anch WB tag f0 d0 a w) (hne : tag ≠ .ret) (hcom : ComC K gs w t D d0 q) {i : Nat} (hi : i < 2) (b : Bool)
    {j : Nat} {x : Goroutine} (hj : (gs.setIfInBounds (K.ka + i) ph)[j]? = some x) (ho : ∀ i', i' < 2 → i' ≠ i → j = K.ka + i' → ∀ y, gs[K.ka + i']? = some y → offersAt y K.Ch b = []) : offersAt x K.Ch b = [] := by
  have hpos := hcom.pos
  rcases getElem?_stand gs _ j x hj with ⟨_, rfl⟩ | ⟨hji, hx⟩
  · exact offersAt_ph _ _
  · rcases Nat.eq_zero_or_pos j with rfl | hj0
    · rw [ha] at hx; cases hx
      exact hms.silent G.anr hne _ _
    · by_cases hjk : j < K.ka
      · have := (hcom.lv j x hj0 hjk hx).status
        refine offersAt_of_not_blocked ?_ _ _
        rcases this with e | e <;> rw [e] <;> simp
      · have hlt := (Array.getElem?_eq_some_iff.1 hx).1
        rw [hcom.size] at hlt
        have : j < K.ka + 2 := by split at hlt <;> omega
        exact ho (j - K.ka) (by omega) (by omega) (by omega) x (by rw [show K.ka + (j - K.ka) = j by omega]; exact hx)
theorem mode_high (h : ∀ i, i < 2 → min (D' i).stage 7 = min (D i).stage 7) {c : CTag} (hm : ConcN.Mode 2 (md D) c st sm) : ConcN.Mode 2 (md D') c st sm := hm.congr fun i hi => by simp only [md]; exact h i hi
theorem vc_high (h : ∀ i, i < 2 → min (D' i).stage 7 = min (D i).stage 7) : Vc 2 (md D') = Vc 2 (md D) := sumTo_congr fun i hi => by
  have e : (md D' i).stage = (md D i).stage := by simp only [md]; exact h i hi
  simp only [cnt, e]
theorem u_none : ∀ op ∈ (MemOp.ofEvents 0 0 "" #[] : Array MemOp), False := by simp [MemOp.ofEvents]
theorem ofEvents_nil (k : Nat) (fn : FuncId) (pos : String) : MemOp.ofEvents k fn pos #[] = #[] := rfl
theorem set2_get (gs : Array Goroutine) {i j k : Nat} (x y : Goroutine) (h1 : k ≠ i) (h2 : k ≠ j) : ((gs.setIfInBounds j y).setIfInBounds i x)[k]? = gs[k]? := by
  rw [Array.getElem?_setIfInBounds_ne (fun e => h1 e.symm), Array.getElem?_setIfInBounds_ne (fun e => h2 e.symm)]
theorem set_get (gs : Array Goroutine) {i k : Nat} (x : Goroutine) (h1 : k ≠ i) : (gs.setIfInBounds i x)[k]? = gs[k]? := Array.getElem?_setIfInBounds_ne (fun e => h1 e.symm)
theorem set_same (gs : Array Goroutine) {i : Nat} (x : Goroutine) (h : i < gs.size) : (gs.setIfInBounds i x)[i]? = some x := Array.getElem?_setIfInBounds_self_of_lt h
variable (G : Good3 K Anch WB) (ha : gs[0]? = some a) (hms : MSit K Anch WB tag f0 d0 a w) (hne : tag ≠ .ret) (hcom : ComC K gs w t D d0 q) (htag : (D 1).stage = 13 ↔ tag = .goB) (hWB : tag = .goB → WB w)
  (hwg : WgAt K.ty K.Wg w st sm) (hmode : ConcN.Mode 2 (md D) (ctag tag) st sm)
include G ha hms hne hcom htag hWB hwg hmode
theorem idleH {i : Nat} (hi : i < 2) {g g' : Goroutine} {es : Array Event} {m' : Nat} (hg : gs[K.ka + i]? = some g) (h8 : 8 ≤ (D i).stage) (hd : (D i).deaf = 0) (hgo : stepG K.P false g w = .go g' w' es) (hs' : Sit K i (D i).stage m' 0 (some g') w') (hm : m' + 1 = (D i).fuel)
    (hRA : i = 1 → RA K w w') (hRW : RW K.ty K.Wg K.X 2 0 0 w w') (hB : i = 0 → w' = w) (hwb : i = 1 → tag ≠ .goB) (hpay : PayAt K.X 2 w') (hwg' : w'.heap[K.Wg]? = w.heap[K.Wg]?) (hch : w'.heap[K.Ch]? = w.heap[K.Ch]?) (hev : ∀ e ∈ es, EvK K i e) :
    ∃ m₁ ops μ', runT K.P (crowd gs w sl) (K.ka + i) = (.next m₁, ops) ∧ Lt2 μ' (rankC D tag, fuelC K D f0 q) ∧ InvC K Anch WB μ' m₁ (t ++ ops) := by
  obtain ⟨cl, cs_, cr_, hc1, hc2⟩ := hcom.chan
  have hjo := hcom.joint
  simp only [Joint] at hjo
  have e0 : ∀ i', (upd D i ⟨(D i).stage, m', 0⟩ i').stage = (D i').stage := fun i' => by
    by_cases e : i' = i
    · subst e; rw [upd_same]
    · rw [upd_ne D _ e]
  have hst : ∀ i', i' < 2 → min (upd D i ⟨(D i).stage, m', 0⟩ i').stage 7 = min (D i').stage 7 := fun i' _ => by rw [e0]
  have hf := sum_upd (D := D) hi ⟨(D i).stage, m', 0⟩ WD.fuel
  dsimp only at hf
  refine wstep (D' := upd D i ⟨(D i).stage, m', 0⟩) G ha hms hne hcom htag (fun e => ?_) hi hg hgo (upd_same ..) hs' (fun i' hi' hii => ?_) (fun i' _ h => by rw [upd_ne D _ h]; exact ⟨rfl, id⟩) (by rw [e0]) (okT_of_EvK hev (hcom.rr hi hg)) (fun e he => (hev e he).2.2.2)
    (by rw [hd]; exact deafBehind_idle (fun e he => ⟨(hev e he).2.1, (hev e he).2.2.1⟩) 0) (fun h => by omega) hpay (st' := st) (sm' := sm) (hwg'.trans hwg) (by rw [e0, e0]; exact hcom.joint) ⟨cl, cs_, cr_, hch.trans hc1, by rw [e0]; exact hc2⟩
    (fun tag' ht _ => mode_high hst (hmode.retag (ctag_re ht))) (.inr ⟨vc_high hst, by rw [e0, e0], by omega⟩)
  · rcases two hi with rfl | rfl
    · rw [hB rfl]; exact hWB e
    · exact absurd e (hwb rfl)
  · rw [upd_ne D _ hii]
    have hs := hcom.wk i' hi'
    have hs2 : Sit K i' (D i').stage (D i').fuel (D i').deaf gs[K.ka + i']? w' := by
      rcases two hi with rfl | rfl
      · rw [hB rfl]; exact hs
      · have : i' = 0 := by omega
        subst this
        exact hs.rely (fun _ _ => hRA rfl) (fun e => by omega) (fun _ => hRW) (fun e => by omega)
    cases hg' : gs[K.ka + i']? with
    | none => rw [hg'] at hs2; exact hs2
    | some o =>
      rw [hg'] at hs2
      rw [Option.map_some, hs2.woken_id (fun h => ⟨cs_, cr_, ?_⟩)]
      · exact hs2
      · have : cl = false := by
          cases hcl : cl with
          | false => rfl
          | true =>
            have := hc2.1 hcl
            rcases two hi with rfl | rfl <;> rcases two hi' with rfl | rfl <;> omega
        rw [hch, hc1, this]
theorem stepSend {g : Goroutine} (hg : gs[K.ka]? = some g) {m d : Nat} (hD : D 0 = ⟨12, m, d⟩) (hd : d = 0) (h : AtSend K g w) :
    ∃ m₁ ops μ', runT K.P (crowd gs w sl) K.ka = (.next m₁, ops) ∧ Lt2 μ' (rankC D tag, fuelC K D f0 q) ∧ InvC K Anch WB μ' m₁ (t ++ ops) := by
  obtain ⟨hrun, hstep, m₂, hk⟩ := h
  subst hd
  have hpos := hcom.pos
  have hk0 : (K.ka == 0) = false := by simp; omega
  have hlt : K.ka < gs.size := (Array.getElem?_eq_some_iff.1 hg).1
  obtain ⟨cl, cs_, cr_, hc1, hc2⟩ := hcom.chan
  rw [hD] at hc2
  have hcl : cl = false := by
    cases hcl : cl with
    | false => rfl
    | true => have := hc2.1 hcl; simp only [] at this; omega
  subst hcl
  have hjo := hcom.joint
  rw [hD] at hjo
  simp only [Joint] at hjo
  have hB := hcom.wk 1 (by omega)
  have hstep' : stepG K.P (K.ka == 0) g w = .comm g #[scase K.Ch K.v K.zs] true .send w #[] := by rw [hk0]; exact hstep
  by_cases h11 : (D 1).stage = 11
  · -- the receiver is parked
    obtain ⟨gb, hgb, hkb⟩ : ∃ gb, gs[K.ka + 1]? = some (parked gb #[rcase K.Ch K.z] (.recv true)) ∧ ∀ w₁, RB K w w₁ → ∃ m, Goes K.P false (RB K) (DB K) (AtRecv2 K) m (Conc.served gb (.tuple #[K.v, .bool true])) w₁ := by
      rw [h11] at hB
      generalize (D 1).fuel = x1 at hB
      generalize (D 1).deaf = x2 at hB
      generalize hog : gs[K.ka + 1]? = og at hB
      cases hB with
      | b11 h => exact ⟨_, rfl, h⟩
      | low _ h _ _ => omega
    have hdf : (D 1).deaf = 0 := by
      rw [h11] at hB
      generalize (D 1).fuel = x1 at hB
      generalize (D 1).deaf = x2 at hB ⊢
      generalize gs[K.ka + 1]? = og at hB
      cases hB with
      | b11 h => rfl
      | low _ h _ _ => omega
    have hp : partners (gs.setIfInBounds K.ka ph) K.Ch false = [(K.ka + 1, 0)] := by
      rw [partners_one (gs := gs.setIfInBounds K.ka Conc.ph) (j := K.ka + 1) (g := parked gb #[rcase K.Ch K.z] (.recv true)) (by rw [set_get _ _ (by omega)]; exact hgb) (fun k x hk hx => silent_all G ha hms hne hcom (i := 0) (by omega) false hx (fun i' hi' hii e => by omega)), offersAt_parked_recv]
      simp
    have hR := crowd_send_meets (P := K.P) (sl := sl) (i := K.ka) (j := K.ka + 1) (buf := #[]) hg hstep' hc1 (by omega) hgb hp
    rw [finishComm_recv, finishComm_send, ofEvents_nil] at hR
    have hA := aside_setChan w K.Ch 0 #[] false (cs_ + 1) (cr_ + 1) false
    have hcl' : ChLive K.Ch (w.setChan K.Ch 0 #[] false (cs_ + 1) (cr_ + 1) false) := ⟨_, _, _, setChan_get hc1⟩
    obtain ⟨m₃, hk3⟩ := hkb _ (RB.of_ch G hA hcl')
    have e1 : ∀ i, (upd (upd D 0 ⟨10, m₂, 0⟩) 1 ⟨10, m₃, 0⟩) i = if i = 1 then ⟨10, m₃, 0⟩ else if i = 0 then ⟨10, m₂, 0⟩ else D i := fun i => rfl
    refine cstep (D' := upd (upd D 0 ⟨10, m₂, 0⟩) 1 ⟨10, m₃, 0⟩) G ?_ hms hne hcom htag (fun e => absurd (htag.2 e) (by omega)) hR (by simp) (by simp [e1, h11]) (fun i hi => ?_) (fun j h1 h2 => set2_get _ _ _ (by omega) (by omega)) ?_ (fun i hi => ?_)
      (PayAt.of_block (hA.block _ G.xc) hcom.pay) (WgAt.of_block hwg (hA.block _ (Ne.symm G.cw))) (mode_high (fun i hi => ?_) hmode) (by simp [e1, Joint]) ⟨_, _, _, setChan_get hc1, by simp [e1]⟩ (Nat.le_of_eq (vc_high (fun i hi => ?_))) (by simp [e1, hD, h11])
    · rw [set2_get _ _ _ (by omega) (by omega)]; exact ha
    · rcases two hi with rfl | rfl
      · simp only [e1, Nat.add_zero]
        rw [set_same _ _ (by simpa using hlt)]
        exact .a10 (Goes.rely tr_RA hk (RA.of_ch G hA))
      · simp only [e1]
        rw [set_get _ _ (by omega), set_same _ _ (Array.getElem?_eq_some_iff.1 hgb).1]
        exact .b10 hk3
    · intro op hop
      simp at hop
      rcases hop with rfl | rfl | rfl | rfl <;> simp [MemAct.touch?]
    · rcases two hi with rfl | rfl <;> simp [e1, hD, hdf]
    · rcases two hi with rfl | rfl <;> simp [e1, hD, h11]
    · rcases two hi with rfl | rfl <;> simp [e1, hD, h11]
  · -- nobody is: it waits
    have hp : partners (gs.setIfInBounds K.ka ph) K.Ch false = [] := by
      refine partners_nil fun j x hx => silent_all G ha hms hne hcom (i := 0) (by omega) false hx (fun i' hi' hii e y hy => ?_)
      have : i' = 1 := by omega
      subst this
      rw [hy] at hB
      exact hB.silent h11 (by omega) _ _
    have hR := crowd_waits (P := K.P) (sl := sl) (i := K.ka) hg hstep' (fun cc hcc => by
      simp at hcc; subst hcc
      exact ways_send_none hc1 (by simp) hp)
    rw [ofEvents_nil] at hR
    have e1 : ∀ i, (upd D 0 ⟨11, 0, 0⟩) i = if i = 0 then ⟨11, 0, 0⟩ else D i := fun i => rfl
    refine cstep (D' := upd D 0 ⟨11, 0, 0⟩) G ?_ hms hne hcom htag hWB hR (by simp) (by simp [e1]) (fun i hi => ?_) (fun j h1 h2 => set_get _ _ (by omega)) (by simp) (fun i hi => ?_) hcom.pay hwg (mode_high (fun i hi => ?_) hmode) (by simp only [e1, Joint]; simp; omega) ⟨_, _, _, hc1, by simp [e1]⟩
      (Nat.le_of_eq (vc_high (fun i hi => ?_))) (by simp [e1, hD])
    · rw [set_get _ _ (by omega)]; exact ha
    · rcases two hi with rfl | rfl
      · simp only [e1, Nat.add_zero]
        rw [set_same _ _ hlt]
        exact .a11 (fun w₁ h₁ => ⟨_, Goes.rely tr_RA hk h₁⟩)
      · simp only [e1]
        rw [set_get _ _ (by omega)]
        exact hB
    · rcases two hi with rfl | rfl <;> simp [e1, hD]
    · rcases two hi with rfl | rfl <;> simp [e1, hD]
    · rcases two hi with rfl | rfl <;> simp [e1, hD]
theorem stepRecv1 {g : Goroutine} (hg : gs[K.ka + 1]? = some g) {m d : Nat} (hD : D 1 = ⟨12, m, d⟩) (hd : d = 0) (h : AtRecv1 K g w) :
    ∃ m₁ ops μ', runT K.P (crowd gs w sl) (K.ka + 1) = (.next m₁, ops) ∧ Lt2 μ' (rankC D tag, fuelC K D f0 q) ∧ InvC K Anch WB μ' m₁ (t ++ ops) := by
  obtain ⟨hrun, hstep, m₂, hk⟩ := h
  subst hd
  have hpos := hcom.pos
  have hk0 : (K.ka + 1 == 0) = false := by simp
  have hlt : K.ka + 1 < gs.size := (Array.getElem?_eq_some_iff.1 hg).1
  have hjo := hcom.joint
  rw [hD] at hjo
  simp only [Joint] at hjo
  obtain ⟨cl, cs_, cr_, hc1, hc2⟩ := hcom.chan
  have hcl : cl = false := by
    cases hcl : cl with
    | false => rfl
    | true => have := hc2.1 hcl; omega
  subst hcl
  have hA0 := hcom.wk 0 (by omega)
  rw [Nat.add_zero] at hA0
  have hstep' : stepG K.P (K.ka + 1 == 0) g w = .comm g #[rcase K.Ch K.z] true (.recv true) w #[] := by rw [hk0]; exact hstep
  have htg : tag ≠ .goB := fun e => by have := htag.2 e; rw [hD] at this; simp at this
  by_cases h11 : (D 0).stage = 11
  · -- the sender is parked
    obtain ⟨gb, hgb, hkb, hdf⟩ : ∃ gb, gs[K.ka]? = some (parked gb #[scase K.Ch K.v K.zs] .send) ∧ (∀ w₁, RA K w w₁ → ∃ m, Goes K.P false (RA K) (DA K) (AtClose K) m (Conc.served gb undef) w₁) ∧ (D 0).deaf = 0 := by
      rw [h11] at hA0
      generalize (D 0).fuel = x1 at hA0
      generalize (D 0).deaf = x2 at hA0 ⊢
      generalize hog : gs[K.ka]? = og at hA0
      cases hA0 with
      | a11 h => exact ⟨_, rfl, h, rfl⟩
      | low _ h _ _ => omega
    have hp : partners (gs.setIfInBounds (K.ka + 1) ph) K.Ch true = [(K.ka, 0)] := by
      rw [partners_one (j := K.ka) (g := parked gb #[scase K.Ch K.v K.zs] .send) (by rw [set_get _ _ (by omega)]; exact hgb) (fun k x hk hx => silent_all G ha hms hne hcom (i := 1) (by omega) true hx (fun i' hi' hii e => by omega)), offersAt_parked_send]
      simp
    have hR := crowd_recv_meets (P := K.P) (sl := sl) (i := K.ka + 1) (j := K.ka) hg hstep' hc1 (by omega) hgb hp
    rw [finishComm_recv, finishComm_send, ofEvents_nil] at hR
    have hA := aside_setChan w K.Ch 0 #[] false (cs_ + 1) (cr_ + 1) false
    have hcl' : ChLive K.Ch (w.setChan K.Ch 0 #[] false (cs_ + 1) (cr_ + 1) false) := ⟨_, _, _, setChan_get hc1⟩
    obtain ⟨m₃, hk3⟩ := hkb _ (RA.of_ch G hA)
    have e1 : ∀ i, (upd (upd D 0 ⟨10, m₃, 0⟩) 1 ⟨10, m₂, 0⟩) i = if i = 1 then ⟨10, m₂, 0⟩ else if i = 0 then ⟨10, m₃, 0⟩ else D i := fun i => rfl
    refine cstep (D' := upd (upd D 0 ⟨10, m₃, 0⟩) 1 ⟨10, m₂, 0⟩) G ?_ hms hne hcom htag (fun e => absurd e htg) hR (by simp) (by simp [e1, hD]) (fun i hi => ?_) (fun j h1 h2 => set2_get _ _ _ (by omega) (by omega)) ?_ (fun i hi => ?_)
      (PayAt.of_block (hA.block _ G.xc) hcom.pay) (WgAt.of_block hwg (hA.block _ (Ne.symm G.cw))) (mode_high (fun i hi => ?_) hmode) (by simp [e1, Joint]) ⟨_, _, _, setChan_get hc1, by simp [e1]⟩ (Nat.le_of_eq (vc_high (fun i hi => ?_))) (by simp [e1, hD, h11])
    · rw [set2_get _ _ _ (by omega) (by omega)]; exact ha
    · rcases two hi with rfl | rfl
      · simp only [e1, Nat.add_zero]
        rw [set_get _ _ (by omega), set_same _ _ (Array.getElem?_eq_some_iff.1 hgb).1]
        exact .a10 hk3
      · simp only [e1]
        rw [set_same _ _ (by simpa using hlt)]
        exact .b10 (Goes.rely tr_RB hk (RB.of_ch G hA hcl'))
    · intro op hop
      simp at hop
      rcases hop with rfl | rfl | rfl | rfl <;> simp [MemAct.touch?]
    · rcases two hi with rfl | rfl <;> simp [e1, hD, hdf]
    · rcases two hi with rfl | rfl <;> simp [e1, hD, h11]
    · rcases two hi with rfl | rfl <;> simp [e1, hD, h11]
  · -- it waits
    have h12 : (D 0).stage = 12 := by omega
    have hp : partners (gs.setIfInBounds (K.ka + 1) ph) K.Ch true = [] := by
      refine partners_nil fun j x hx => silent_all G ha hms hne hcom (i := 1) (by omega) true hx (fun i' hi' hii e y hy => ?_)
      have : i' = 0 := by omega
      subst this
      rw [Nat.add_zero] at hy
      rw [hy] at hA0
      exact hA0.silent h11 (by omega) _ _
    have hR := crowd_waits (P := K.P) (sl := sl) (i := K.ka + 1) hg hstep' (fun cc hcc => by
      simp at hcc; subst hcc
      exact ways_recv_none hc1 hp)
    rw [ofEvents_nil] at hR
    have e1 : ∀ i, (upd D 1 ⟨11, 0, 0⟩) i = if i = 1 then ⟨11, 0, 0⟩ else D i := fun i => rfl
    refine cstep (D' := upd D 1 ⟨11, 0, 0⟩) G ?_ hms hne hcom htag hWB hR (by simp) (by simp [e1, hD]) (fun i hi => ?_) (fun j h1 h2 => set_get _ _ (by omega)) (by simp) (fun i hi => ?_) hcom.pay hwg (mode_high (fun i hi => ?_) hmode) (by simp [e1, Joint, h12]) ⟨_, _, _, hc1, by simp [e1, h12]⟩
      (Nat.le_of_eq (vc_high (fun i hi => ?_))) (by simp [e1, hD])
    · rw [set_get _ _ (by omega)]; exact ha
    · rcases two hi with rfl | rfl
      · simp only [e1, Nat.add_zero]
        rw [set_get _ _ (by omega)]
        exact hA0
      · simp only [e1]
        rw [set_same _ _ hlt]
        exact .b11 (fun w₁ h₁ => ⟨_, Goes.rely tr_RB hk h₁⟩)
    · rcases two hi with rfl | rfl <;> simp [e1, hD]
    · rcases two hi with rfl | rfl <;> simp [e1, hD]
    · rcases two hi with rfl | rfl <;> simp [e1, hD]
theorem stepRecv2 {g o : Goroutine} (hg : gs[K.ka + 1]? = some o) (ho : o = g ∨ ∃ off, o = { g with status := .running, offers := off }) (hsB : (D 1).stage = 10 ∨ (D 1).stage = 8) (hdf : (D 1).deaf = 0) (h : ∀ w₁, RB K w w₁ → AtRecv2 K g w₁) :
    ∃ m₁ ops μ', runT K.P (crowd gs w sl) (K.ka + 1) = (.next m₁, ops) ∧ Lt2 μ' (rankC D tag, fuelC K D f0 q) ∧ InvC K Anch WB μ' m₁ (t ++ ops) := by
  obtain ⟨hrun, hstep, hF, m₂, hk⟩ := h w (RB.refl w)
  have hpos := hcom.pos
  have hk0 : (K.ka + 1 == 0) = false := by simp
  have hlt : K.ka + 1 < gs.size := (Array.getElem?_eq_some_iff.1 hg).1
  have hjo := hcom.joint
  simp only [Joint] at hjo
  obtain ⟨cl, cs_, cr_, hc1, hc2⟩ := hcom.chan
  have hA0 := hcom.wk 0 (by omega)
  rw [Nat.add_zero] at hA0
  have hstep' : stepG K.P (K.ka + 1 == 0) o w = .comm g #[rcase K.Ch K.z] true (.recv true) w #[] := by
    rw [hk0]
    rcases ho with rfl | ⟨off, rfl⟩
    · have := hstep o.offers
      rw [← hrun] at this
      exact this
    · exact hstep off
  have htg : tag ≠ .goB := fun e => by have := htag.2 e; omega
  have hA12 : (D 0).stage ≠ 11 ∧ (D 0).stage ≠ 9 := by omega
  have hp : partners (gs.setIfInBounds (K.ka + 1) ph) K.Ch true = [] := by
    refine partners_nil fun j x hx => silent_all G ha hms hne hcom (i := 1) (by omega) true hx (fun i' hi' hii e y hy => ?_)
    have : i' = 0 := by omega
    subst this
    rw [Nat.add_zero] at hy
    rw [hy] at hA0
    exact hA0.silent hA12.1 hA12.2 _ _
  cases cl with
  | true =>
    have hA7 := hc2.1 rfl
    have hR := crowd_recv_closed (P := K.P) (sl := sl) (i := K.ka + 1) hg hstep' hc1 hp
    rw [finishComm_recv, ofEvents_nil] at hR
    have e1 : ∀ i, (upd D 1 ⟨7, m₂, 0⟩) i = if i = 1 then ⟨7, m₂, 0⟩ else D i := fun i => rfl
    refine cstep (D' := upd D 1 ⟨7, m₂, 0⟩) G ?_ hms hne hcom htag hWB hR (by simp) (by simp [e1]; omega) (fun i hi => ?_) (fun j h1 h2 => set_get _ _ (by omega)) ?_ (fun i hi => ?_) hcom.pay hwg (mode_high (fun i hi => ?_) hmode) (by simp [e1, Joint, hA7]) ⟨_, _, _, hc1, by simp [e1, hA7]⟩
      (Nat.le_of_eq (vc_high (fun i hi => ?_))) (by simp [e1]; omega)
    · rw [set_get _ _ (by omega)]; exact ha
    · rcases two hi with rfl | rfl
      · simp only [e1, Nat.add_zero]
        rw [set_get _ _ (by omega)]
        exact hA0
      · simp only [e1]
        rw [set_same _ _ hlt]
        exact .low (by omega) (by simp) (.r0 hk) (fun _ => hF)
    · intro op hop
      simp at hop
      subst hop
      simp [MemAct.touch?]
    · rcases two hi with rfl | rfl <;> simp [e1, hdf]
    · rcases two hi with rfl | rfl <;> simp [e1]; omega
    · rcases two hi with rfl | rfl <;> simp [e1]; omega
  | false =>
    have hA10 : (D 0).stage = 10 := by
      have : ¬ (D 0).stage ≤ 7 := fun h => by have := hc2.2 h; cases this
      omega
    have hB10 : (D 1).stage = 10 := by omega
    have hR := crowd_waits (P := K.P) (sl := sl) (i := K.ka + 1) hg hstep' (fun cc hcc => by
      simp at hcc; subst hcc
      exact ways_recv_none hc1 hp)
    rw [ofEvents_nil] at hR
    have e1 : ∀ i, (upd D 1 ⟨9, 0, 0⟩) i = if i = 1 then ⟨9, 0, 0⟩ else D i := fun i => rfl
    refine cstep (D' := upd D 1 ⟨9, 0, 0⟩) G ?_ hms hne hcom htag hWB hR (by simp) (by simp [e1]; omega) (fun i hi => ?_) (fun j h1 h2 => set_get _ _ (by omega)) (by simp) (fun i hi => ?_) hcom.pay hwg (mode_high (fun i hi => ?_) hmode) (by simp [e1, Joint, hA10]) ⟨_, _, _, hc1, by simp [e1, hA10]⟩
      (Nat.le_of_eq (vc_high (fun i hi => ?_))) (by simp [e1]; omega)
    · rw [set_get _ _ (by omega)]; exact ha
    · rcases two hi with rfl | rfl
      · simp only [e1, Nat.add_zero]
        rw [set_get _ _ (by omega)]
        exact hA0
      · simp only [e1]
        rw [set_same _ _ hlt]
        exact .b9 h
    · rcases two hi with rfl | rfl <;> simp [e1, hdf]
    · rcases two hi with rfl | rfl <;> simp [e1]; omega
    · rcases two hi with rfl | rfl <;> simp [e1]; omega
theorem stepClose {g : Goroutine} (hg : gs[K.ka]? = some g) {m d : Nat} (hD : D 0 = ⟨10, m, d⟩) (hd : d = 0) (h : AtClose K g w) :
    ∃ m₁ ops μ', runT K.P (crowd gs w sl) K.ka = (.next m₁, ops) ∧ Lt2 μ' (rankC D tag, fuelC K D f0 q) ∧ InvC K Anch WB μ' m₁ (t ++ ops) := by
  obtain ⟨hrun, hmw, hstep⟩ := h
  subst hd
  have hpos := hcom.pos
  have hjo := hcom.joint
  rw [hD] at hjo
  simp only [Joint] at hjo
  obtain ⟨cl, cs_, cr_, hc1, hc2⟩ := hcom.chan
  have hcl : cl = false := by
    cases hcl : cl with
    | false => rfl
    | true => have := hc2.1 hcl; rw [hD] at this; simp only [] at this; omega
  subst hcl
  obtain ⟨g', hg'r, hgo, m₂, hk⟩ := hstep cs_ cr_ hc1
  have htg : tag ≠ .goB := fun e => by have := htag.2 e; omega
  have hA := aside_setChan w K.Ch 0 #[] true cs_ cr_ false
  have hnew := setChan_get (cap := 0) (buf := #[]) (cl := true) (s := cs_) (r := cr_) (tm := false) hc1
  have hcl' : ChLive K.Ch (w.setChan K.Ch 0 #[] true cs_ cr_ false) := ⟨_, _, _, hnew⟩
  have hB := hcom.wk 1 (by omega)
  have hdf : (D 1).deaf = 0 ∧ (D 1).fuel = (D 1).fuel := by
    have hjB : (D 1).stage = 10 ∨ (D 1).stage = 9 := by omega
    generalize (D 1).fuel = x1 at hB ⊢
    generalize (D 1).deaf = x2 at hB ⊢
    generalize (D 1).stage = x3 at hB hjB
    generalize gs[K.ka + 1]? = og at hB
    cases hB with
    | b10 h => exact ⟨rfl, rfl⟩
    | b9 h => exact ⟨rfl, rfl⟩
    | low _ h _ _ => omega
    | _ => omega
  obtain ⟨s2, f2, hs2, hs2', hsit⟩ : ∃ s2 f2, ((D 1).stage = 9 → s2 = 8) ∧ ((D 1).stage = 10 → s2 = 10) ∧ Sit K 1 s2 f2 0 (gs[K.ka + 1]?.map (woken K.P g g' (w.setChan K.Ch 0 #[] true cs_ cr_ false))) (w.setChan K.Ch 0 #[] true cs_ cr_ false) := by
    have hRB := RB.of_ch G hA hcl'
    have hjB : (D 1).stage = 10 ∨ (D 1).stage = 9 := by omega
    generalize (D 1).fuel = x1 at hB
    generalize (D 1).deaf = x2 at hB
    generalize (D 1).stage = x3 at hB hjB ⊢
    generalize gs[K.ka + 1]? = og at hB ⊢
    cases hB with
    | b10 h =>
      have hs := (Sit.b10 h).rely (w' := w.setChan K.Ch 0 #[] true cs_ cr_ false) (fun e => by omega) (fun _ _ => hRB) (fun h => by omega) (fun _ h => by omega)
      refine ⟨10, x1, by omega, by omega, ?_⟩
      rw [Option.map_some, hs.woken_id (fun h => by omega)]
      exact hs
    | @b9 gb _ h =>
      refine ⟨8, 0, by omega, by omega, ?_⟩
      rw [Option.map_some]
      have e : woken K.P g g' (w.setChan K.Ch 0 #[] true cs_ cr_ false) (parked gb #[rcase K.Ch K.z] (.recv true)) = { parked gb #[rcase K.Ch K.z] (.recv true) with status := .running } := by
        unfold Go.Conc.woken
        rw [if_pos (by simp [hmw, hg'r])]
        exact again_recv_closed hnew
      rw [e]
      exact .b8 (fun w₁ h₁ => h w₁ (hRB.trans h₁))
    | low _ h _ _ => omega
    | _ => omega
  have e1 : ∀ i, (upd (upd D 0 ⟨7, m₂, 0⟩) 1 ⟨s2, f2, 0⟩) i = if i = 1 then ⟨s2, f2, 0⟩ else if i = 0 then ⟨7, m₂, 0⟩ else D i := fun i => rfl
  have hmin : ∀ i, i < 2 → min ((upd (upd D 0 ⟨7, m₂, 0⟩) 1 ⟨s2, f2, 0⟩) i).stage 7 = min (D i).stage 7 := fun i hi => by
    rcases two hi with rfl | rfl
    · simp [e1, hD]
    · simp only [e1, if_true]; omega
  refine wstep (i := 0) (D' := upd (upd D 0 ⟨7, m₂, 0⟩) 1 ⟨s2, f2, 0⟩) G ha hms hne hcom htag (fun e => absurd e htg) (by omega) (by simpa using hg) hgo (by simp [e1]) (.low (by omega) (by omega) (.r0 hk) (fun e => by omega)) (fun i' hi' hii => ?_) (fun i' hi' hii => ?_)
    (by simp only [e1, if_true]; omega) ?_ ?_ ?_ (fun h => by omega) (PayAt.of_block (hA.block _ G.xc) hcom.pay) (WgAt.of_block hwg (hA.block _ (Ne.symm G.cw))) (by simp only [e1, Joint]; simp; omega) ⟨_, _, _, hnew, by simp [e1]⟩
    (fun tag' ht _ => mode_high hmin (hmode.retag (ctag_re ht))) (.inl ⟨Nat.le_of_eq (vc_high hmin), by simp only [e1, hD]; simp; omega⟩)
  · have : i' = 1 := by omega
    subst this
    simp only [e1, if_true]
    exact hsit
  · have : i' = 1 := by omega
    subst this
    simp only [e1, if_true]
    exact ⟨hdf.1.symm, fun h => by omega⟩
  · intro op hop
    rw [ofEvents_eq] at hop
    obtain ⟨e, he, rfl⟩ := Array.mem_map.1 hop
    refine ⟨rfl, fun x hx => ?_⟩
    simp at he
    rcases he with rfl | rfl
    · simp only [MemAct.ofEvent, MemAct.touch?, Option.some.injEq] at hx
      subst hx
      exact .inr ⟨.inl rfl, .inr ⟨G.rdCh, rfl⟩⟩
    · simp [MemAct.ofEvent, MemAct.touch?] at hx
  · intro e he
    simp at he
    rcases he with rfl | rfl <;> simp
  · rw [hD]
    exact deafBehind_idle (by intro e he; simp at he; rcases he with rfl | rfl <;> simp) 0
end
end Go.Proofs.YtemgilofjbnoaaaGreatDoor
namespace Go.Proofs.YtemgilofjbnoaaaGreatDoor
open Go Go.Conc Go.ConcN
open Go.ConcR (KK wgBlock WgAt stA smA rd wr mk Payload Aside2 DC0 Bk g_of_ofEvents again_blocked ofEvent_loc_mark ofEvent_cell ofEvent_mk bk_of_mute)
set_option linter.unusedVariables false
set_option linter.unusedSimpArgs false
set_option linter.unusedSectionVars false
variable [Payload]
section
variable {K : Crew} {Anch : Goroutine → World → Prop} {WB : World → Prop} {w w' : World}
  {gs gs' : Array Goroutine} {sl : Option (Nat × Nat)} {t u : Trace} {D D' : Nat → WD} {d0 : Nat} {q : Nat → Nat} {tag tag' : MTag} {f0 f' : Nat} {a a' : Goroutine} {st sm st' sm' : Int}
theorem park_open (hcom : ComC K gs w t D d0 q) {i : Nat} (hi : i < 2) (h : (D i).stage = 11 ∨ (D i).stage = 9) : ∃ s r, w.heap[K.Ch]? = some (.chan 0 #[] false s r false) := by
  obtain ⟨cl, s, r, h1, h2⟩ := hcom.chan
  have hj := hcom.joint
  simp only [Joint] at hj
  refine ⟨s, r, ?_⟩
  rw [h1]
  cases cl with
  | false => rfl
  | true =>
    have := h2.1 rfl
    rcases two hi with rfl | rfl <;> omega
theorem mstep {es : Array Event} (G : Good3 K Anch WB) (ha : gs[0]? = some a) (hcom : ComC K gs w t D d0 q) (hWB : tag' = .goB → WB w) (hgo : stepG K.P true a w = .go a' w' es) (hAs : Aside K.Wg w w') (hwg : WgAt K.ty K.Wg w' st' sm')
    (hok : ∀ op ∈ MemOp.ofEvents 0 a.frame.fn a.frame.place es, OkT K.fam (RR K D) 0 op) (hnr : ∀ e ∈ es, e.loc ≠ .mark (.release (stA K.Wg))) (hms' : MSit K Anch WB tag' f' (deafBehind d0 es) a' w') (hmode : ConcN.Mode 2 (md D) (ctag tag') st' sm')
    (htag' : (D 1).stage = 13 ↔ tag' = .goB) (hacq : tag' = .ret → Acq3 K.fam (stA K.Wg) K.n0 (RR K D) (t ++ MemOp.ofEvents 0 a.frame.fn a.frame.place es)) (hlt : rk (Vc 2 (md D)) tag' < rk (Vc 2 (md D)) tag ∨ (rk (Vc 2 (md D)) tag' = rk (Vc 2 (md D)) tag ∧ f' < f0)) :
    ∃ m₁ ops μ', runT K.P (crowd gs w sl) 0 = (.next m₁, ops) ∧ Lt2 μ' (rankC D tag, fuelC K D f0 q) ∧ InvC K Anch WB μ' m₁ (t ++ ops) := by
  have hpos := hcom.pos
  have hl : WgLive K.ty K.Wg w' := ⟨_, _, hwg⟩
  have hrun := runT_crowd_go (P := K.P) (sl := sl) (i := 0) ha (by simpa using hgo)
  have h0 : 0 < gs.size := (Array.getElem?_eq_some_iff.1 ha).1
  obtain ⟨cl, s, r, hc1, hc2⟩ := hcom.chan
  refine ⟨_, _, (rankC D tag', fuelC K D f' q), hrun, ?_, _, w', sl, D, tag', f', deafBehind d0 es, q, a', st', sm', rfl, get_map_set_same _ _ _ h0, hms',
    hcom.next (by simp) Iff.rfl (fun i hi => ?_) (fun j x hj hjk hx => ?_) (fun j hj => Deaf_other t (by omega) _ g_of_ofEvents) (hcom.t3.app G.apart (.inl rfl) hok) (norel_of hnr) (by rw [Deaf_own, hcom.deaf0])
      (fun i hi => by rw [Deaf_other t (by omega) _ g_of_ofEvents, hcom.deafW i hi]) (fun i hi hst => ?_) (PayAt.of_block (hAs.block _ G.xw) hcom.pay) hcom.joint ⟨cl, s, r, (hAs.block _ G.cw).trans hc1, hc2⟩, hwg, hmode, htag', fun e => G.wb _ _ (RB.of_wg G hAs hl) (hWB e), hacq, rfl⟩
  · rcases hlt with h | ⟨h1, h2⟩
    · exact Prod.Lex.left _ _ (by simp only [rankC]; omega)
    · have : rankC D tag' = rankC D tag := by simp only [rankC]; omega
      rw [this]
      exact Prod.Lex.right _ (by simp only [fuelC]; omega)
  · rw [get_map_set _ _ _ _ (by omega)]
    have hs := (hcom.wk i hi).rely (w' := w') (fun _ _ => RA.of_wg G hAs hl) (fun _ _ => RB.of_wg G hAs hl) (fun _ => RW.of_wg' G hAs hl i) (fun _ _ => G.keeps _ _ (RB.of_wg G hAs hl).b)
    cases hg : gs[K.ka + i]? with
    | none => rw [hg] at hs; exact hs
    | some o =>
      rw [hg] at hs
      rw [Option.map_some, hs.woken_id (fun h => ?_)]
      · exact hs
      · obtain ⟨s', r', h'⟩ := park_open hcom hi h
        exact ⟨s', r', (hAs.block _ G.cw).trans h'⟩
  · rw [get_map_set _ _ _ _ (by omega)] at hx
    obtain ⟨y, hy, rfl⟩ := Option.map_eq_some_iff.1 hx
    have hq := hcom.lv j y hj hjk hy
    rw [woken_quitsD hq, Deaf_other t (by omega) _ g_of_ofEvents]
    exact hq
  · obtain ⟨r', hr⟩ := hcom.rel i hi hst
    exact ⟨r', hr.other fun op hop => by rw [g_of_ofEvents op hop]; omega⟩
theorem no_goB (h : (D 1).stage = 13 ↔ tag = .goB) (h1 : tag ≠ .goB) (h2 : tag' ≠ .goB) : (D 1).stage = 13 ↔ tag' = .goB := by
  constructor
  · exact fun e => absurd (h.1 e) h1
  · exact fun e => absurd e h2
section
variable (G : Good3 K Anch WB) (ha : gs[0]? = some a) (hcom : ComC K gs w t D d0 q) (htag : (D 1).stage = 13 ↔ tag = .goB) (hWB : tag = .goB → WB w)
  (hwg : WgAt K.ty K.Wg w st sm) (hmode : ConcN.Mode 2 (md D) (ctag tag) st sm)
include G ha hcom hwg
theorem idleM (hmode : ConcN.Mode 2 (md D) (ctag tag) st sm) (htag : (D 1).stage = 13 ↔ tag = .goB) (hWB : tag = .goB → WB w) (hne : tag ≠ .ret) {a' : Goroutine} {f' : Nat} (hgo : stepG K.P true a w = .go a' w #[]) (hms' : MSit K Anch WB tag f' d0 a' w) (hf : f' < f0) :
    ∃ m₁ ops μ', runT K.P (crowd gs w sl) 0 = (.next m₁, ops) ∧ Lt2 μ' (rankC D tag, fuelC K D f0 q) ∧ InvC K Anch WB μ' m₁ (t ++ ops) :=
  mstep G ha hcom hWB hgo (.refl K.Wg w) hwg (by simp [MemOp.ofEvents]) (by simp) hms' hmode htag (fun e => absurd e hne) (.inr ⟨rfl, hf⟩)
theorem bookM {tag : MTag} {es : Array Event} (hgo : stepG K.P true a w = .go a' w' es) (hAs : Aside K.Wg w w') (hwg' : WgAt K.ty K.Wg w' st' sm') (hbk : ∀ e ∈ es, Bk K.Wg e) (hms' : MSit K Anch WB tag' f' (deafBehind d0 es) a' w') (hmode' : ConcN.Mode 2 (md D) (ctag tag') st' sm')
    (htag' : (D 1).stage = 13 ↔ tag' = .goB) (hg : tag' ≠ .goB) (hne : tag' ≠ .ret) (hlt : rk (Vc 2 (md D)) tag' < rk (Vc 2 (md D)) tag ∨ (rk (Vc 2 (md D)) tag' = rk (Vc 2 (md D)) tag ∧ f' < f0)) :
    ∃ m₁ ops μ', runT K.P (crowd gs w sl) 0 = (.next m₁, ops) ∧ Lt2 μ' (rankC D tag, fuelC K D f0 q) ∧ InvC K Anch WB μ' m₁ (t ++ ops) :=
  mstep G ha hcom (fun e => absurd e hg) hgo hAs hwg' (okT_of_Bk G hbk) (norel_of_Bk hbk) hms' hmode' htag' (fun e => absurd e hne) hlt
theorem w1M (hmode : ConcN.Mode 2 (md D) .w1 st sm) (h13 : (D 1).stage ≠ 13) (hd : d0 = 1) (h : Goes K.P true (RM K) DC0 (AtW13 K Anch) f0 a w) :
    ∃ m₁ ops μ', runT K.P (crowd gs w sl) 0 = (.next m₁, ops) ∧ Lt2 μ' (rankC D .w1, fuelC K D f0 q) ∧ InvC K Anch WB μ' m₁ (t ++ ops) := by
  subst hd
  have nb : ∀ tag' : MTag, tag' ≠ .goB → ((D 1).stage = 13 ↔ tag' = .goB) := fun tag' h => ⟨fun e => absurd e h13, fun e => absurd e h⟩
  rcases Goes.cases h with hstop | ⟨m', rfl, hstep⟩
  · obtain ⟨_, hall⟩ := hstop w (RM.refl w)
    obtain ⟨ho, rfl, rfl, _⟩ := hmode.open_inv trivial
    have hV := Vc_le 2 (md D)
    obtain ⟨a', hgo, h0, hne⟩ := hall (Vc 2 (md D)) (by omega) (by simpa [pend] using hwg)
    by_cases hv : Vc 2 (md D) = 0
    · obtain ⟨m₂, hk⟩ := h0 hv
      refine bookM G ha hcom hwg hgo (.refl K.Wg w) hwg bk_rd (tag' := .ke) (.ke hk) ?_ (nb _ (by simp)) (by simp) (by simp) (.inl (by simp only [rk]; omega))
      have e : ((Vc 2 (md D) + pend .w1 : Nat) : Int) * KK = 0 := by rw [hv]; simp [pend]
      rw [e]
      exact .fin trivial (allQuit_of ho hv)
    · obtain ⟨m₂, hk⟩ := hne hv
      exact bookM G ha hcom hwg hgo (.refl K.Wg w) hwg bk_rd (tag' := .w2 (Vc 2 (md D))) (.w2 hk) (hmode.reopen trivial trivial rfl (fun vs e => by cases e; omega)) (nb _ (by simp)) (by simp) (by simp) (.inl (by simp only [rk]; omega))
  · obtain ⟨a', w', es, hgo, ⟨rfl, rfl⟩, hg'⟩ := hstep w (RM.refl w)
    exact idleM G ha hcom hwg hmode (nb _ (by simp)) (by simp) (by simp) hgo (.w1 hg') (by omega)
end
set_option maxHeartbeats 1600000 in
theorem stepM (G : Good3 K Anch WB) (ha : gs[0]? = some a) (hms : MSit K Anch WB tag f0 d0 a w) (hne : tag ≠ .ret) (hcom : ComC K gs w t D d0 q) (htag : (D 1).stage = 13 ↔ tag = .goB) (hWB : tag = .goB → WB w)
    (hwg : WgAt K.ty K.Wg w st sm) (hmode : ConcN.Mode 2 (md D) (ctag tag) st sm) (hrun : a.status = .running) :
    ∃ m₁ ops μ', runT K.P (crowd gs w sl) 0 = (.next m₁, ops) ∧ Lt2 μ' (rankC D tag, fuelC K D f0 q) ∧ InvC K Anch WB μ' m₁ (t ++ ops) := by
  have hVj := Vc_le 2 (md D)
  have hpos := hcom.pos
  have nb : tag ≠ .goB → ∀ tag' : MTag, tag' ≠ .goB → ((D 1).stage = 13 ↔ tag' = .goB) := fun h1 tag' h2 => no_goB htag h1 h2
  cases hms with
  | goB h =>
    rcases Goes.cases h with hstop | ⟨m', rfl, hstep⟩
    · obtain ⟨_, a', child, hsp, hcr, hch, m₂, hk⟩ := hstop w (RM.refl w)
      obtain ⟨m₃, hcg⟩ := hch (hWB rfl)
      have h13 := htag.2 rfl
      have hsz : gs.size = K.ka + 1 := by rw [hcom.size, h13]; rfl
      have hrun' := runT_crowd_spawn (P := K.P) (sl := sl) (i := 0) ha (by simpa using hsp)
      rw [ofEvents_nil, hsz] at hrun'
      have hjo := hcom.joint
      simp only [Joint] at hjo
      obtain ⟨cl, s, r, hc1, hc2⟩ := hcom.chan
      have e1 : ∀ i, (upd D 1 ⟨12, m₃, 0⟩) i = if i = 1 then ⟨12, m₃, 0⟩ else D i := fun i => rfl
      have hmin : ∀ i, i < 2 → min ((upd D 1 ⟨12, m₃, 0⟩) i).stage 7 = min (D i).stage 7 := fun i hi => by
        rcases two hi with rfl | rfl <;> simp [e1, h13]
      have hu : ∀ op ∈ ((#[] : Trace).push { g := 0, fn := a.frame.fn, pos := a.frame.place, act := .go (K.ka + 1) }).push { g := K.ka + 1, fn := child.frame.fn, pos := a.frame.place, act := .start }, op.act ≠ .mark .disable ∧ op.act ≠ .mark .enable ∧ op.act ≠ .mark (.release (stA K.Wg)) ∧ op.act.touch? = none := by
        intro op hop
        simp at hop
        rcases hop with rfl | rfl <;> simp [MemAct.touch?]
      have hdf : ∀ g, Deaf (t ++ (((#[] : Trace).push { g := 0, fn := a.frame.fn, pos := a.frame.place, act := .go (K.ka + 1) }).push { g := K.ka + 1, fn := child.frame.fn, pos := a.frame.place, act := .start })) g = Deaf t g := fun g => Deaf_still t g _ fun op hop => ⟨(hu op hop).1, (hu op hop).2.1⟩
      have hrr : RR K (upd D 1 ⟨12, m₃, 0⟩) = fun j => RR K D j ∨ j = K.ka + 1 := by
        funext k
        simp only [RR, e1, if_true, h13]
        simp
      have hfork := hcom.t3.fork G.apart (k := K.ka + 1) (x := { g := 0, fn := a.frame.fn, pos := a.frame.place, act := .go (K.ka + 1) }) (y := { g := K.ka + 1, fn := child.frame.fn, pos := a.frame.place, act := .start }) ⟨rfl, rfl⟩ ⟨rfl, rfl⟩ hcom.deaf0 (hcom.above _ (by omega)) (by simp [RR, h13]) (by omega)
      rw [← hrr] at hfork
      refine ⟨_, _, (rankC (upd D 1 ⟨12, m₃, 0⟩) .kd, fuelC K (upd D 1 ⟨12, m₃, 0⟩) m₂ q), hrun', ?_, _, w, sl, upd D 1 ⟨12, m₃, 0⟩, .kd, m₂, 0, q, a', st, sm, rfl, ?_, .kd hk, ⟨by have := hcom.long; simp; omega, by simp [hsz, e1], hpos, fun i hi => ?_, fun i g h1 h2 h3 => ?_, fun j hj => ?_, hfork, hcom.norel.app (fun op hop => (hu op hop).2.2.1), by rw [hdf, hcom.deaf0], fun i hi => ?_,
        fun i hi hst => ?_, hcom.pay, ?_, ⟨cl, s, r, hc1, by simp only [e1]; simpa using hc2⟩⟩, hwg, mode_high hmin hmode, by simp [e1], by simp, by simp, rfl⟩
      · refine Prod.Lex.left _ _ ?_
        simp only [rankC, vc_high hmin, rk, e1, h13]
        simp
        omega
      · rw [Array.getElem?_push_lt (by simp; omega), ← Array.getElem?_eq_getElem]
        exact set_same _ _ (by omega)
      · rcases two hi with rfl | rfl
        · simp only [e1]
          rw [Nat.add_zero, Array.getElem?_push_lt (by simp; omega), ← Array.getElem?_eq_getElem, set_get _ _ (by omega)]
          exact hcom.wk 0 (by omega)
        · simp only [e1]
          rw [show K.ka + 1 = (gs.setIfInBounds 0 a').size by simp [hsz], Array.getElem?_push_size]
          exact .b12 hcg
      · rw [Array.getElem?_push_lt (by simp; omega), ← Array.getElem?_eq_getElem, set_get _ _ (by omega)] at h3
        rw [hdf]
        exact hcom.lv i g h1 h2 h3
      · rw [hdf]
        exact hcom.above j (by simp [hsz] at hj; omega)
      · rw [hdf]
        rcases two hi with rfl | rfl
        · simp only [e1]; exact hcom.deafW 0 (by omega)
        · simp only [e1]; exact hcom.above _ (by omega)
      · rcases two hi with rfl | rfl
        · simp only [e1] at hst
          obtain ⟨r', hr⟩ := hcom.rel 0 (by omega) hst
          exact ⟨r', hr.mute fun op hop => (hu op (by simpa using hop)).2.2.2⟩
        · simp [e1] at hst
      · simp only [e1, Joint]; simp; omega
    · obtain ⟨a', w', es, hgo, ⟨rfl, rfl⟩, hg'⟩ := hstep w (RM.refl w)
      exact idleM G ha hcom hwg hmode htag hWB hne hgo (.goB hg') (by omega)
  | kd h =>
    rcases Goes.cases h with hstop | ⟨m', rfl, hstep⟩
    · obtain ⟨_, a', hgo, m₂, hk⟩ := hstop w (RM.refl w)
      exact bookM G ha hcom hwg hgo (.refl K.Wg w) hwg bk_dis (tag' := .anch) (.anch hk) (Mode.reopen hmode trivial trivial rfl (by simp [ctag])) (nb (by simp) _ (by simp)) (by simp) (by simp) (.inl (by simp only [rk]; omega))
    · obtain ⟨a', w', es, hgo, ⟨rfl, rfl⟩, hg'⟩ := hstep w (RM.refl w)
      exact idleM G ha hcom hwg hmode htag hWB hne hgo (.kd hg') (by omega)
  | anch h =>
    rcases Goes.cases h with hstop | ⟨m', rfl, hstep⟩
    · obtain ⟨m₂, hk⟩ := G.an a w (hstop w (RM.refl w))
      have h13 : (D 1).stage ≠ 13 := fun e => by have := htag.1 e; cases this
      obtain ⟨m₁, ops, μ', h1, h2, h3⟩ := w1M (sl := sl) (WB := WB) G ha hcom hwg (Mode.reopen hmode trivial trivial rfl (by simp)) h13 rfl hk
      exact ⟨m₁, ops, μ', h1, lt2_trans h2 (Prod.Lex.left _ _ (by simp only [rankC, rk]; omega)), h3⟩
    · obtain ⟨a', w', es, hgo, ⟨rfl, rfl⟩, hg'⟩ := hstep w (RM.refl w)
      exact idleM G ha hcom hwg hmode htag hWB hne hgo (.anch hg') (by omega)
  | w1 h => exact w1M G ha hcom hwg hmode (fun e => by have := htag.1 e; cases this) rfl h
  | w2 h =>
    rename_i vs
    rcases Goes.cases h with hstop | ⟨m', rfl, hstep⟩
    · obtain ⟨_, hall⟩ := hstop w (RM.refl w)
      obtain ⟨ho, rfl, rfl, hw2⟩ := Mode.open_inv hmode trivial
      obtain ⟨hle, h1⟩ := hw2 vs rfl
      obtain ⟨hhit, hmiss⟩ := hall (Vc 2 (md D)) (by omega) (by simpa [pend, ctag] using hwg)
      by_cases e : Vc 2 (md D) = vs
      · obtain ⟨a', hgo, m₂, hk⟩ := hhit e
        exact bookM G ha hcom hwg hgo (aside_setCell w (stA K.Wg) _) (hwg.setSt _) bk_rw (tag' := .sd) (.sd hk) (.reg trivial ho (by omega)) (nb (by simp) _ (by simp)) (by simp) (by simp) (.inl (by simp only [rk]; omega))
      · obtain ⟨a', hgo, m₂, hk⟩ := hmiss e
        exact bookM G ha hcom hwg hgo (.refl K.Wg w) hwg bk_rd (tag' := .anch) (.anch hk) (Mode.reopen hmode trivial trivial rfl (by simp [ctag])) (nb (by simp) _ (by simp)) (by simp) (by simp) (.inl (by simp only [rk]; omega))
    · obtain ⟨a', w', es, hgo, ⟨rfl, rfl⟩, hg'⟩ := hstep w (RM.refl w)
      exact idleM G ha hcom hwg hmode htag hWB hne hgo (.w2 hg') (by omega)
  | sd h =>
    rcases Goes.cases h with hstop | ⟨m', rfl, hstep⟩
    · obtain ⟨_, a', hgo, m₂, hk⟩ := hstop w (RM.refl w)
      refine mstep G ha hcom (fun e => by cases e) hgo (.refl K.Wg w) hwg ?_ (by intro e he; simp at he; subst he; simp [mk]) (tag' := .w3) (.w3 hk) hmode (nb (by simp) _ (by simp)) (fun e => by cases e) (.inl (by simp only [rk]; omega))
      intro op hop
      rw [ofEvents_eq] at hop
      obtain ⟨e, he, rfl⟩ := Array.mem_map.1 hop
      simp at he; subst he
      refine ⟨rfl, fun x hx => ?_⟩
      simp only [mk, MemAct.ofEvent, MemAct.touch?, Option.some.injEq] at hx
      subst hx
      exact .inl ⟨(G.sh _).2 ⟨_, rfl, rfl⟩, by simp, fun _ => rfl⟩
    · obtain ⟨a', w', es, hgo, ⟨rfl, rfl⟩, hg'⟩ := hstep w (RM.refl w)
      exact idleM G ha hcom hwg hmode htag hWB hne hgo (.sd hg') (by omega)
  | w3 h =>
    rcases Goes.cases h with hstop | ⟨m', rfl, hstep⟩
    · obtain ⟨_, hoff, hblk, htake⟩ := hstop w (RM.refl w)
      cases hmode with
      | opn h1 _ _ => exact h1.elim
      | reg h1 h2 h3 => exact bookM G ha hcom hwg (hblk ⟨_, hwg⟩) (.refl K.Wg w) hwg (by simp) (tag' := .blk) (.blk hstop) (.reg trivial h2 h3) (nb (by simp) _ (by simp)) (by simp) (by simp) (.inr ⟨rfl, by omega⟩)
      | last L h1 h2 h3 h4 => exact bookM G ha hcom hwg (hblk ⟨_, hwg⟩) (.refl K.Wg w) hwg (by simp) (tag' := .blk) (.blk hstop) (.last L trivial h2 h3 h4) (nb (by simp) _ (by simp)) (by simp) (by simp) (.inr ⟨rfl, by omega⟩)
      | sema h2 =>
        obtain ⟨a', hgo, m₂, hk⟩ := htake hwg
        exact bookM G ha hcom hwg hgo (aside_setCell w (smA K.Wg) _) (hwg.setSm 0) bk_sem (tag' := .w4) (.w4 hk) (.fin trivial h2) (nb (by simp) _ (by simp)) (by simp) (by simp) (.inl (by simp only [rk]; omega))
      | fin h1 _ => exact h1.elim
    · obtain ⟨a', w', es, hgo, ⟨rfl, rfl⟩, hg'⟩ := hstep w (RM.refl w)
      exact idleM G ha hcom hwg hmode htag hWB hne hgo (.w3 hg') (by omega)
  | blk h => simp at hrun
  | w4 h =>
    rcases Goes.cases h with hstop | ⟨m', rfl, hstep⟩
    · obtain ⟨_, hx⟩ := hstop w (RM.refl w)
      obtain ⟨hq, rfl, rfl⟩ := Mode.fin_inv hmode trivial
      obtain ⟨a', hgo, m₂, hk⟩ := hx hwg
      exact bookM G ha hcom hwg hgo (.refl K.Wg w) hwg bk_rd (tag' := .ke) (.ke hk) (.fin trivial hq) (nb (by simp) _ (by simp)) (by simp) (by simp) (.inl (by simp only [rk]; omega))
    · obtain ⟨a', w', es, hgo, ⟨rfl, rfl⟩, hg'⟩ := hstep w (RM.refl w)
      exact idleM G ha hcom hwg hmode htag hWB hne hgo (.w4 hg') (by omega)
  | ke h =>
    rcases Goes.cases h with hstop | ⟨m', rfl, hstep⟩
    · obtain ⟨_, a', hgo, m₂, hk⟩ := hstop w (RM.refl w)
      obtain ⟨hq, rfl, rfl⟩ := Mode.fin_inv hmode trivial
      exact bookM G ha hcom hwg hgo (.refl K.Wg w) hwg bk_en (tag' := .acq) (.acq hk) (.fin trivial hq) (nb (by simp) _ (by simp)) (by simp) (by simp) (.inl (by simp only [rk]; omega))
    · obtain ⟨a', w', es, hgo, ⟨rfl, rfl⟩, hg'⟩ := hstep w (RM.refl w)
      exact idleM G ha hcom hwg hmode htag hWB hne hgo (.ke hg') (by omega)
  | acq h =>
    rcases Goes.cases h with hstop | ⟨m', rfl, hstep⟩
    · obtain ⟨_, a', hgo, hk⟩ := hstop w (RM.refl w)
      obtain ⟨hq, rfl, rfl⟩ := Mode.fin_inv hmode trivial
      have h13 : (D 1).stage ≠ 13 := fun e => by have := htag.1 e; cases this
      refine mstep G ha hcom (fun e => by cases e) hgo (.refl K.Wg w) hwg (okT_none (by intro e he; simp at he; subst he; rfl)) (by intro e he; simp at he; subst he; simp [mk]) (tag' := .ret) (f' := 0) (.ret hk) (.fin trivial hq) (nb (by simp) _ (by simp)) (fun _ => ?_) (.inl (by simp only [rk]; omega))
      have e1 : MemOp.ofEvents 0 a.frame.fn a.frame.place #[mk (.acquire (stA K.Wg))] = #[{ g := 0, fn := a.frame.fn, pos := a.frame.place, act := .mark (.acquire (stA K.Wg)) }] := by rw [ofEvents_eq]; simp [ofEvent_mk]
      have hy : (t ++ #[({ g := 0, fn := a.frame.fn, pos := a.frame.place, act := .mark (.acquire (stA K.Wg)) } : MemOp)])[t.size]? = some { g := 0, fn := a.frame.fn, pos := a.frame.place, act := .mark (.acquire (stA K.Wg)) } := by simp
      refine ⟨t.size, by rw [e1, act?_of hy], by rw [e1]; simp [Trace.g?], by rw [e1]; exact ⟨0, by simp [Trace.g?], by rw [deaf_old (Nat.le_refl _)]; exact hcom.deaf0⟩, fun k hk => ?_⟩
      obtain ⟨i, hi, rfl⟩ : ∃ i, i < 2 ∧ k = K.ka + i := by
        rcases hk with rfl | ⟨rfl, _⟩
        · exact ⟨0, by omega, rfl⟩
        · exact ⟨1, by omega, rfl⟩
      have := hq i hi
      simp only [md] at this
      obtain ⟨r, hr⟩ := hcom.rel i hi (by omega)
      exact ⟨r, hr.other fun op hop => by rw [g_of_ofEvents op hop]; omega, lt_of_act? hr.by_.act⟩
    · obtain ⟨a', w', es, hgo, ⟨rfl, rfl⟩, hg'⟩ := hstep w (RM.refl w)
      exact idleM G ha hcom hwg hmode htag hWB hne hgo (.acq hg') (by omega)
  | ret h => exact absurd rfl hne
theorem stepLv (G : Good3 K Anch WB) (ha : gs[0]? = some a) (hms : MSit K Anch WB tag f0 d0 a w) (hne : tag ≠ .ret) (hcom : ComC K gs w t D d0 q) (htag : (D 1).stage = 13 ↔ tag = .goB) (hWB : tag = .goB → WB w)
    (hwg : WgAt K.ty K.Wg w st sm) (hmode : ConcN.Mode 2 (md D) (ctag tag) st sm) {i : Nat} {g : Goroutine} (h1 : 0 < i) (h2 : i < K.ka) (hg : gs[i]? = some g) (hrun : g.status = .running) :
    ∃ m₁ ops μ', runT K.P (crowd gs w sl) i = (.next m₁, ops) ∧ Lt2 μ' (rankC D tag, fuelC K D f0 q) ∧ InvC K Anch WB μ' m₁ (t ++ ops) := by
  have hq := hcom.lv i g h1 h2 hg
  have hi0 : (i == 0) = false := by simp; omega
  have hlt : i < gs.size := (Array.getElem?_eq_some_iff.1 hg).1
  cases hqi : q i with
  | zero => rw [hqi] at hq; rw [hq.1] at hrun; cases hrun
  | succ k =>
    rw [hqi] at hq
    rcases hq with ⟨hf, _⟩ | ⟨_, g', es, hm, hstp, hq'⟩
    · rw [hf] at hrun; cases hrun
    have hrunT := runT_crowd_go (P := K.P) (sl := sl) (i := i) hg (by rw [hi0]; exact hstp w)
    have hsum : sumTo K.ka (upd q i k) + (k + 1) = sumTo K.ka q + k := by
      have := sumTo_upd q k id h2
      simpa [hqi] using this
    obtain ⟨tag', f', hms', hf', ht', _⟩ := hms.wokenBy G.anr hne (RM.refl w) g g'
    have htg : tag' = .goB ↔ tag = .goB := by
      rcases ht' with rfl | ⟨rfl, rfl⟩
      · exact Iff.rfl
      · simp
    have hret : tag' ≠ .ret := by
      rcases ht' with rfl | ⟨rfl, rfl⟩
      · exact hne
      · simp
    have hmu : ∀ op ∈ MemOp.ofEvents i g.frame.fn g.frame.place es, op.act.touch? = none := fun op hop => by
      rw [ofEvents_eq] at hop
      obtain ⟨e, he, rfl⟩ := Array.mem_map.1 hop
      exact touch_mute (hm e he)
    refine ⟨_, _, (rankC D tag', fuelC K D f' (upd q i k)), hrunT, ?_, _, w, sl, D, tag', f', d0, upd q i k, woken K.P g g' w a, st, sm, rfl, by rw [get_map_set _ _ _ _ (by omega), ha]; rfl, hms',
      hcom.next (by simp) Iff.rfl (fun i' hi' => ?_) (fun j x hj hjk hx => ?_) (fun j hj => Deaf_other t (by omega) _ g_of_ofEvents) (hcom.t3.mute hmu) (fun op hop => ?_) (by rw [Deaf_other t (by omega) _ g_of_ofEvents, hcom.deaf0])
        (fun i' hi' => by rw [Deaf_other t (by omega) _ g_of_ofEvents, hcom.deafW i' hi']) (fun i' hi' hst => ?_) hcom.pay hcom.joint hcom.chan, hwg, Mode.retag hmode (ctag_re ht'), by rw [htag, htg], fun e => hWB (htg.1 e), fun e => absurd e hret, rfl⟩
    · have hph : rk (Vc 2 (md D)) tag' = rk (Vc 2 (md D)) tag := by rcases ht' with rfl | ⟨rfl, rfl⟩ <;> rfl
      simp only [rankC, fuelC, hph]
      exact Prod.Lex.right _ (by omega)
    · rw [get_map_set _ _ _ _ (by omega)]
      have hs := hcom.wk i' hi'
      cases hog : gs[K.ka + i']? with
      | none => rw [hog] at hs; exact hs
      | some o =>
        rw [hog] at hs
        rw [Option.map_some, hs.woken_id (fun h => park_open hcom hi' h)]
        exact hs
    · by_cases hji : i = j
      · subst hji
        rw [get_map_set_same _ _ _ hlt] at hx
        obtain rfl := Option.some.inj hx
        rw [upd_same, Deaf_own]
        exact hq'
      · rw [get_map_set _ _ _ _ hji] at hx
        obtain ⟨y, hy, rfl⟩ := Option.map_eq_some_iff.1 hx
        have hqj := hcom.lv j y hj hjk hy
        rw [woken_quitsD hqj, upd_ne q k (Ne.symm hji), Deaf_other t (by omega) _ g_of_ofEvents]
        exact hqj
    · exact norel_of (fun e he hl => by
        have h := hm e he
        obtain ⟨l, wr, sy⟩ := e
        simp only at hl
        subst hl
        simp [Event.mute] at h) op hop
    · obtain ⟨r, hr⟩ := hcom.rel i' hi' hst
      exact ⟨r, hr.mute hmu⟩
end
end Go.Proofs.YtemgilofjbnoaaaGreatDoor
