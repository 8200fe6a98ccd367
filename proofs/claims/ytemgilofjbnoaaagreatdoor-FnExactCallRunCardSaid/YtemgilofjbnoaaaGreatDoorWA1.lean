/- Texts of this claim, joined: Sim SimOp SimOq SimN SimX SimM Lock Fin. -/
import Derived.Conc.Beside
import Derived.WalkKit
import Derived.Conc.Listed
import Derived.Calls
namespace Go.Proofs.YtemgilofjbnoaaaGreatDoor
open Go Go.Conc
set_option linter.unusedVariables false
set_option linter.unusedSimpArgs false
def okOp0 (o : Oper) : Bool :=
  match o.op with
  | .move _ | .assign _ | .pick .. | .alloc _ | .box .. | .build .. | .buildSlice .. | .load .. | .store .. | .nilCheck _ | .binOp .. | .unOp .. | .makeInterface .. | .makeSlice .. | .slice .. | .fieldAddr .. | .field .. | .indexAddr .. | .typeAssert .. | .extract .. => true
  | .call { callee := .value (.func _), .. } => true
  | .call { callee := .builtin .append, .. } | .call { callee := .builtin .len, .. } => true
  | _ => false
def okCode0 : Code → Bool
  | .skip | .ret | .label _ | .exit _ => true
  | .seq a b => okCode0 a && okCode0 b
  | .cond _ a b => okCode0 a && okCode0 b
  | .block _ c => okCode0 c
  | .loop c => okCode0 c
  | .region _ ops _ => ops.all okOp0
  | _ => false
def okObj : Obj → Bool
  | .view a _ => a.spot.isSome
  | .loop r => okCode0 r.assign && okCode0 r.body && (match r.pending with | some c => okCode0 c | none => true)
  | .deferred (some ds) => ds.isEmpty
  | _ => true
inductive Alike : Obj → Obj → Prop
  | hid (e : TypeId) (cs : Array Value) : Alike (.cells #[] e) (.cells cs e)
  | chan (c c' : Bool) (s r s' r' : Nat) : Alike (.chan 0 #[] c s r false) (.chan 0 #[] c' s' r' false)
  | view (a a' : Addr) (t t' : TypeId) : Alike (.view a t) (.view a' t')
  | loop (r : Loop) : Alike (.deferred none) (.loop r)
  | defd (d : Option (List Deferred)) : Alike (.deferred none) (.deferred d)
structure Hidn where
  S : Nat → Prop
  K : Nat → Obj
  T : Nat
  a : Nat
  b : Nat
  tp : Nat → Question → Nat
  m : Bool
instance : CoeFun Hidn (fun _ => Nat → Prop) := ⟨Hidn.S⟩
structure Sim (S : Hidn) (u w : World) : Prop where
  size : u.heap.size = w.heap.size
  out : ∀ b, ¬ S b → u.heap[b]? = w.heap[b]?
  ins : ∀ b, S b → ∃ o o', u.heap[b]? = some o ∧ w.heap[b]? = some o' ∧ Alike o o'
  views : ∀ (b : Nat) (o : Obj), u.heap[b]? = some o → okObj o = true
  os : w.os = u.os
  output : w.output = u.output
  tape : ∀ i q, u.drawn + i < S.T → w.tape (w.drawn + i) q = u.tape (u.drawn + i) q
  kept : ∀ b, S b → w.heap[b]? = some (S.K b)
  off : w.drawn + S.a = u.drawn + S.b
  tap : w.tape = S.tp
def Halt.fails : Halt → Prop
  | .stuck _ | .unsupported _ => True
  | _ => False
def EvS (S : Hidn) (B : Nat) (e : Event) : Prop :=
  (∃ a wr, e = ⟨.cell a, wr, false⟩ ∧ ¬ S a.block ∧ a.block < B) ∨ (∃ r sy, e = ⟨.obj r, false, sy⟩ ∧ r < B) ∨ e = ⟨.mark .noRoom, false, true⟩ ∨ (∃ f, e = ⟨.mark (.extern f), false, true⟩) ∨ (S.m = true ∧ ∃ r sy, e = ⟨.obj r, true, sy⟩ ∧ ¬ S r ∧ r < B)
theorem EvS.mono {S : Hidn} {B B' : Nat} {e : Event} (h : EvS S B e) (hB : B ≤ B') : EvS S B' e := by
  rcases h with ⟨a, wr, h1, h2, h3⟩ | ⟨r, sy, h1, h2⟩ | h | h | ⟨hm, r, sy, h1, h2, h3⟩
  · exact .inl ⟨a, wr, h1, h2, by omega⟩
  · exact .inr (.inl ⟨r, sy, h1, by omega⟩)
  · exact .inr (.inr (.inl h))
  · exact .inr (.inr (.inr (.inl h)))
  · exact .inr (.inr (.inr (.inr ⟨hm, r, sy, h1, h2, by omega⟩)))
section
variable {S : Hidn} {u w : World}
theorem Sim.cell_out (h : Sim S u w) {a : Addr} (ha : ¬ S a.block) : w.cell? a = u.cell? a := by
  have := h.out a.block ha
  simp [World.cell?, this]
theorem Sim.cell_in (h : Sim S u w) {a : Addr} (ha : S a.block) : u.cell? a = none := by
  obtain ⟨o, o', h1, _, h3⟩ := h.ins _ ha
  cases h3 <;> simp [World.cell?, h1]
theorem Sim.frozen (h : Sim S u w) (a : Addr) : w.frozen? a = u.frozen? a := by
  by_cases ha : S a.block
  · obtain ⟨o, o', h1, h2, h3⟩ := h.ins _ ha
    cases h3 <;> simp [World.frozen?, h1, h2]
  · have := h.out a.block ha
    simp [World.frozen?, this]
theorem Sim.free_in (h : Sim S u w) {a : Addr} (ha : S a.block) : w.frozen? a = false := by
  obtain ⟨o, o', h1, h2, h3⟩ := h.ins _ ha
  cases h3 <;> simp [World.frozen?, h2]
theorem Sim.shape_out (h : Sim S u w) {r : Nat} (ha : ¬ S r) : w.shape? r = u.shape? r := by
  have := h.out r ha
  simp [World.shape?, this]
theorem Sim.shape_is (h : Sim S u w) (r : Nat) : (w.shape? r).isSome = (u.shape? r).isSome := by
  by_cases ha : S r
  · obtain ⟨o, o', h1, h2, h3⟩ := h.ins _ ha
    cases h3 <;> simp [World.shape?, h1, h2]
  · rw [h.shape_out ha]
theorem Sim.shape_elem (h : Sim S u w) (r : Nat) : (w.shape? r).map (·.1) = (u.shape? r).map (·.1) := by
  by_cases ha : S r
  · obtain ⟨o, o', h1, h2, h3⟩ := h.ins _ ha
    cases h3 <;> simp [World.shape?, h1, h2]
  · rw [h.shape_out ha]
theorem Sim.set (h : Sim S u w) {a : Addr} (ha : ¬ S a.block) (v : Value) : Sim S (u.setCell a v) (w.setCell a v) := by
  refine ⟨by simp [World.setCell, h.size], fun b hb => ?_, fun b hb => ?_, fun b o1 hb => ?_, h.os, h.output, h.tape, fun b hb => ?_, h.off, h.tap⟩
  · simp only [World.setCell, Array.getElem?_modify]
    rw [h.out b hb]
  · have hne : a.block ≠ b := fun e => ha (e ▸ hb)
    simp only [World.setCell, Array.getElem?_modify, hne, if_false]
    exact h.ins b hb
  · simp only [World.setCell, Array.getElem?_modify] at hb
    split at hb
    · cases ho : u.heap[b]? with
      | none => rw [ho] at hb; cases hb
      | some o =>
        rw [ho] at hb
        have hv := h.views b _ ho
        cases o <;> simp at hb <;> subst hb <;> first | rfl | exact hv
    · exact h.views b _ hb
  · have hne : a.block ≠ b := fun e => ha (e ▸ hb)
    simp only [World.setCell, Array.getElem?_modify, hne, if_false]
    exact h.kept b hb
theorem Sim.lt (h : Sim S u w) {b : Nat} (hb : S b) : b < u.heap.size := by
  obtain ⟨o, o', h1, _⟩ := h.ins b hb
  exact (Array.getElem?_eq_some_iff.1 h1).1
theorem Sim.push (h : Sim S u w) (o : Obj) (ho : okObj o = true) : Sim S { u with heap := u.heap.push o } { w with heap := w.heap.push o } := by
  refine ⟨by simp [h.size], fun b hb => ?_, fun b hb => ?_, fun b o1 hb => ?_, h.os, h.output, h.tape, fun b hb => ?_, h.off, h.tap⟩
  · simp only [Array.getElem?_push, h.size]
    split
    · rfl
    · exact h.out b hb
  · have hlt := h.lt hb
    obtain ⟨o1, o2, h1, h2, h3⟩ := h.ins b hb
    refine ⟨o1, o2, ?_, ?_, h3⟩
    · simp only [Array.getElem?_push]; rw [if_neg (by omega)]; exact h1
    · simp only [Array.getElem?_push]; rw [if_neg (by have := h.size; omega)]; exact h2
  · simp only [Array.getElem?_push] at hb
    split at hb
    · injection hb with hb; subst hb; exact ho
    · exact h.views b _ hb
  · have hlt := h.lt hb
    simp only [Array.getElem?_push]; rw [if_neg (by have := h.size; omega)]; exact h.kept b hb
theorem Sim.draw (h : Sim S u w) : Sim S { u with drawn := u.drawn + 1 } { w with drawn := w.drawn + 1 } :=
  ⟨h.size, h.out, h.ins, h.views, h.os, h.output, fun i q hi => by
    have := h.tape (i + 1) q (by simp only [] at hi; omega)
    simp only []; rw [show w.drawn + 1 + i = w.drawn + (i + 1) by omega, show u.drawn + 1 + i = u.drawn + (i + 1) by omega]; exact this, h.kept, by have := h.off; simp only []; omega, h.tap⟩
end
def notAgg : Value → Bool
  | .agg _ | .tuple _ => false
  | _ => true
theorem run_store_eq {α : Type} (p : Program) (m : Go.Mode) (a : Addr) (v : Value) (k : Sem α) (w : World) (hv : notAgg v = true) : (Sem.store m a v k).run p w = match w.cell? a with
    | some _ => if w.frozen? a then .halt (.unsupported (.unsafePointer "a write to bytes that a string shares")) w else k.run p (w.setCell a v)
    | none => match w.farStore p a v (m == .atomic) with
      | .ok (w, _) => k.run p w
      | .error h => .halt h w := by cases v <;> first | rfl | (simp [notAgg] at hv)
theorem viewStore_drawn {p : Program} {w w' : World} {at_ : Addr} {u : TypeId} {k : Addr} {v : Value} {b : Bool} {l : List Addr} (h : w.viewStore p at_ u k v b = .ok (w', l)) : w'.drawn = w.drawn := by
  unfold World.viewStore at h
  simp only [bind, Except.bind, pure, Except.pure, throw, throwThe, MonadExceptOf.throw] at h
  repeat' (split at h)
  all_goals first
    | (cases h; done)
    | (injection h with h; injection h with h1 h2; subst h1; rfl)
    | skip
theorem farStore_drawn {p : Program} {w w' : World} {a : Addr} {v : Value} {b : Bool} {l : List Addr} (h : w.farStore p a v b = .ok (w', l)) : w'.drawn = w.drawn := by
  unfold World.farStore at h
  split at h
  · split at h
    · rename_i r hr
      injection h with h; subst h
      exact viewStore_drawn hr
    · cases h
  · cases h
theorem ask_drawn {α : Type} : ∀ (x : Ask α) (w : World), w.drawn ≤ (w.ask x).2.drawn := by
  intro x
  induction x with
  | done a => intro w; exact Nat.le_refl _
  | ask what range k ih =>
    intro w
    unfold World.ask
    dsimp only
    split
    · exact ih _ w
    · exact Nat.le_trans (Nat.le_succ _) (ih _ { w with drawn := w.drawn + 1 })
theorem sys_drawn (w : World) (c : Sys) : w.drawn ≤ (w.sys c).2.drawn := by
  have := ask_drawn (Kernel.perform c w.os) w
  unfold World.sys
  split
  · exact Nat.le_refl _
  · rename_i h; rw [h] at this; exact this
def endW {α : Type} : Result α → World
  | .ok _ w => w
  | .halt _ w => w
theorem run_drawn (p : Program) {α : Type} : ∀ (s : Sem α) (w : World), w.drawn ≤ (endW (s.run p w)).drawn := by
  intro s
  induction s with
  | pure a => intro w; exact Nat.le_refl _
  | halt x => intro w; exact Nat.le_refl _
  | load m a k ih =>
    intro w; simp only [Sem.run]
    split
    · exact ih _ w
    · split
      · exact ih _ w
      · exact Nat.le_refl _
  | store m a v k ih =>
    intro w
    cases hv : notAgg v with
    | false => cases v <;> first | (simp [notAgg] at hv; done) | exact Nat.le_refl _
    | true =>
      rw [run_store_eq _ _ _ _ _ _ hv]
      split
      · split
        · exact Nat.le_refl _
        · exact ih (w.setCell a v)
      · split
        · rename_i h
          rw [← farStore_drawn h]; exact ih _
        · exact Nat.le_refl _
  | new o k ih => intro w; simp only [Sem.run]; exact ih _ { w with heap := w.heap.push o }
  | shape r k ih => intro w; simp only [Sem.run]; exact ih _ w
  | freeze a n k ih => intro w; simp only [Sem.run]; exact Nat.le_trans (by unfold World.freeze; split <;> simp) (ih (w.freeze a n))
  | frozen a k ih => intro w; simp only [Sem.run]; exact ih _ w
  | getObj r k ih => intro w; simp only [Sem.run]; split <;> first | exact Nat.le_refl _ | exact ih _ w
  | setObj r o k ih => intro w; simp only [Sem.run]; split <;> first | exact Nat.le_refl _ | exact ih { w with heap := w.heap.setIfInBounds r o }
  | choose q k ih =>
    intro w; simp only [Sem.run]
    split
    · exact ih _ w
    · exact Nat.le_trans (Nat.le_succ _) (ih _ { w with drawn := w.drawn + 1 })
  | sys c k ih => intro w; simp only [Sem.run]; exact Nat.le_trans (sys_drawn w c) (ih _ _)
  | program k ih => intro w; simp only [Sem.run]; exact ih _ w
  | mark m k ih => intro w; simp only [Sem.run]; exact ih w
def SimOut {α : Type} (S : Hidn) (n : Nat) (r : Result α) (ro : Result α × Array Event) (es : Array Event) : Prop :=
  match r with
  | .ok a u' => u'.drawn ≤ S.T → (∃ w' es', ro = (.ok a w', es ++ es') ∧ Sim S u' w' ∧ n ≤ u'.heap.size ∧ ∀ e ∈ es', EvS S u'.heap.size e)
  | .halt h u' => u'.drawn ≤ S.T → Halt.fails h ∨ ((∃ v, h = .panic v) ∧ ∃ w' es', ro = (.halt h w', es ++ es') ∧ Sim S u' w' ∧ n ≤ u'.heap.size ∧ ∀ e ∈ es', EvS S u'.heap.size e)
def SimS (U P : Program) {α : Type} (s : Sem α) : Prop := ∀ (S : Hidn) (u w : World) (es : Array Event), Sim S u w → SimOut S u.heap.size (s.run U u) (s.runT P w es) es
section
variable {U P : Program} {α β : Type}
theorem SimS.pure (a : α) : SimS U P (Sem.pure a) := fun S u w es h => fun _ => ⟨w, #[], by simp [Sem.runT], h, Nat.le_refl _, fun e he => by simp at he⟩
theorem SimS.halt (x : Halt) (hx : Halt.fails x ∨ ∃ v, x = .panic v) : SimS U P (Sem.halt x : Sem α) := fun S u w es h => fun _ => hx.imp id fun hp => ⟨hp, w, #[], by simp [Sem.runT], h, Nat.le_refl _, fun e he => by simp at he⟩
theorem SimOut.of {S : Hidn} {n : Nat} {r : Result α} {ro : Result α × Array Event} {es : Array Event} (h : (endW r).drawn ≤ S.T → SimOut S n r ro es) : SimOut S n r ro es := by
  cases r with
  | ok a u' => exact fun q => h q q
  | halt x u' => exact fun q => h q q
theorem SimOut.more {S : Hidn} {n m : Nat} {r : Result α} {ro : Result α × Array Event} {es es1 : Array Event} (h : SimOut S n r ro (es ++ es1)) (hm : m ≤ n) (he : ∀ e ∈ es1, EvS S n e) : SimOut S m r ro es := by
  cases r with
  | ok a u' =>
    intro hT
    obtain ⟨w', es', h1, h2, h3, h4⟩ := h hT
    refine ⟨w', es1 ++ es', by rw [h1, Array.append_assoc], h2, by omega, fun e hx => ?_⟩
    rcases Array.mem_append.1 hx with hx | hx
    · exact (he e hx).mono h3
    · exact h4 e hx
  | halt x u' =>
    intro hT
    rcases h hT with h | ⟨hp, w', es', h1, h2, h3, h4⟩
    · exact .inl h
    refine .inr ⟨hp, w', es1 ++ es', by rw [h1, Array.append_assoc], h2, by omega, fun e hx => ?_⟩
    rcases Array.mem_append.1 hx with hx | hx
    · exact (he e hx).mono h3
    · exact h4 e hx
theorem SimS.bind {s : Sem α} {f : α → Sem β} (hs : SimS U P s) (hf : ∀ a, SimS U P (f a)) : SimS U P (s.bind f) := by
  intro S u w es h
  have h1 := hs S u w es h
  rw [Sem.runT_bind']
  have e : (s.bind f).run U u = match s.run U u with | .ok a w => (f a).run U w | .halt x w => .halt x w := by
    have := congrArg Prod.fst (Sem.runT_bind' U s f u #[])
    rw [Sem.runT_fst] at this
    rw [this, ← Sem.runT_fst U s u #[]]
    rcases s.runT U u #[] with ⟨_ | _, _⟩
    · simp only []; rw [Sem.runT_fst]
    · rfl
  rw [e]
  cases hr : s.run U u with
  | ok a u' =>
    rw [hr] at h1
    refine SimOut.of fun hT => ?_
    obtain ⟨w', es', h2, h3, h4, h5⟩ := h1 (Nat.le_trans (run_drawn U (f a) u') hT)
    rw [h2]
    exact (hf a S u' w' (es ++ es') h3).more h4 h5
  | halt x u' =>
    rw [hr] at h1
    intro hT
    rcases h1 hT with h1 | ⟨hp, w', es', h2, h3, h4, h5⟩
    · exact .inl h1
    · rw [h2]; exact .inr ⟨hp, w', es', rfl, h3, h4, h5⟩
theorem noCell_fails (u : World) (a : Addr) (what : String) : Halt.fails (u.noCell a what) := by
  unfold World.noCell; split <;> trivial
theorem farLoad_fails {S : Hidn} {u w : World} (h : Sim S u w) (a : Addr) (at_ : Bool) : ∃ x, u.farLoad U a at_ = .error x ∧ Halt.fails x := by
  unfold World.farLoad
  split
  · rename_i a' t hv
    have hs : a'.spot.isSome = true := h.views _ _ hv
    have : u.viewLoad U a' t a at_ = .error "memory seen as another type: a place without cells" := by
      unfold World.viewLoad World.seen
      simp [hs]; rfl
    rw [this]; exact ⟨_, rfl, trivial⟩
  · exact ⟨_, rfl, noCell_fails _ _ _⟩
theorem farStore_fails {S : Hidn} {u w : World} (h : Sim S u w) (a : Addr) (v : Value) (at_ : Bool) : ∃ x, u.farStore U a v at_ = .error x ∧ Halt.fails x := by
  unfold World.farStore
  split
  · rename_i a' t hv
    have hs : a'.spot.isSome = true := h.views _ _ hv
    have : ∃ m, u.viewStore U a' t a v at_ = .error m := by
      unfold World.viewStore World.seen
      by_cases ht : tight U U.depth t
      · exact ⟨_, by simp [hs, ht]; rfl⟩
      · exact ⟨_, by simp [hs, ht]; rfl⟩
    obtain ⟨m, hm⟩ := this
    rw [hm]; exact ⟨_, rfl, trivial⟩
  · exact ⟨_, rfl, noCell_fails _ _ _⟩
theorem push_app (es : Array Event) (e : Event) : es.push e = es ++ #[e] := by simp
theorem SimS.load {a : Addr} {k : Value → Sem α} (hk : ∀ v, SimS U P (k v)) : SimS U P (.load .plain a k) := by
  intro S u w es h
  simp only [Sem.run, Sem.runT]
  cases hc : u.cell? a with
  | some v =>
    have hS : ¬ S a.block := fun hb => by rw [h.cell_in hb] at hc; cases hc
    rw [h.cell_out hS, hc, push_app]
    refine (hk v S u w _ h).more (Nat.le_refl _) (fun e he => ?_)
    simp at he; subst he
    exact .inl ⟨a, false, rfl, hS, World.block_lt_of_cell? u a hc⟩
  | none =>
    obtain ⟨x, hx, hf⟩ := farLoad_fails (U := U) h a (Mode.plain == .atomic)
    simp only [hx]
    exact fun _ => .inl hf
theorem runT_store_eq (p : Program) (m : Go.Mode) (a : Addr) (v : Value) (k : Sem α) (w : World) (es : Array Event) (hv : notAgg v = true) : (Sem.store m a v k).runT p w es = match w.cell? a with
    | some _ =>
      if w.frozen? a then (.halt (.unsupported (.unsafePointer "a write to bytes that a string shares")) w, es)
      else k.runT p (w.setCell a v) (es.push ⟨.cell a, true, m == .atomic⟩)
    | none => match w.farStore p a v (m == .atomic) with
      | .ok (w, touched) => k.runT p w (es ++ touched.toArray.map (⟨.cell ·, true, m == .atomic⟩))
      | .error h => (.halt h w, es) := by cases v <;> first | rfl | (simp [notAgg] at hv)
theorem SimS.store {a : Addr} {v : Value} {k : Sem α} (hk : SimS U P k) : SimS U P (.store .plain a v k) := by
  intro S u w es h
  cases hv : notAgg v with
  | false => cases v <;> first | (simp [notAgg] at hv; done) | exact fun _ => .inl trivial
  | true =>
    rw [run_store_eq _ _ _ _ _ _ hv, runT_store_eq _ _ _ _ _ _ _ hv]
    cases hc : u.cell? a with
    | some v0 =>
      have hS : ¬ S a.block := fun hb => by rw [h.cell_in hb] at hc; cases hc
      rw [h.cell_out hS, hc, h.frozen]
      simp only []
      by_cases hf : u.frozen? a = true
      · rw [if_pos hf]; exact fun _ => .inl trivial
      · rw [if_neg hf, if_neg hf, push_app]
        have := (hk S _ _ (es ++ #[⟨.cell a, true, Go.Mode.plain == .atomic⟩]) (h.set hS v))
        refine SimOut.more this (by simp [World.setCell]) (fun e he => ?_)
        simp at he; subst he
        exact .inl ⟨a, true, rfl, hS, by have := World.block_lt_of_cell? u a hc; simpa [World.setCell] using this⟩
    | none =>
      obtain ⟨x, hx, hf⟩ := farStore_fails (U := U) h a v (Go.Mode.plain == .atomic)
      simp only [hx]
      exact fun _ => .inl hf
theorem SimS.new {o : Obj} {k : Nat → Sem α} (ho : okObj o = true) (hk : ∀ r, SimS U P (k r)) : SimS U P (.new o k) := by
  intro S u w es h
  simp only [Sem.run, Sem.runT, ← h.size]
  have := hk u.heap.size S _ _ es (h.push o ho)
  exact SimOut.more (es1 := #[]) (by simpa using this) (by simp) (fun e he => by simp at he)
theorem SimS.frozen {a : Addr} {k : Bool → Sem α} (hk : ∀ b, SimS U P (k b)) : SimS U P (.frozen a k) := by
  intro S u w es h
  simp only [Sem.run, Sem.runT, h.frozen]
  exact hk _ S u w es h
theorem SimS.choose {q : Question} {k : Nat → Sem α} (hk : ∀ b, SimS U P (k b)) : SimS U P (.choose q k) := by
  intro S u w es h
  simp only [Sem.run, Sem.runT]
  split
  · exact hk _ S u w es h
  · refine SimOut.of fun hT => ?_
    have hd := run_drawn U (k (q.cut (u.tape u.drawn q))) { u with drawn := u.drawn + 1 }
    simp only [] at hd
    have ht := h.tape 0 q (by omega)
    simp only [Nat.add_zero] at ht
    rw [ht]
    exact hk (q.cut (u.tape u.drawn q)) S _ _ es h.draw
theorem SimS.program {k : Program → Sem α} (he : k U = k P) (hk : SimS U P (k P)) : SimS U P (.program k) := by
  intro S u w es h
  simp only [Sem.run, Sem.runT, he]
  exact hk S u w es h
theorem SimS.noRoom {k : Sem α} (hk : SimS U P k) : SimS U P (.mark .noRoom k) := by
  intro S u w es h
  simp only [Sem.run, Sem.runT, push_app]
  exact (hk S u w _ h).more (Nat.le_refl _) (fun e he => by simp at he; subst he; exact .inr (.inr (.inl rfl)))
theorem SimS.extern_ {f : FuncId} {k : Sem α} (hk : SimS U P k) : SimS U P (.mark (.extern f) k) := by
  intro S u w es h
  simp only [Sem.run, Sem.runT, push_app]
  exact (hk S u w _ h).more (Nat.le_refl _) (fun e he => by simp at he; subst he; exact .inr (.inr (.inr (.inl ⟨f, rfl⟩))))
theorem SimS.shapeIs {r : Nat} {k : Option (TypeId × Nat) → Sem α} (hs : ∀ x y, x.isSome = y.isSome → k x = k y) (hk : ∀ x, SimS U P (k x)) : SimS U P (.shape r k) := by
  intro S u w es h
  simp only [Sem.run, Sem.runT]
  rw [hs _ _ (h.shape_is r)]
  exact hk _ S u w es h
theorem SimS.shapeElem {r : Nat} {k : Option (TypeId × Nat) → Sem α} (hs : ∀ x y : Option (TypeId × Nat), x.map (·.1) = y.map (·.1) → k x = k y) (hk : ∀ x, SimS U P (k x)) : SimS U P (.shape r k) := by
  intro S u w es h
  simp only [Sem.run, Sem.runT]
  rw [hs _ _ (h.shape_elem r)]
  exact hk _ S u w es h
theorem SimS.getObj {r : Nat} {k : Obj → Sem α} (hs : ∀ o o', Alike o o' → k o = k o') (hk : ∀ o, SimS U P (k o)) : SimS U P (.getObj r k) := by
  intro S u w es h
  have key : ∀ o o', u.heap[r]? = some o → w.heap[r]? = some o' → k o = k o' → (∀ c t f, o ≠ .cells c t f) → (∀ c t f, o' ≠ .cells c t f) → SimOut S u.heap.size ((k o).run U u) ((k o').runT P w (es.push ⟨.obj r, false, o'.isChan⟩)) es := by
    intro o o' h1 h2 he _ _
    rw [← he, push_app]
    refine (hk o S u w _ h).more (Nat.le_refl _) (fun e hx => ?_)
    simp at hx; subst hx
    exact .inr (.inl ⟨r, _, rfl, (Array.getElem?_eq_some_iff.1 h1).1⟩)
  simp only [Sem.run, Sem.runT]
  cases hu : u.heap[r]? with
  | none => exact fun _ => .inl trivial
  | some o =>
    by_cases hS : S r
    · obtain ⟨o1, o2, h1, h2, h3⟩ := h.ins r hS
      rw [hu] at h1; injection h1 with h1; subst h1
      cases h3 with
      | hid => exact fun _ => .inl trivial
      | chan => rw [h2]; exact key _ _ hu h2 (hs _ _ (.chan _ _ _ _ _ _)) (by simp) (by simp)
      | view => rw [h2]; exact key _ _ hu h2 (hs _ _ (.view _ _ _ _)) (by simp) (by simp)
      | loop => rw [h2]; exact key _ _ hu h2 (hs _ _ (.loop _)) (by simp) (by simp)
      | defd => rw [h2]; exact key _ _ hu h2 (hs _ _ (.defd _)) (by simp) (by simp)
    · have h2 : w.heap[r]? = some o := by rw [← h.out r hS]; exact hu
      rw [h2]
      cases o with
      | cells => exact fun _ => .inl trivial
      | _ => exact key _ _ hu h2 rfl (by simp) (by simp)
end
end Go.Proofs.YtemgilofjbnoaaaGreatDoor
namespace Go.Proofs.YtemgilofjbnoaaaGreatDoor
open Go Go.Conc
set_option linter.unusedVariables false
set_option linter.unusedSimpArgs false
section
variable {P : Program} {F : Array Func} {α β : Type}
abbrev PF (P : Program) (F : Array Func) : Program := { P with funcs := F }
theorem sims_pureM {U P : Program} (a : α) : SimS U P (pure a : Sem α) := SimS.pure a
theorem sims_stuck {U P : Program} (x : String) : SimS U P (stuck x : Sem α) := SimS.halt _ (.inl trivial)
theorem sims_unsup {U P : Program} (x : Unsupported) : SimS U P (unsupported x : Sem α) := SimS.halt _ (.inl trivial)
theorem sims_goPanic {U P : Program} (x : Value) : SimS U P (goPanic x : Sem α) := SimS.halt _ (.inr ⟨_, rfl⟩)
theorem sims_bindM {U P : Program} {s : Sem α} {f : α → Sem β} (hs : SimS U P s) (hf : ∀ a, SimS U P (f a)) : SimS U P (s >>= f) := SimS.bind hs hf
theorem sims_mapM {U P : Program} {s : Sem α} {f : α → β} (hs : SimS U P s) : SimS U P (Functor.map f s) := SimS.bind hs (fun a => SimS.pure (f a))
theorem sims_prog {f : Program → Sem β} (he : f (PF P F) = f P) (hk : SimS (PF P F) P (f P)) : SimS (PF P F) P (program >>= f) := SimS.program he hk
theorem sims_ite {U P : Program} {c : Prop} [Decidable c] {A B : Sem α} (hA : SimS U P A) (hB : SimS U P B) : SimS U P (if c then A else B) := by split <;> assumption
theorem sims_load1 {U P : Program} (a : Addr) : SimS U P (load a) := SimS.load (fun v => SimS.pure v)
theorem sims_store1 {U P : Program} (a : Addr) (v : Value) : SimS U P (store a v) := SimS.store (SimS.pure _)
theorem sims_new1 {U P : Program} (cs : Array Value) (t : TypeId) : SimS U P (newObj (.cells cs t)) := SimS.new rfl (fun v => SimS.pure v)
theorem sims_choose1 {U P : Program} (q : Question) : SimS U P (choose q) := SimS.choose (fun v => SimS.pure v)
theorem sims_frozen1 {U P : Program} (a : Addr) : SimS U P (frozen a) := SimS.frozen (fun v => SimS.pure v)
theorem sims_noRoom1 {U P : Program} : SimS U P (mark .noRoom) := SimS.noRoom (SimS.pure _)
theorem sim_typeInfo (t : TypeId) : SimS (PF P F) P (typeInfo t) := by
  unfold typeInfo
  repeat' (first
    | with_reducible exact sims_pureM _ | with_reducible exact sims_stuck _ | with_reducible exact sims_unsup _ | with_reducible exact sims_goPanic _
    | with_reducible exact sims_mapM (sims_choose1 _)
    | ((with_reducible refine sims_prog ?_ ?_); (next => rfl))
    | with_reducible refine sims_bindM ?_ (fun _ => ?_)
    | with_reducible refine sims_ite ?_ ?_
    | (dsimp only; done) | dsimp only
    | split
    | (show ∀ _, SimS _ _ _; intro _))
theorem sim_underlying (t : TypeId) : SimS (PF P F) P (underlying t) := by
  unfold underlying
  repeat' (first
    | with_reducible exact sims_pureM _ | with_reducible exact sims_stuck _ | with_reducible exact sims_unsup _ | with_reducible exact sims_goPanic _
    | with_reducible exact sims_mapM (sims_choose1 _)
    | ((with_reducible refine sims_prog ?_ ?_); (next => rfl))
    | with_reducible refine sims_bindM ?_ (fun _ => ?_)
    | with_reducible refine sims_ite ?_ ?_
    | (dsimp only; done) | dsimp only
    | split
    | (show ∀ _, SimS _ _ _; intro _))
theorem sim_sizeOf (t : TypeId) : SimS (PF P F) P (sizeOf t) := by
  unfold Go.sizeOf
  repeat' (first
    | with_reducible exact sims_pureM _ | with_reducible exact sims_stuck _ | with_reducible exact sims_unsup _ | with_reducible exact sims_goPanic _
    | with_reducible exact sims_mapM (sims_choose1 _)
    | with_reducible exact sim_typeInfo _
    | ((with_reducible refine sims_prog ?_ ?_); (next => rfl))
    | with_reducible refine sims_bindM ?_ (fun _ => ?_)
    | with_reducible refine sims_ite ?_ ?_
    | (dsimp only; done) | dsimp only
    | split
    | (show ∀ _, SimS _ _ _; intro _))
theorem sim_isAgg (t : TypeId) : SimS (PF P F) P (isAgg t) := by
  unfold isAgg
  repeat' (first
    | with_reducible exact sims_pureM _ | with_reducible exact sims_stuck _ | with_reducible exact sims_unsup _ | with_reducible exact sims_goPanic _
    | with_reducible exact sims_mapM (sims_choose1 _)
    | with_reducible exact sim_underlying _
    | ((with_reducible refine sims_prog ?_ ?_); (next => rfl))
    | with_reducible refine sims_bindM ?_ (fun _ => ?_)
    | with_reducible refine sims_ite ?_ ?_
    | (dsimp only; done) | dsimp only
    | split
    | (show ∀ _, SimS _ _ _; intro _))
theorem sim_zeroValue (t : TypeId) : SimS (PF P F) P (zeroValue t) := by
  unfold zeroValue
  repeat' (first
    | with_reducible exact sims_pureM _ | with_reducible exact sims_stuck _ | with_reducible exact sims_unsup _ | with_reducible exact sims_goPanic _
    | with_reducible exact sims_mapM (sims_choose1 _)
    | with_reducible exact sim_typeInfo _
    | ((with_reducible refine sims_prog ?_ ?_); (next => rfl))
    | with_reducible refine sims_bindM ?_ (fun _ => ?_)
    | with_reducible refine sims_ite ?_ ?_
    | (dsimp only; done) | dsimp only
    | split
    | (show ∀ _, SimS _ _ _; intro _))
theorem sim_elemOf (t : TypeId) : SimS (PF P F) P (elemOf t) := by
  unfold elemOf
  repeat' (first
    | with_reducible exact sims_pureM _ | with_reducible exact sims_stuck _ | with_reducible exact sims_unsup _ | with_reducible exact sims_goPanic _
    | with_reducible exact sims_mapM (sims_choose1 _)
    | with_reducible exact sim_underlying _
    | ((with_reducible refine sims_prog ?_ ?_); (next => rfl))
    | with_reducible refine sims_bindM ?_ (fun _ => ?_)
    | with_reducible refine sims_ite ?_ ?_
    | (dsimp only; done) | dsimp only
    | split
    | (show ∀ _, SimS _ _ _; intro _))
theorem sim_newRow (t : TypeId) (cs : Array Value) : SimS (PF P F) P (newRow t cs) := by
  unfold newRow
  repeat' (first
    | with_reducible exact sims_pureM _ | with_reducible exact sims_stuck _ | with_reducible exact sims_unsup _ | with_reducible exact sims_goPanic _
    | with_reducible exact sims_new1 _ _
    | with_reducible exact sims_mapM (sims_choose1 _)
    | ((with_reducible refine sims_prog ?_ ?_); (next => rfl))
    | with_reducible refine sims_bindM ?_ (fun _ => ?_)
    | with_reducible refine sims_ite ?_ ?_
    | (dsimp only; done) | dsimp only
    | split
    | (show ∀ _, SimS _ _ _; intro _))
theorem sim_newVar (t : TypeId) (v : Value) : SimS (PF P F) P (newVar t v) := by
  unfold newVar
  repeat' (first
    | with_reducible exact sims_pureM _ | with_reducible exact sims_stuck _ | with_reducible exact sims_unsup _ | with_reducible exact sims_goPanic _
    | with_reducible exact sims_mapM (sims_choose1 _)
    | with_reducible exact sim_newRow _ _
    | ((with_reducible refine sims_prog ?_ ?_); (next => rfl))
    | with_reducible refine sims_bindM ?_ (fun _ => ?_)
    | with_reducible refine sims_ite ?_ ?_
    | (dsimp only; done) | dsimp only
    | split
    | (show ∀ _, SimS _ _ _; intro _))
theorem sim_askRoom (n : Nat) : SimS (PF P F) P (askRoom n) := by
  unfold askRoom
  repeat' (first
    | with_reducible exact sims_pureM _ | with_reducible exact sims_stuck _ | with_reducible exact sims_unsup _ | with_reducible exact sims_goPanic _
    | with_reducible exact sims_noRoom1
    | with_reducible exact sims_mapM (sims_choose1 _)
    | ((with_reducible refine sims_prog ?_ ?_); (next => rfl))
    | with_reducible refine sims_bindM ?_ (fun _ => ?_)
    | with_reducible refine sims_ite ?_ ?_
    | (dsimp only; done) | dsimp only
    | split
    | (show ∀ _, SimS _ _ _; intro _))
theorem sim_part (t : TypeId) (cs : Array Value) (n : Nat) : SimS (PF P F) P (part t cs n) := by
  unfold part
  repeat' (first
    | with_reducible exact sims_pureM _ | with_reducible exact sims_stuck _ | with_reducible exact sims_unsup _ | with_reducible exact sims_goPanic _
    | with_reducible exact sims_mapM (sims_choose1 _)
    | with_reducible exact sim_sizeOf _
    | with_reducible exact sim_isAgg _
    | ((with_reducible refine sims_prog ?_ ?_); (next => rfl))
    | with_reducible refine sims_bindM ?_ (fun _ => ?_)
    | with_reducible refine sims_ite ?_ ?_
    | (dsimp only; done) | dsimp only
    | split
    | (show ∀ _, SimS _ _ _; intro _))
theorem sim_runtimePanic (e : RuntimeError) : SimS (PF P F) P ((runtimePanic e : Sem α)) := by
  unfold runtimePanic
  repeat' (first
    | with_reducible exact sims_pureM _ | with_reducible exact sims_stuck _ | with_reducible exact sims_unsup _ | with_reducible exact sims_goPanic _
    | with_reducible exact sims_mapM (sims_choose1 _)
    | with_reducible exact sim_elemOf _
    | with_reducible exact sim_newVar _ _
    | ((with_reducible refine sims_prog ?_ ?_); (next => rfl))
    | with_reducible refine sims_bindM ?_ (fun _ => ?_)
    | with_reducible refine sims_ite ?_ ?_
    | (dsimp only; done) | dsimp only
    | split
    | (show ∀ _, SimS _ _ _; intro _))
theorem sim_boundsPanic (k : IntKind) (x y : Int) (c : BoundsCode) : SimS (PF P F) P ((boundsPanic k x y c : Sem α)) := by
  unfold boundsPanic
  repeat' (first
    | with_reducible exact sims_pureM _ | with_reducible exact sims_stuck _ | with_reducible exact sims_unsup _ | with_reducible exact sims_goPanic _
    | with_reducible exact sims_choose1 _
    | with_reducible exact sims_mapM (sims_choose1 _)
    | with_reducible exact sim_runtimePanic _
    | ((with_reducible refine sims_prog ?_ ?_); (next => rfl))
    | with_reducible refine sims_bindM ?_ (fun _ => ?_)
    | with_reducible refine sims_ite ?_ ?_
    | (dsimp only; done) | dsimp only
    | split
    | (show ∀ _, SimS _ _ _; intro _))
theorem sim_asIntOf (v : Value) : SimS (PF P F) P (asIntOf v) := by
  unfold asIntOf
  repeat' (first
    | with_reducible exact sims_pureM _ | with_reducible exact sims_stuck _ | with_reducible exact sims_unsup _ | with_reducible exact sims_goPanic _
    | with_reducible exact sims_mapM (sims_choose1 _)
    | ((with_reducible refine sims_prog ?_ ?_); (next => rfl))
    | with_reducible refine sims_bindM ?_ (fun _ => ?_)
    | with_reducible refine sims_ite ?_ ?_
    | (dsimp only; done) | dsimp only
    | split
    | (show ∀ _, SimS _ _ _; intro _))
theorem sim_asInt (v : Value) : SimS (PF P F) P (asInt v) := by
  unfold asInt
  repeat' (first
    | with_reducible exact sims_pureM _ | with_reducible exact sims_stuck _ | with_reducible exact sims_unsup _ | with_reducible exact sims_goPanic _
    | with_reducible exact sims_mapM (sims_choose1 _)
    | with_reducible exact sim_asIntOf _
    | ((with_reducible refine sims_prog ?_ ?_); (next => rfl))
    | with_reducible refine sims_bindM ?_ (fun _ => ?_)
    | with_reducible refine sims_ite ?_ ?_
    | (dsimp only; done) | dsimp only
    | split
    | (show ∀ _, SimS _ _ _; intro _))
theorem sim_asBool (v : Value) : SimS (PF P F) P (asBool v) := by
  unfold asBool
  repeat' (first
    | with_reducible exact sims_pureM _ | with_reducible exact sims_stuck _ | with_reducible exact sims_unsup _ | with_reducible exact sims_goPanic _
    | with_reducible exact sims_mapM (sims_choose1 _)
    | ((with_reducible refine sims_prog ?_ ?_); (next => rfl))
    | with_reducible refine sims_bindM ?_ (fun _ => ?_)
    | with_reducible refine sims_ite ?_ ?_
    | (dsimp only; done) | dsimp only
    | split
    | (show ∀ _, SimS _ _ _; intro _))
theorem sim_asAgg (v : Value) : SimS (PF P F) P (asAgg v) := by
  unfold asAgg
  repeat' (first
    | with_reducible exact sims_pureM _ | with_reducible exact sims_stuck _ | with_reducible exact sims_unsup _ | with_reducible exact sims_goPanic _
    | with_reducible exact sims_mapM (sims_choose1 _)
    | ((with_reducible refine sims_prog ?_ ?_); (next => rfl))
    | with_reducible refine sims_bindM ?_ (fun _ => ?_)
    | with_reducible refine sims_ite ?_ ?_
    | (dsimp only; done) | dsimp only
    | split
    | (show ∀ _, SimS _ _ _; intro _))
theorem sim_asAddr (v : Value) : SimS (PF P F) P (asAddr v) := by
  unfold asAddr
  repeat' (first
    | with_reducible exact sims_pureM _ | with_reducible exact sims_stuck _ | with_reducible exact sims_unsup _ | with_reducible exact sims_goPanic _
    | with_reducible exact sims_mapM (sims_choose1 _)
    | with_reducible exact sim_runtimePanic _
    | ((with_reducible refine sims_prog ?_ ?_); (next => rfl))
    | with_reducible refine sims_bindM ?_ (fun _ => ?_)
    | with_reducible refine sims_ite ?_ ?_
    | (dsimp only; done) | dsimp only
    | split
    | (show ∀ _, SimS _ _ _; intro _))
theorem sim_sureAddr (v : Value) : SimS (PF P F) P (Instr.sureAddr v) := by
  unfold Instr.sureAddr
  repeat' (first
    | with_reducible exact sims_pureM _ | with_reducible exact sims_stuck _ | with_reducible exact sims_unsup _ | with_reducible exact sims_goPanic _
    | with_reducible exact sims_mapM (sims_choose1 _)
    | ((with_reducible refine sims_prog ?_ ?_); (next => rfl))
    | with_reducible refine sims_bindM ?_ (fun _ => ?_)
    | with_reducible refine sims_ite ?_ ?_
    | (dsimp only; done) | dsimp only
    | split
    | (show ∀ _, SimS _ _ _; intro _))
theorem sim_loadCellsFrom (a : Addr) (n : Nat) : ∀ (i : Nat) (acc : Array Value), SimS (PF P F) P (loadCellsFrom a i n acc) := by
  induction n with
  | zero => intro i acc; exact SimS.pure _
  | succ n ih => intro i acc; unfold loadCellsFrom; exact sims_bindM (sims_load1 _) (fun v => ih _ _)
theorem sim_storeCells (a : Addr) (vs : List Value) : ∀ (i : Nat), SimS (PF P F) P (storeCells a vs i) := by
  induction vs with
  | nil => intro i; exact SimS.pure _
  | cons v vs ih => intro i; unfold storeCells; exact sims_bindM (sims_store1 _ _) (fun _ => ih _)
theorem sim_loadCells (a : Addr) (n : Nat) : SimS (PF P F) P (loadCells a n) := by
  unfold loadCells
  repeat' (first
    | with_reducible exact sims_pureM _ | with_reducible exact sims_stuck _ | with_reducible exact sims_unsup _ | with_reducible exact sims_goPanic _
    | with_reducible exact sims_mapM (sims_choose1 _)
    | with_reducible exact sim_loadCellsFrom _ _ _ _
    | ((with_reducible refine sims_prog ?_ ?_); (next => rfl))
    | with_reducible refine sims_bindM ?_ (fun _ => ?_)
    | with_reducible refine sims_ite ?_ ?_
    | (dsimp only; done) | dsimp only
    | split
    | (show ∀ _, SimS _ _ _; intro _))
theorem sim_loadVar (t : TypeId) (a : Addr) : SimS (PF P F) P (loadVar t a) := by
  unfold loadVar
  repeat' (first
    | with_reducible exact sims_pureM _ | with_reducible exact sims_stuck _ | with_reducible exact sims_unsup _ | with_reducible exact sims_goPanic _
    | with_reducible exact sims_load1 _
    | with_reducible exact sims_mapM (sims_choose1 _)
    | with_reducible exact sim_sizeOf _
    | with_reducible exact sim_isAgg _
    | with_reducible exact sim_loadCells _ _
    | ((with_reducible refine sims_prog ?_ ?_); (next => rfl))
    | with_reducible refine sims_bindM ?_ (fun _ => ?_)
    | with_reducible refine sims_ite ?_ ?_
    | (dsimp only; done) | dsimp only
    | split
    | (show ∀ _, SimS _ _ _; intro _))
theorem sim_storeVar (t : TypeId) (a : Addr) (v : Value) : SimS (PF P F) P (storeVar t a v) := by
  unfold storeVar
  repeat' (first
    | with_reducible exact sims_pureM _ | with_reducible exact sims_stuck _ | with_reducible exact sims_unsup _ | with_reducible exact sims_goPanic _
    | with_reducible exact sims_mapM (sims_choose1 _)
    | with_reducible exact sim_sizeOf _
    | with_reducible exact sim_storeCells _ _ _
    | ((with_reducible refine sims_prog ?_ ?_); (next => rfl))
    | with_reducible refine sims_bindM ?_ (fun _ => ?_)
    | with_reducible refine sims_ite ?_ ?_
    | (dsimp only; done) | dsimp only
    | split
    | (show ∀ _, SimS _ _ _; intro _))
theorem sim_shapeIs {f : Option (TypeId × Nat) → Sem β} (hs : ∀ x y, x.isSome = y.isSome → f x = f y) (hk : ∀ x, SimS (PF P F) P (f x)) (r : Nat) : SimS (PF P F) P (shape r >>= f) := SimS.shapeIs hs hk
theorem sim_shapeElem {f : Option (TypeId × Nat) → Sem β} (hs : ∀ x y : Option (TypeId × Nat), x.map (·.1) = y.map (·.1) → f x = f y) (hk : ∀ x, SimS (PF P F) P (f x)) (r : Nat) : SimS (PF P F) P (shape r >>= f) := SimS.shapeElem hs hk
theorem sim_getObj {f : Obj → Sem β} (hs : ∀ o o', Alike o o' → f o = f o') (hk : ∀ o, SimS (PF P F) P (f o)) (r : Nat) : SimS (PF P F) P (getObj r >>= f) := SimS.getObj hs hk
theorem sim_numberAt (r : Nat) : SimS (PF P F) P (numberAt r) := by
  unfold numberAt
  refine sim_shapeIs (fun x y h => by rw [h]) (fun x => ?_) r
  split
  · exact sims_pureM _
  · refine sim_getObj (fun o o' h => by cases h <;> rfl) (fun o => ?_) r
    split <;> exact sims_pureM _
theorem sim_behindNumber (n : Addr) : SimS (PF P F) P (behindNumber n) := by
  unfold behindNumber
  exact sims_bindM (sim_numberAt _) (fun _ => sims_pureM _)
theorem viewAt_is (r : Nat) (f : Bool → Sem β) : (viewAt r).bind (fun x => f x.isSome) = Sem.shape r (fun s => if s.isSome then f false else Sem.getObj r (fun o => match o with | .view _ _ => f true | _ => f false)) := by
  show Sem.shape r _ = _
  congr 1
  funext s
  cases s with
  | some x => rfl
  | none =>
    show Sem.getObj r _ = Sem.getObj r _
    congr 1
    funext o
    cases o <;> rfl
theorem sim_viewAtIs (r : Nat) {f : Bool → Sem β} (hf : ∀ b, SimS (PF P F) P (f b)) : SimS (PF P F) P ((viewAt r).bind fun x => f x.isSome) := by
  rw [viewAt_is]
  refine SimS.shapeIs (fun x y h => by rw [h]) (fun x => ?_)
  split
  · exact hf _
  · refine SimS.getObj (fun o o' h => by cases h <;> rfl) (fun o => ?_)
    cases o <;> exact hf _
theorem sim_noView (a : Addr) : SimS (PF P F) P (noView a) :=
  sim_viewAtIs (f := fun b => if b = true then unsupported (.unsafePointer "memory seen as another type") else pure ()) a.block (fun b => by cases b <;> first | exact sims_unsup _ | exact sims_pureM _)
def strAt (v : World) (a : Addr) : Bool := v.frozen? a || (match v.shape? a.block with | some (_, n) => v.frozen? { block := a.block, off := n } | none => false)
def noneAt (v : World) (a : Addr) : Bool := match v.shape? a.block with | some (_, 0) => true | _ => false
def mb (v : World) (a b : Addr) : Bool := (strAt v a && strAt v b) || (strAt v a && noneAt v a) || (strAt v b && noneAt v b)
theorem stringish_runT (Q : Program) (v : World) (es : Array Event) (a : Addr) : (stringish a).runT Q v es = (.ok (strAt v a) v, es) := by
  unfold stringish strAt
  show (Sem.runT Q (Sem.frozen a _) v es) = _
  simp only [Sem.runT]
  cases hf : v.frozen? a with
  | true => rfl
  | false =>
    show (Sem.runT Q (Sem.shape a.block _) v es) = _
    simp only [Sem.runT]
    cases hs : v.shape? a.block with
    | none => rfl
    | some x => obtain ⟨e, n⟩ := x; rfl
theorem mayBeOne_runT (Q : Program) (v : World) (es : Array Event) (a b : Addr) : (mayBeOne a b).runT Q v es = (.ok (mb v a b) v, es) := by
  unfold mayBeOne
  show (Sem.runT Q (Sem.bind (stringish a) _) v es) = _
  rw [Sem.runT_bind', stringish_runT]
  show (Sem.runT Q (Sem.bind (stringish b) _) v es) = _
  rw [Sem.runT_bind', stringish_runT]
  show (Sem.runT Q (Sem.shape a.block _) v es) = _
  simp only [Sem.runT]
  show (Sem.runT Q (Sem.shape b.block _) v es) = _
  simp only [Sem.runT]
  unfold mb noneAt
  rfl
theorem sim_mayBeOne (a b : Addr) : SimS (PF P F) P (mayBeOne a b) := by
  intro S u w es h
  have e1 := mayBeOne_runT (PF P F) u #[] a b
  have e2 := mayBeOne_runT P w es a b
  have e3 : (mayBeOne a b).run (PF P F) u = .ok (mb u a b) u := by rw [← Sem.runT_fst (PF P F) _ u #[], e1]
  have str : ∀ c : Addr, strAt w c = strAt u c := fun c => by
    unfold strAt
    by_cases hc : S c.block
    · have f1 := h.free_in hc
      have f2 := h.frozen c
      rw [f1] at f2 ⊢
      rw [← f2]
      have g : ∀ o : Addr, o.block = c.block → w.frozen? o = false ∧ u.frozen? o = false := fun o ho => by
        have := h.free_in (a := o) (by rw [ho]; exact hc)
        exact ⟨this, by rw [← h.frozen]; exact this⟩
      have x1 : ∀ x : Option (TypeId × Nat), (match x with | some (_, n) => w.frozen? { block := c.block, off := n } | none => false) = false := fun x => by
        cases x with
        | none => rfl
        | some x => exact (g ⟨c.block, x.2, none⟩ rfl).1
      have x2 : ∀ x : Option (TypeId × Nat), (match x with | some (_, n) => u.frozen? { block := c.block, off := n } | none => false) = false := fun x => by
        cases x with
        | none => rfl
        | some x => exact (g ⟨c.block, x.2, none⟩ rfl).2
      rw [x1, x2]
    · rw [h.shape_out hc, h.frozen]
      cases u.shape? c.block with
      | none => rfl
      | some x => simp only [h.frozen]
  have inn : ∀ c : Addr, S c.block → strAt u c = false := fun c hc => by
    rw [← str]
    unfold strAt
    rw [h.free_in hc]
    cases w.shape? c.block with
    | none => rfl
    | some x => simp only [Bool.false_or]; exact h.free_in (a := ⟨c.block, x.2, none⟩) hc
  have one : ∀ c : Addr, (strAt w c && noneAt w c) = (strAt u c && noneAt u c) := fun c => by
    rw [str]
    by_cases hc : S c.block
    · rw [inn c hc]; rfl
    · unfold noneAt; rw [h.shape_out hc]
  have e4 : mb w a b = mb u a b := by unfold mb; rw [one, one, str, str]
  rw [e3, e2, e4]
  exact fun _ => ⟨w, #[], by simp, h, Nat.le_refl _, fun e he => by simp at he⟩
theorem sim_sameAddr (a b : Addr) : SimS (PF P F) P (sameAddr a b) := by
  unfold sameAddr
  repeat' (first
    | with_reducible exact sims_pureM _ | with_reducible exact sims_stuck _ | with_reducible exact sims_unsup _ | with_reducible exact sims_goPanic _
    | with_reducible exact sims_choose1 _
    | with_reducible exact sims_frozen1 _
    | with_reducible exact sims_mapM (sims_choose1 _)
    | with_reducible exact sim_noView _
    | with_reducible exact sim_mayBeOne _ _
    | ((with_reducible refine sims_prog ?_ ?_); (next => rfl))
    | with_reducible refine sims_bindM ?_ (fun _ => ?_)
    | with_reducible refine sims_ite ?_ ?_
    | (dsimp only; done) | dsimp only
    | split
    | (show ∀ _, SimS _ _ _; intro _))
theorem sim_samePointer (a b : Option Addr) : SimS (PF P F) P (samePointer a b) := by
  unfold samePointer
  repeat' (first
    | with_reducible exact sims_pureM _ | with_reducible exact sims_stuck _ | with_reducible exact sims_unsup _ | with_reducible exact sims_goPanic _
    | with_reducible exact sims_mapM (sims_choose1 _)
    | with_reducible exact sim_sameAddr _ _
    | ((with_reducible refine sims_prog ?_ ?_); (next => rfl))
    | with_reducible refine sims_bindM ?_ (fun _ => ?_)
    | with_reducible refine sims_ite ?_ ?_
    | (dsimp only; done) | dsimp only
    | split
    | (show ∀ _, SimS _ _ _; intro _))
theorem sim_intArith (op : BinOp) (k : IntKind) (x y : Int) : SimS (PF P F) P (Op.intArith op k x y) := by
  unfold Op.intArith
  repeat' (first
    | with_reducible exact sims_pureM _ | with_reducible exact sims_stuck _ | with_reducible exact sims_unsup _ | with_reducible exact sims_goPanic _
    | with_reducible exact sims_mapM (sims_choose1 _)
    | ((with_reducible refine sims_prog ?_ ?_); (next => rfl))
    | with_reducible refine sims_bindM ?_ (fun _ => ?_)
    | with_reducible refine sims_ite ?_ ?_
    | (dsimp only; done) | dsimp only
    | split
    | (show ∀ _, SimS _ _ _; intro _))
theorem sim_intDiv (op : BinOp) (k : IntKind) (x y : Int) : SimS (PF P F) P (Op.intDiv op k x y) := by
  unfold Op.intDiv
  repeat' (first
    | with_reducible exact sims_pureM _ | with_reducible exact sims_stuck _ | with_reducible exact sims_unsup _ | with_reducible exact sims_goPanic _
    | with_reducible exact sims_mapM (sims_choose1 _)
    | with_reducible exact sim_runtimePanic _
    | ((with_reducible refine sims_prog ?_ ?_); (next => rfl))
    | with_reducible refine sims_bindM ?_ (fun _ => ?_)
    | with_reducible refine sims_ite ?_ ?_
    | (dsimp only; done) | dsimp only
    | split
    | (show ∀ _, SimS _ _ _; intro _))
theorem sim_intBits (op : BinOp) (k : IntKind) (x y : Int) : SimS (PF P F) P (Op.intBits op k x y) := by
  unfold Op.intBits
  simp only []
  repeat' (first
    | with_reducible exact sims_pureM _ | with_reducible exact sims_stuck _ | with_reducible exact sims_unsup _ | with_reducible exact sims_goPanic _
    | with_reducible exact sims_mapM (sims_choose1 _)
    | ((with_reducible refine sims_prog ?_ ?_); (next => rfl))
    | with_reducible refine sims_bindM ?_ (fun _ => ?_)
    | with_reducible refine sims_ite ?_ ?_
    | (dsimp only; done) | dsimp only
    | split
    | (show ∀ _, SimS _ _ _; intro _))
theorem sim_shift (op : BinOp) (k : IntKind) (x : Int) (yk : IntKind) (y : Int) : SimS (PF P F) P (Op.shift op k x yk y) := by
  unfold Op.shift
  simp only []
  repeat' (first
    | with_reducible exact sims_pureM _ | with_reducible exact sims_stuck _ | with_reducible exact sims_unsup _ | with_reducible exact sims_goPanic _
    | with_reducible exact sims_mapM (sims_choose1 _)
    | with_reducible exact sim_runtimePanic _
    | ((with_reducible refine sims_prog ?_ ?_); (next => rfl))
    | with_reducible refine sims_bindM ?_ (fun _ => ?_)
    | with_reducible refine sims_ite ?_ ?_
    | (dsimp only; done) | dsimp only
    | split
    | (show ∀ _, SimS _ _ _; intro _))
theorem sim_intCmp (op : BinOp) (x y : Int) : SimS (PF P F) P (Op.intCmp op x y) := by
  unfold Op.intCmp
  repeat' (first
    | with_reducible exact sims_pureM _ | with_reducible exact sims_stuck _ | with_reducible exact sims_unsup _ | with_reducible exact sims_goPanic _
    | with_reducible exact sims_mapM (sims_choose1 _)
    | ((with_reducible refine sims_prog ?_ ?_); (next => rfl))
    | with_reducible refine sims_bindM ?_ (fun _ => ?_)
    | with_reducible refine sims_ite ?_ ?_
    | (dsimp only; done) | dsimp only
    | split
    | (show ∀ _, SimS _ _ _; intro _))
theorem sim_floatArith (op : BinOp) (k : FloatKind) (x y : Nat) : SimS (PF P F) P (Op.floatArith op k x y) := by
  unfold Op.floatArith
  repeat' (first
    | with_reducible exact sims_pureM _ | with_reducible exact sims_stuck _ | with_reducible exact sims_unsup _ | with_reducible exact sims_goPanic _
    | with_reducible exact sims_choose1 _
    | with_reducible exact sims_mapM (sims_choose1 _)
    | ((with_reducible refine sims_prog ?_ ?_); (next => rfl))
    | with_reducible refine sims_bindM ?_ (fun _ => ?_)
    | with_reducible refine sims_ite ?_ ?_
    | (dsimp only; done) | dsimp only
    | split
    | (show ∀ _, SimS _ _ _; intro _))
theorem sim_floatCmp (op : BinOp) (k : FloatKind) (x y : Nat) : SimS (PF P F) P (Op.floatCmp op k x y) := by
  unfold Op.floatCmp
  simp only []
  repeat' (first
    | with_reducible exact sims_pureM _ | with_reducible exact sims_stuck _ | with_reducible exact sims_unsup _ | with_reducible exact sims_goPanic _
    | with_reducible exact sims_mapM (sims_choose1 _)
    | ((with_reducible refine sims_prog ?_ ?_); (next => rfl))
    | with_reducible refine sims_bindM ?_ (fun _ => ?_)
    | with_reducible refine sims_ite ?_ ?_
    | (dsimp only; done) | dsimp only
    | split
    | (show ∀ _, SimS _ _ _; intro _))
theorem sim_floatToFloat (s : FloatKind) (b : Nat) (d : FloatKind) : SimS (PF P F) P (Conv.floatToFloat s b d) := by
  unfold Conv.floatToFloat
  repeat' (first
    | with_reducible exact sims_pureM _ | with_reducible exact sims_stuck _ | with_reducible exact sims_unsup _ | with_reducible exact sims_goPanic _
    | with_reducible exact sims_choose1 _
    | with_reducible exact sims_mapM (sims_choose1 _)
    | ((with_reducible refine sims_prog ?_ ?_); (next => rfl))
    | with_reducible refine sims_bindM ?_ (fun _ => ?_)
    | with_reducible refine sims_ite ?_ ?_
    | (dsimp only; done) | dsimp only
    | split
    | (show ∀ _, SimS _ _ _; intro _))
theorem sim_floatToInt (s : FloatKind) (b : Nat) (d : IntKind) : SimS (PF P F) P (Conv.floatToInt s b d) := by
  unfold Conv.floatToInt
  repeat' (first
    | with_reducible exact sims_pureM _ | with_reducible exact sims_stuck _ | with_reducible exact sims_unsup _ | with_reducible exact sims_goPanic _
    | with_reducible exact sims_choose1 _
    | with_reducible exact sims_mapM (sims_choose1 _)
    | ((with_reducible refine sims_prog ?_ ?_); (next => rfl))
    | with_reducible refine sims_bindM ?_ (fun _ => ?_)
    | with_reducible refine sims_ite ?_ ?_
    | (dsimp only; done) | dsimp only
    | split
    | (show ∀ _, SimS _ _ _; intro _))
theorem sim_carith (op : BinOp) (k : FloatKind) (x y : Nat) : SimS (PF P F) P (Op.Complex.arith op k x y) := by
  unfold Op.Complex.arith
  repeat' (first
    | with_reducible exact sims_pureM _ | with_reducible exact sims_stuck _ | with_reducible exact sims_unsup _ | with_reducible exact sims_goPanic _
    | with_reducible exact sims_mapM (sims_choose1 _)
    | with_reducible exact sim_floatArith _ _ _ _
    | ((with_reducible refine sims_prog ?_ ?_); (next => rfl))
    | with_reducible refine sims_bindM ?_ (fun _ => ?_)
    | with_reducible refine sims_ite ?_ ?_
    | (dsimp only; done) | dsimp only
    | split
    | (show ∀ _, SimS _ _ _; intro _))
theorem sim_ccmp (op : BinOp) (k : FloatKind) (x y : Nat) : SimS (PF P F) P (Op.Complex.cmp op k x y) := by
  unfold Op.Complex.cmp
  repeat' (first
    | with_reducible exact sims_pureM _ | with_reducible exact sims_stuck _ | with_reducible exact sims_unsup _ | with_reducible exact sims_goPanic _
    | with_reducible exact sims_mapM (sims_choose1 _)
    | with_reducible exact sim_asBool _
    | with_reducible exact sim_floatCmp _ _ _ _
    | ((with_reducible refine sims_prog ?_ ?_); (next => rfl))
    | with_reducible refine sims_bindM ?_ (fun _ => ?_)
    | with_reducible refine sims_ite ?_ ?_
    | (dsimp only; done) | dsimp only
    | split
    | (show ∀ _, SimS _ _ _; intro _))
theorem sim_cconv (s : FloatKind) (x : Nat) (d : FloatKind) : SimS (PF P F) P (Op.Complex.conv s x d) := by
  unfold Op.Complex.conv
  repeat' (first
    | with_reducible exact sims_pureM _ | with_reducible exact sims_stuck _ | with_reducible exact sims_unsup _ | with_reducible exact sims_goPanic _
    | with_reducible exact sims_mapM (sims_choose1 _)
    | with_reducible exact sim_floatToFloat _ _ _
    | ((with_reducible refine sims_prog ?_ ?_); (next => rfl))
    | with_reducible refine sims_bindM ?_ (fun _ => ?_)
    | with_reducible refine sims_ite ?_ ?_
    | (dsimp only; done) | dsimp only
    | split
    | (show ∀ _, SimS _ _ _; intro _))
theorem sim_cadd (x y : Nat) : SimS (PF P F) P (Op.Complex.add x y) := sim_carith _ _ _ _
theorem sim_csub (x y : Nat) : SimS (PF P F) P (Op.Complex.sub x y) := sim_carith _ _ _ _
theorem sim_cmul (x y : Nat) : SimS (PF P F) P (Op.Complex.mul x y) := sim_carith _ _ _ _
theorem sim_cquo (x y : Nat) : SimS (PF P F) P (Op.Complex.quo x y) := sim_carith _ _ _ _
theorem sim_cproduct (a b c d : Nat) : SimS (PF P F) P (Op.Complex.product a b c d) := by
  unfold Op.Complex.product
  repeat' (first
    | with_reducible exact sims_pureM _ | with_reducible exact sims_stuck _ | with_reducible exact sims_unsup _ | with_reducible exact sims_goPanic _
    | with_reducible exact sims_mapM (sims_choose1 _)
    | with_reducible exact sim_cadd _ _
    | with_reducible exact sim_csub _ _
    | with_reducible exact sim_cmul _ _
    | ((with_reducible refine sims_prog ?_ ?_); (next => rfl))
    | with_reducible refine sims_bindM ?_ (fun _ => ?_)
    | with_reducible refine sims_ite ?_ ?_
    | (dsimp only; done) | dsimp only
    | split
    | (show ∀ _, SimS _ _ _; intro _))
theorem sim_ccorrected (s a b c d : Nat) : SimS (PF P F) P (Op.Complex.corrected s a b c d) := by
  unfold Op.Complex.corrected
  repeat' (first
    | with_reducible exact sims_pureM _ | with_reducible exact sims_stuck _ | with_reducible exact sims_unsup _ | with_reducible exact sims_goPanic _
    | with_reducible exact sims_mapM (sims_choose1 _)
    | with_reducible exact sim_cadd _ _
    | with_reducible exact sim_csub _ _
    | with_reducible exact sim_cmul _ _
    | ((with_reducible refine sims_prog ?_ ?_); (next => rfl))
    | with_reducible refine sims_bindM ?_ (fun _ => ?_)
    | with_reducible refine sims_ite ?_ ?_
    | (dsimp only; done) | dsimp only
    | split
    | (show ∀ _, SimS _ _ _; intro _))
theorem sim_cquotient (a b c d : Nat) : SimS (PF P F) P (Op.Complex.quotient a b c d) := by
  unfold Op.Complex.quotient
  repeat' (first
    | with_reducible exact sims_pureM _ | with_reducible exact sims_stuck _ | with_reducible exact sims_unsup _ | with_reducible exact sims_goPanic _
    | with_reducible exact sims_mapM (sims_choose1 _)
    | with_reducible exact sim_ccmp _ _ _ _
    | with_reducible exact sim_cadd _ _
    | with_reducible exact sim_csub _ _
    | with_reducible exact sim_cmul _ _
    | with_reducible exact sim_cquo _ _
    | with_reducible exact sim_ccorrected _ _ _ _ _
    | ((with_reducible refine sims_prog ?_ ?_); (next => rfl))
    | with_reducible refine sims_bindM ?_ (fun _ => ?_)
    | with_reducible refine sims_ite ?_ ?_
    | (dsimp only; done) | dsimp only
    | split
    | (show ∀ _, SimS _ _ _; intro _))
theorem sim_complexOp (op : BinOp) (k : FloatKind) (a b c d : Nat) : SimS (PF P F) P (Op.complexOp op k a b c d) := by
  unfold Op.complexOp
  repeat' (first
    | with_reducible exact sims_pureM _ | with_reducible exact sims_stuck _ | with_reducible exact sims_unsup _ | with_reducible exact sims_goPanic _
    | with_reducible exact sims_mapM (sims_choose1 _)
    | with_reducible exact sim_carith _ _ _ _
    | with_reducible exact sim_ccmp _ _ _ _
    | with_reducible exact sim_cconv _ _ _
    | with_reducible exact sim_cproduct _ _ _ _
    | with_reducible exact sim_cquotient _ _ _ _
    | ((with_reducible refine sims_prog ?_ ?_); (next => rfl))
    | with_reducible refine sims_bindM ?_ (fun _ => ?_)
    | with_reducible refine sims_ite ?_ ?_
    | (dsimp only; done) | dsimp only
    | split
    | (show ∀ _, SimS _ _ _; intro _))
theorem sim_stringOp (op : BinOp) (x y : ByteArray) : SimS (PF P F) P (Op.stringOp op x y) := by
  unfold Op.stringOp
  simp only []
  repeat' (first
    | with_reducible exact sims_pureM _ | with_reducible exact sims_stuck _ | with_reducible exact sims_unsup _ | with_reducible exact sims_goPanic _
    | with_reducible exact sims_mapM (sims_choose1 _)
    | ((with_reducible refine sims_prog ?_ ?_); (next => rfl))
    | with_reducible refine sims_bindM ?_ (fun _ => ?_)
    | with_reducible refine sims_ite ?_ ?_
    | (dsimp only; done) | dsimp only
    | split
    | (show ∀ _, SimS _ _ _; intro _))
theorem sim_unary (op : UnOp) (x : Value) : SimS (PF P F) P (Op.unary op x) := by
  unfold Op.unary
  repeat' (first
    | with_reducible exact sims_pureM _ | with_reducible exact sims_stuck _ | with_reducible exact sims_unsup _ | with_reducible exact sims_goPanic _
    | with_reducible exact sims_mapM (sims_choose1 _)
    | with_reducible exact sim_intArith _ _ _ _
    | with_reducible exact sim_intBits _ _ _ _
    | ((with_reducible refine sims_prog ?_ ?_); (next => rfl))
    | with_reducible refine sims_bindM ?_ (fun _ => ?_)
    | with_reducible refine sims_ite ?_ ?_
    | (dsimp only; done) | dsimp only
    | split
    | (show ∀ _, SimS _ _ _; intro _))
theorem byteOfCell_pf : ∀ (d : Nat) (t : TypeId) (off : Nat), byteOfCell (PF P F) d t off = byteOfCell P d t off := by
  intro d
  induction d with
  | zero => intro t off; rfl
  | succ d ih =>
    intro t off
    unfold byteOfCell
    simp only [ih]
    rfl
theorem cellOfByte_pf : ∀ (d : Nat) (t : TypeId) (off : Nat), cellOfByte (PF P F) d t off = cellOfByte P d t off := by
  intro d
  induction d with
  | zero => intro t off; rfl
  | succ d ih =>
    intro t off
    unfold cellOfByte
    simp only [ih]
    rfl
theorem cellAtBytes_pf (d : Nat) (e : TypeId) (count off : Nat) (bytes : Int) : cellAtBytes (PF P F) d e count off bytes = cellAtBytes P d e count off bytes := by
  unfold cellAtBytes
  simp only [byteOfCell_pf, cellOfByte_pf]
  rfl
theorem sim_byteOf (a : Addr) : SimS (PF P F) P (byteOf a) := by
  unfold byteOf
  split
  · exact sims_pureM _
  · refine sims_prog ?_ ?_
    · simp only [byteOfCell_pf]; rfl
    · refine sims_bindM (sim_noView _) (fun _ => ?_)
      refine sim_shapeElem (fun x y h => ?_) (fun x => ?_) _
      · cases x with
        | none => cases y with
          | none => rfl
          | some y => cases h
        | some x => cases y with
          | none => cases h
          | some y => obtain ⟨e, n⟩ := x; obtain ⟨e', n'⟩ := y; injection h with h; subst h; rfl
      · repeat' (first
    | with_reducible exact sims_pureM _ | with_reducible exact sims_stuck _ | with_reducible exact sims_unsup _ | with_reducible exact sims_goPanic _
    | with_reducible exact sims_mapM (sims_choose1 _)
    | with_reducible exact sim_noView _
    | ((with_reducible refine sims_prog ?_ ?_); (next => rfl))
    | with_reducible refine sims_bindM ?_ (fun _ => ?_)
    | with_reducible refine sims_ite ?_ ?_
    | (dsimp only; done) | dsimp only
    | split
    | (show ∀ _, SimS _ _ _; intro _))
theorem sim_partAt (a : Addr) (c b : Nat) : SimS (PF P F) P (partAt a c b) := by
  unfold partAt
  repeat' (first
    | with_reducible exact sims_pureM _ | with_reducible exact sims_stuck _ | with_reducible exact sims_unsup _ | with_reducible exact sims_goPanic _
    | with_reducible exact sims_mapM (sims_choose1 _)
    | with_reducible exact sim_byteOf _
    | ((with_reducible refine sims_prog ?_ ?_); (next => rfl))
    | with_reducible refine sims_bindM ?_ (fun _ => ?_)
    | with_reducible refine sims_ite ?_ ?_
    | (dsimp only; done) | dsimp only
    | split
    | (show ∀ _, SimS _ _ _; intro _))
theorem sim_fieldPlace (a : Addr) (f : Field) : SimS (PF P F) P (fieldPlace a f) := by
  unfold fieldPlace
  repeat' (first
    | with_reducible exact sims_pureM _ | with_reducible exact sims_stuck _ | with_reducible exact sims_unsup _ | with_reducible exact sims_goPanic _
    | with_reducible exact sims_mapM (sims_choose1 _)
    | with_reducible exact sim_sizeOf _
    | with_reducible exact sim_partAt _ _ _
    | ((with_reducible refine sims_prog ?_ ?_); (next => rfl))
    | with_reducible refine sims_bindM ?_ (fun _ => ?_)
    | with_reducible refine sims_ite ?_ ?_
    | (dsimp only; done) | dsimp only
    | split
    | (show ∀ _, SimS _ _ _; intro _))
theorem sim_twoPlaces (a b : Addr) : SimS (PF P F) P (Op.twoPlaces a b) := by
  unfold Op.twoPlaces
  repeat' (first
    | with_reducible exact sims_pureM _ | with_reducible exact sims_stuck _ | with_reducible exact sims_unsup _ | with_reducible exact sims_goPanic _
    | with_reducible exact sims_mapM (sims_choose1 _)
    | with_reducible exact sim_byteOf _
    | ((with_reducible refine sims_prog ?_ ?_); (next => rfl))
    | with_reducible refine sims_bindM ?_ (fun _ => ?_)
    | with_reducible refine sims_ite ?_ ?_
    | (dsimp only; done) | dsimp only
    | split
    | (show ∀ _, SimS _ _ _; intro _))
theorem sim_addrSub (k : IntKind) (a b : Addr) : SimS (PF P F) P (Op.addrSub k a b) := by
  unfold Op.addrSub
  repeat' (first
    | with_reducible exact sims_pureM _ | with_reducible exact sims_stuck _ | with_reducible exact sims_unsup _ | with_reducible exact sims_goPanic _
    | with_reducible exact sims_mapM (sims_choose1 _)
    | with_reducible exact sim_twoPlaces _ _
    | ((with_reducible refine sims_prog ?_ ?_); (next => rfl))
    | with_reducible refine sims_bindM ?_ (fun _ => ?_)
    | with_reducible refine sims_ite ?_ ?_
    | (dsimp only; done) | dsimp only
    | split
    | (show ∀ _, SimS _ _ _; intro _))
theorem sim_addrCmp (op : BinOp) (a b : Addr) : SimS (PF P F) P (Op.addrCmp op a b) := by
  unfold Op.addrCmp
  repeat' (first
    | with_reducible exact sims_pureM _ | with_reducible exact sims_stuck _ | with_reducible exact sims_unsup _ | with_reducible exact sims_goPanic _
    | with_reducible exact sims_mapM (sims_choose1 _)
    | with_reducible exact sim_twoPlaces _ _
    | ((with_reducible refine sims_prog ?_ ?_); (next => rfl))
    | with_reducible refine sims_bindM ?_ (fun _ => ?_)
    | with_reducible refine sims_ite ?_ ?_
    | (dsimp only; done) | dsimp only
    | split
    | (show ∀ _, SimS _ _ _; intro _))
theorem sim_addrMod (k : IntKind) (a : Addr) (n : Int) : SimS (PF P F) P (Op.addrMod k a n) := by
  unfold Op.addrMod
  refine sim_shapeElem (fun x y h => ?_) (fun x => ?_) _
  · cases x with
    | none => cases y with
      | none => rfl
      | some y => cases h
    | some x => cases y with
      | none => cases h
      | some y => obtain ⟨e, n⟩ := x; obtain ⟨e', n'⟩ := y; injection h with h; subst h; rfl
  · repeat' (first
    | with_reducible exact sims_pureM _ | with_reducible exact sims_stuck _ | with_reducible exact sims_unsup _ | with_reducible exact sims_goPanic _
    | with_reducible exact sims_mapM (sims_choose1 _)
    | with_reducible exact sim_typeInfo _
    | with_reducible exact sim_byteOf _
    | ((with_reducible refine sims_prog ?_ ?_); (next => rfl))
    | with_reducible refine sims_bindM ?_ (fun _ => ?_)
    | with_reducible refine sims_ite ?_ ?_
    | (dsimp only; done) | dsimp only
    | split
    | (show ∀ _, SimS _ _ _; intro _))
theorem sims_viewIf (r : Nat) {A B : Sem β} (hA : SimS (PF P F) P A) (hB : SimS (PF P F) P B) : SimS (PF P F) P ((viewAt r).bind fun x => if x.isSome = true then A else B) :=
  sim_viewAtIs (f := fun b => if b = true then A else B) r (fun b => by cases b <;> assumption)
theorem sims_shapeFail {r : Nat} {k : Option (TypeId × Nat) → Sem α} (hk : ∀ x, SimS (PF P F) P (k x)) (h0 : ∀ e u, ∃ x u', (k (some (e, 0))).run (PF P F) u = .halt x u' ∧ Halt.fails x) : SimS (PF P F) P (.shape r k) := by
  intro S u w es h
  simp only [Sem.run, Sem.runT]
  by_cases hS : S r
  · obtain ⟨o, o', h1, h2, h3⟩ := h.ins r hS
    cases h3 with
    | hid e cs =>
      have : u.shape? r = some (e, 0) := by simp [World.shape?, h1]
      rw [this]
      obtain ⟨x, u', hx, hf⟩ := h0 e u
      rw [hx]; exact fun _ => .inl hf
    | chan =>
      have e1 : u.shape? r = none := by simp [World.shape?, h1]
      have e2 : w.shape? r = none := by simp [World.shape?, h2]
      rw [e1, e2]; exact hk _ S u w es h
    | view =>
      have e1 : u.shape? r = none := by simp [World.shape?, h1]
      have e2 : w.shape? r = none := by simp [World.shape?, h2]
      rw [e1, e2]; exact hk _ S u w es h
    | loop =>
      have e1 : u.shape? r = none := by simp [World.shape?, h1]
      have e2 : w.shape? r = none := by simp [World.shape?, h2]
      rw [e1, e2]; exact hk _ S u w es h
    | defd =>
      have e1 : u.shape? r = none := by simp [World.shape?, h1]
      have e2 : w.shape? r = none := by simp [World.shape?, h2]
      rw [e1, e2]; exact hk _ S u w es h
  · rw [h.shape_out hS]; exact hk _ S u w es h
theorem cellAtBytes_none (p : Program) (d : Nat) (e : TypeId) (off : Nat) (n : Int) (s : Nat) : cellAtBytes p d e (0 / s) off n = none := by
  unfold cellAtBytes
  simp only [Nat.zero_div, Nat.zero_mul]
  split
  · rfl
  · cases byteOfCell p d e (off % p.cellsOf e) with
    | none => rfl
    | some x =>
      show (if _ then none else _) = none
      rw [if_pos]
      simp; omega
theorem sim_unsafeAdd (ts : Array TypeId) (t : TypeId) (args : Array Value) : SimS (PF P F) P (Builtin.unsafeAdd_ ts t args) := by
  obtain ⟨l⟩ := args
  rcases l with _ | ⟨v, _ | ⟨x, _ | _⟩⟩
  · exact sims_stuck _
  · cases v <;> exact sims_stuck _
  · cases v
    case pointer ptr =>
      unfold Builtin.unsafeAdd_
      refine sims_bindM (sim_asInt _) (fun n => ?_)
      dsimp only
      split
      · cases ptr with
        | none => exact sims_bindM (sims_unsup _) (fun _ => by
            dsimp only
            split
            · exact sims_bindM (sims_unsup _) (fun _ => sims_unsup _)
            · exact sims_unsup _)
        | some a =>
          dsimp only
          exact sims_viewIf _ (sims_bindM (sims_unsup _) (fun _ => sims_pureM _)) (sims_pureM _)
      · cases ptr with
        | none =>
          dsimp only
          split
          · exact sims_bindM (sims_unsup _) (fun _ => sims_unsup _)
          · exact sims_unsup _
        | some a =>
          have key : SimS (PF P F) P (do
              let __x ← shape a.block
              match __x with
                | some (e, cells) => do
                  let p ← program
                  match cellAtBytes p p.depth e (cells / p.cellsOf e) a.off n with
                    | some off => pure (Value.pointer (some { block := a.block, off := off, spot := a.spot }))
                    | none => unsupported (Unsupported.unsafePointer "Add")
                | x => unsupported (Unsupported.unsafePointer "Add")) := by
            refine sims_shapeFail (fun y => ?_) (fun e u => ?_)
            · cases y with
              | none => exact sims_unsup _
              | some y =>
                obtain ⟨e, cells⟩ := y
                refine sims_prog ?_ ?_
                · simp only [cellAtBytes_pf]; rfl
                · split
                  · exact sims_pureM _
                  · exact sims_unsup _
            · refine ⟨.unsupported (.unsafePointer "Add"), u, ?_, trivial⟩
              show Sem.run _ (match cellAtBytes _ _ e (0 / _) a.off n with | some off => _ | none => _) u = _
              rw [cellAtBytes_none]; rfl
          dsimp only
          split
          · exact sims_bindM (sims_unsup _) (fun _ => key)
          · exact key
    all_goals exact sims_stuck _
  · cases v <;> exact sims_stuck _
theorem sim_asNumber (a : Addr) (l : Bool) : SimS (PF P F) P (asNumber a l) := by
  unfold asNumber
  exact sims_bindM (SimS.new rfl (fun v => SimS.pure v)) (fun _ => sims_pureM _)
theorem sim_movedNumber (t : TypeId) (x y : Value) : SimS (PF P F) P (movedNumber t x y) := by
  unfold movedNumber
  repeat' (first
    | with_reducible exact sims_pureM _ | with_reducible exact sims_stuck _ | with_reducible exact sims_unsup _ | with_reducible exact sims_goPanic _
    | with_reducible exact sims_mapM (sims_choose1 _)
    | with_reducible exact sim_underlying _
    | with_reducible exact sim_behindNumber _
    | with_reducible exact sim_unsafeAdd _ _ _
    | with_reducible exact sim_asNumber _ _
    | ((with_reducible refine sims_prog ?_ ?_); (next => rfl))
    | with_reducible refine sims_bindM ?_ (fun _ => ?_)
    | with_reducible refine sims_ite ?_ ?_
    | (dsimp only; done) | dsimp only
    | split
    | (show ∀ _, SimS _ _ _; intro _))
theorem sim_movedPointer (t : TypeId) (x y : Value) : SimS (PF P F) P (movedPointer t x y) := by
  unfold movedPointer
  repeat' (first
    | with_reducible exact sims_pureM _ | with_reducible exact sims_stuck _ | with_reducible exact sims_unsup _ | with_reducible exact sims_goPanic _
    | with_reducible exact sims_mapM (sims_choose1 _)
    | with_reducible exact sim_numberAt _
    | with_reducible exact sim_unsafeAdd _ _ _
    | ((with_reducible refine sims_prog ?_ ?_); (next => rfl))
    | with_reducible refine sims_bindM ?_ (fun _ => ?_)
    | with_reducible refine sims_ite ?_ ?_
    | (dsimp only; done) | dsimp only
    | split
    | (show ∀ _, SimS _ _ _; intro _))
theorem sim_forIn_list {γ σ : Type} (l : List γ) (f : γ → σ → Sem (ForInStep σ)) (hf : ∀ x s, SimS (PF P F) P (f x s)) : ∀ s, SimS (PF P F) P (forIn l s f) := by
  induction l with
  | nil => intro s; simp only [List.forIn_nil]; exact sims_pureM _
  | cons x l ih =>
    intro s
    simp only [List.forIn_cons]
    refine sims_bindM (hf x s) (fun r => ?_)
    cases r with
    | done a => exact sims_pureM _
    | yield a => exact ih a
theorem sim_forIn_array {γ σ : Type} (l : Array γ) (f : γ → σ → Sem (ForInStep σ)) (hf : ∀ x s, SimS (PF P F) P (f x s)) (s : σ) : SimS (PF P F) P (forIn l s f) := by
  rw [← Array.forIn_toList]
  exact sim_forIn_list _ f hf s
theorem sim_forIn_range {σ : Type} (n : Nat) (f : Nat → σ → Sem (ForInStep σ)) (hf : ∀ x s, SimS (PF P F) P (f x s)) (s : σ) : SimS (PF P F) P (forIn [0:n] s f) := by
  simp only [Std.Legacy.Range.forIn_eq_forIn_range']
  exact sim_forIn_list _ f hf s
theorem alikeButTags_pf : ∀ (d : Nat) (a b : TypeId), (PF P F).alikeButTags d a b = P.alikeButTags d a b := by
  intro d
  induction d with
  | zero => intro a b; rfl
  | succ d ih =>
    intro a b
    unfold Program.alikeButTags
    simp only [ih]
    try rfl
theorem stoodInAs_pf (t : TypeId) : (PF P F).stoodInAs t = P.stoodInAs t := by
  unfold Program.stoodInAs
  simp only [alikeButTags_pf]
  try rfl
theorem stoodInHeld_pf (t : TypeId) : (PF P F).stoodInHeld t = P.stoodInHeld t := by
  unfold Program.stoodInHeld
  rw [stoodInAs_pf]
  try rfl
theorem packedAs_pf (t : TypeId) : (PF P F).packedAs t = P.packedAs t := by
  unfold Program.packedAs
  simp only [alikeButTags_pf]
  try rfl
theorem packed_pf (t : TypeId) : (PF P F).packed t = P.packed t := by
  unfold Program.packed
  rw [packedAs_pf]
theorem holdsPacked_pf : ∀ (d : Nat) (t : TypeId), (PF P F).holdsPacked d t = P.holdsPacked d t := by
  intro d
  induction d with
  | zero => intro t; rfl
  | succ d ih =>
    intro t
    unfold Program.holdsPacked
    simp only [ih, packed_pf]
    try rfl
theorem eqGuardType_pf : ∀ (d : Nat) (t : TypeId), (PF P F).eqGuardType d t = P.eqGuardType d t := by
  intro d
  induction d with
  | zero => intro t; rfl
  | succ d ih =>
    intro t
    unfold Program.eqGuardType
    simp only [ih]
    try rfl
theorem sim_typeStr (t : TypeId) : SimS (PF P F) P (typeStr t) := by
  unfold typeStr
  repeat' (first
    | with_reducible exact sims_pureM _ | with_reducible exact sims_stuck _ | with_reducible exact sims_unsup _ | with_reducible exact sims_goPanic _
    | with_reducible exact sims_mapM (sims_choose1 _)
    | with_reducible exact sim_typeInfo _
    | ((with_reducible refine sims_prog ?_ ?_); (next => rfl))
    | with_reducible refine sims_bindM ?_ (fun _ => ?_)
    | with_reducible refine sims_ite ?_ ?_
    | (dsimp only; done) | dsimp only
    | split
    | (show ∀ _, SimS _ _ _; intro _))
theorem sim_equalIn : ∀ (d : Nat) (t : TypeId) (x y : Value), SimS (PF P F) P (Op.equalIn d t x y) := by
  intro d
  induction d with
  | zero => intro t x y; exact sims_unsup _
  | succ d ih =>
    intro t x y
    unfold Op.equalIn
    refine sims_bindM (sim_underlying _) (fun dt => ?_)
    repeat' (first
    | with_reducible exact sims_pureM _ | with_reducible exact sims_stuck _ | with_reducible exact sims_unsup _ | with_reducible exact sims_goPanic _
    | with_reducible exact ih _ _ _
    | with_reducible exact sims_choose1 _
    | with_reducible exact sims_mapM (sims_choose1 _)
    | with_reducible exact sim_typeInfo _
    | with_reducible exact sim_underlying _
    | with_reducible exact sim_sizeOf _
    | with_reducible exact sim_part _ _ _
    | with_reducible exact sim_runtimePanic _
    | with_reducible exact sim_behindNumber _
    | with_reducible exact sim_sameAddr _ _
    | with_reducible exact sim_samePointer _ _
    | with_reducible exact sim_byteOf _
    | with_reducible exact sim_typeStr _
    | with_reducible refine sim_forIn_array _ _ (fun _ _ => ?_) _
    | with_reducible refine sim_forIn_range _ _ (fun _ _ => ?_) _
    | ((with_reducible refine sims_prog ?_ ?_); (next => (simp only [holdsPacked_pf, stoodInHeld_pf, eqGuardType_pf]; done)))
    | ((with_reducible refine sims_prog ?_ ?_); (next => rfl))
    | with_reducible refine sims_bindM ?_ (fun _ => ?_)
    | with_reducible refine sims_ite ?_ ?_
    | (dsimp only; done) | dsimp only
    | split
    | (show ∀ _, SimS _ _ _; intro _))
theorem sim_equal (t : TypeId) (x y : Value) : SimS (PF P F) P (Op.equal t x y) := by
  unfold Op.equal
  repeat' (first
    | with_reducible exact sims_pureM _ | with_reducible exact sims_stuck _ | with_reducible exact sims_unsup _ | with_reducible exact sims_goPanic _
    | with_reducible exact sims_mapM (sims_choose1 _)
    | with_reducible exact sim_equalIn _ _ _ _
    | with_reducible refine sim_forIn_array _ _ (fun _ _ => ?_) _
    | with_reducible refine sim_forIn_range _ _ (fun _ _ => ?_) _
    | ((with_reducible refine sims_prog ?_ ?_); (next => (simp only [holdsPacked_pf, stoodInHeld_pf, eqGuardType_pf]; done)))
    | ((with_reducible refine sims_prog ?_ ?_); (next => rfl))
    | with_reducible refine sims_bindM ?_ (fun _ => ?_)
    | with_reducible refine sims_ite ?_ ?_
    | (dsimp only; done) | dsimp only
    | split
    | (show ∀ _, SimS _ _ _; intro _))
theorem sim_eqGuardIn : ∀ (d : Nat) (t : TypeId) (x y : Value), SimS (PF P F) P (Op.eqGuardIn d t x y) := by
  intro d
  induction d with
  | zero => intro t x y; exact sims_unsup _
  | succ d ih =>
    intro t x y
    unfold Op.eqGuardIn
    refine sims_bindM (sim_underlying _) (fun dt => ?_)
    repeat' (first
    | with_reducible exact sims_pureM _ | with_reducible exact sims_stuck _ | with_reducible exact sims_unsup _ | with_reducible exact sims_goPanic _
    | with_reducible exact ih _ _ _
    | with_reducible exact sims_mapM (sims_choose1 _)
    | with_reducible exact sim_underlying _
    | with_reducible exact sim_sizeOf _
    | with_reducible exact sim_part _ _ _
    | with_reducible refine sim_forIn_array _ _ (fun _ _ => ?_) _
    | with_reducible refine sim_forIn_range _ _ (fun _ _ => ?_) _
    | ((with_reducible refine sims_prog ?_ ?_); (next => (simp only [holdsPacked_pf, stoodInHeld_pf, eqGuardType_pf]; done)))
    | ((with_reducible refine sims_prog ?_ ?_); (next => rfl))
    | with_reducible refine sims_bindM ?_ (fun _ => ?_)
    | with_reducible refine sims_ite ?_ ?_
    | (dsimp only; done) | dsimp only
    | split
    | (show ∀ _, SimS _ _ _; intro _))
theorem sim_eqGuard (op : BinOp) (t : TypeId) (x y : Operand) (a b : Value) : SimS (PF P F) P (eqGuard op t x y a b) := by
  unfold eqGuard
  repeat' (first
    | with_reducible exact sims_pureM _ | with_reducible exact sims_stuck _ | with_reducible exact sims_unsup _ | with_reducible exact sims_goPanic _
    | with_reducible exact sims_mapM (sims_choose1 _)
    | with_reducible exact sim_eqGuardIn _ _ _ _
    | with_reducible refine sim_forIn_array _ _ (fun _ _ => ?_) _
    | with_reducible refine sim_forIn_range _ _ (fun _ _ => ?_) _
    | ((with_reducible refine sims_prog ?_ ?_); (next => (simp only [holdsPacked_pf, stoodInHeld_pf, eqGuardType_pf]; done)))
    | ((with_reducible refine sims_prog ?_ ?_); (next => rfl))
    | with_reducible refine sims_bindM ?_ (fun _ => ?_)
    | with_reducible refine sims_ite ?_ ?_
    | (dsimp only; done) | dsimp only
    | split
    | (show ∀ _, SimS _ _ _; intro _))
theorem sim_binOp (op : BinOp) (t : TypeId) (x y : Value) : SimS (PF P F) P (binOp op t x y) := by
  unfold binOp
  repeat' (first
    | with_reducible exact sims_pureM _ | with_reducible exact sims_stuck _ | with_reducible exact sims_unsup _ | with_reducible exact sims_goPanic _
    | with_reducible exact sims_mapM (sims_choose1 _)
    | with_reducible exact sim_underlying _
    | with_reducible exact sim_behindNumber _
    | with_reducible exact sim_intArith _ _ _ _
    | with_reducible exact sim_intDiv _ _ _ _
    | with_reducible exact sim_intBits _ _ _ _
    | with_reducible exact sim_shift _ _ _ _ _
    | with_reducible exact sim_intCmp _ _ _
    | with_reducible exact sim_floatArith _ _ _ _
    | with_reducible exact sim_floatCmp _ _ _ _
    | with_reducible exact sim_complexOp _ _ _ _ _ _
    | with_reducible exact sim_stringOp _ _ _
    | with_reducible exact sim_addrSub _ _ _
    | with_reducible exact sim_addrCmp _ _ _
    | with_reducible exact sim_addrMod _ _ _
    | with_reducible exact sim_movedNumber _ _ _
    | with_reducible exact sim_movedPointer _ _ _
    | with_reducible exact sim_equal _ _ _
    | with_reducible refine sim_forIn_array _ _ (fun _ _ => ?_) _
    | with_reducible refine sim_forIn_range _ _ (fun _ _ => ?_) _
    | ((with_reducible refine sims_prog ?_ ?_); (next => (simp only [holdsPacked_pf, stoodInHeld_pf, eqGuardType_pf]; done)))
    | ((with_reducible refine sims_prog ?_ ?_); (next => rfl))
    | with_reducible refine sims_bindM ?_ (fun _ => ?_)
    | with_reducible refine sims_ite ?_ ?_
    | (dsimp only; done) | dsimp only
    | split
    | (show ∀ _, SimS _ _ _; intro _))
theorem sim_lenOf (v : Value) : SimS (PF P F) P (Builtin.lenOf v) := by
  unfold Builtin.lenOf
  repeat' (first
    | with_reducible exact sims_pureM _ | with_reducible exact sims_stuck _ | with_reducible exact sims_unsup _ | with_reducible exact sims_goPanic _
    | with_reducible exact sims_mapM (sims_choose1 _)
    | with_reducible refine sim_forIn_array _ _ (fun _ _ => ?_) _
    | with_reducible refine sim_forIn_range _ _ (fun _ _ => ?_) _
    | ((with_reducible refine sims_prog ?_ ?_); (next => (simp only [holdsPacked_pf, stoodInHeld_pf, eqGuardType_pf]; done)))
    | ((with_reducible refine sims_prog ?_ ?_); (next => rfl))
    | with_reducible refine sims_bindM ?_ (fun _ => ?_)
    | with_reducible refine sims_ite ?_ ?_
    | (dsimp only; done) | dsimp only
    | split
    | (show ∀ _, SimS _ _ _; intro _))
theorem sim_firstCells (s n : Nat) (v : Value) : SimS (PF P F) P (Builtin.firstCells s n v) := by
  unfold Builtin.firstCells
  repeat' (first
    | with_reducible exact sims_pureM _ | with_reducible exact sims_stuck _ | with_reducible exact sims_unsup _ | with_reducible exact sims_goPanic _
    | with_reducible exact sims_mapM (sims_choose1 _)
    | with_reducible exact sim_loadCells _ _
    | with_reducible refine sim_forIn_array _ _ (fun _ _ => ?_) _
    | with_reducible refine sim_forIn_range _ _ (fun _ _ => ?_) _
    | ((with_reducible refine sims_prog ?_ ?_); (next => (simp only [holdsPacked_pf, stoodInHeld_pf, eqGuardType_pf]; done)))
    | ((with_reducible refine sims_prog ?_ ?_); (next => rfl))
    | with_reducible refine sims_bindM ?_ (fun _ => ?_)
    | with_reducible refine sims_ite ?_ ?_
    | (dsimp only; done) | dsimp only
    | split
    | (show ∀ _, SimS _ _ _; intro _))
end
end Go.Proofs.YtemgilofjbnoaaaGreatDoor
namespace Go.Proofs.YtemgilofjbnoaaaGreatDoor
open Go Go.Conc
set_option linter.unusedVariables false
set_option linter.unusedSimpArgs false
section
variable {P : Program} {F : Array Func} {α β : Type}
def FailS (U : Program) (s : Sem α) : Prop := ∀ u, ∃ x u', s.run U u = .halt x u' ∧ Halt.fails x
def Goes_ (U : Program) (s : Sem α) : Prop := ∀ u, (∃ a u', s.run U u = .ok a u') ∨ ∃ x u', s.run U u = .halt x u' ∧ Halt.fails x
theorem FailS.sim {U : Program} {s : Sem α} (h : FailS U s) : SimS U P s := by
  intro S u w es _
  obtain ⟨x, u', hx, hf⟩ := h u
  rw [hx]; exact fun _ => .inl hf
theorem FailS.bind {U : Program} {s : Sem α} {f : α → Sem β} (hs : Goes_ U s) (hf : ∀ a, FailS U (f a)) : FailS U (s.bind f) := by
  intro u
  have e : (s.bind f).run U u = match s.run U u with | .ok a w => (f a).run U w | .halt x w => .halt x w := by
    have := congrArg Prod.fst (Sem.runT_bind' U s f u #[])
    rw [Sem.runT_fst] at this
    rw [this, ← Sem.runT_fst U s u #[]]
    rcases s.runT U u #[] with ⟨_ | _, _⟩
    · simp only []; rw [Sem.runT_fst]
    · rfl
  rw [e]
  rcases hs u with ⟨a, u', h⟩ | ⟨x, u', h, hx⟩
  · rw [h]; exact hf a u'
  · rw [h]; exact ⟨x, u', rfl, hx⟩
theorem Goes_.pure (U : Program) (a : α) : Goes_ U (Sem.pure a) := fun u => .inl ⟨a, u, rfl⟩
theorem Goes_.bind {U : Program} {s : Sem α} {f : α → Sem β} (hs : Goes_ U s) (hf : ∀ a, Goes_ U (f a)) : Goes_ U (s.bind f) := by
  intro u
  have e : (s.bind f).run U u = match s.run U u with | .ok a w => (f a).run U w | .halt x w => .halt x w := by
    have := congrArg Prod.fst (Sem.runT_bind' U s f u #[])
    rw [Sem.runT_fst] at this
    rw [this, ← Sem.runT_fst U s u #[]]
    rcases s.runT U u #[] with ⟨_ | _, _⟩
    · simp only []; rw [Sem.runT_fst]
    · rfl
  rw [e]
  rcases hs u with ⟨a, u', h⟩ | ⟨x, u', h, hx⟩
  · rw [h]; exact hf a u'
  · rw [h]; exact .inr ⟨x, u', rfl, hx⟩
theorem goes_holdsCells (U : Program) (a : Addr) (n : Nat) : Goes_ U (Builtin.holdsCells a n) := by
  unfold Builtin.holdsCells
  refine Goes_.bind (s := shape a.block) (fun u => .inl ⟨_, _, rfl⟩) (fun x => ?_)
  cases x with
  | none => exact Goes_.pure U _
  | some x => exact Goes_.pure U _
theorem goes_mayShare (U : Program) (s l n : Nat) (b : Option Addr) (x : Value) : Goes_ U (Builtin.mayShare s l n b x) := by
  have rest : ∀ there : Bool, Goes_ U (if (!there) = true then pure true else match x with
      | .slice (some b') _ _ => do pure (!(← Builtin.holdsCells b' (n * s)) || b.any (·.block == b'.block))
      | _ => pure false) := fun there => by
    split
    · exact Goes_.pure U _
    · split
      · exact Goes_.bind (goes_holdsCells U _ _) (fun _ => Goes_.pure U _)
      · exact Goes_.pure U _
  unfold Builtin.mayShare
  cases b with
  | none => exact Goes_.bind (s := pure true) (Goes_.pure U _) rest
  | some a => exact Goes_.bind (goes_holdsCells U _ _) (fun x => Goes_.bind (s := frozen _) (fun u => .inl ⟨_, _, rfl⟩) (fun y => Goes_.bind (s := pure (x && !y)) (Goes_.pure U _) rest))
theorem fail_append (s l n : Nat) (b : Option Addr) (x : Value) (why : Unsupported) : FailS (PF P F) (do
    if !(← Builtin.mayShare s l n b x) then mark .noRoom
    (unsupported why : Sem α)) := by
  refine FailS.bind (goes_mayShare _ _ _ _ _ _) (fun there => ?_)
  dsimp only
  split
  · exact FailS.bind (s := mark .noRoom) (fun u => .inl ⟨_, _, rfl⟩) (fun _ u => ⟨_, _, rfl, trivial⟩)
  · exact fun u => ⟨_, _, rfl, trivial⟩
set_option maxHeartbeats 8000000 in
theorem sim_append (ts : Array TypeId) (t : TypeId) (args : Array Value) : SimS (PF P F) P (Builtin.append_ ts t args) := by
  unfold Builtin.append_
  repeat' (first
    | with_reducible exact sims_pureM _ | with_reducible exact sims_stuck _ | with_reducible exact sims_unsup _ | with_reducible exact sims_goPanic _
    | with_reducible exact sims_choose1 _
    | with_reducible exact sims_mapM (sims_choose1 _)
    | with_reducible exact sim_typeInfo _
    | with_reducible exact sim_underlying _
    | with_reducible exact sim_sizeOf _
    | with_reducible exact sim_zeroValue _
    | with_reducible exact sim_newRow _ _
    | with_reducible exact sim_askRoom _
    | with_reducible exact sim_runtimePanic _
    | with_reducible exact sim_asInt _
    | with_reducible exact sim_storeCells _ _ _
    | with_reducible exact sim_lenOf _
    | with_reducible exact sim_firstCells _ _ _
    | with_reducible exact FailS.sim (fail_append _ _ _ _ _ _)
    | with_reducible refine sim_forIn_array _ _ (fun _ _ => ?_) _
    | with_reducible refine sim_forIn_range _ _ (fun _ _ => ?_) _
    | ((with_reducible refine sims_prog ?_ ?_); (next => (simp only [holdsPacked_pf, stoodInHeld_pf, eqGuardType_pf]; done)))
    | ((with_reducible refine sims_prog ?_ ?_); (next => rfl))
    | with_reducible refine sims_bindM ?_ (fun _ => ?_)
    | with_reducible refine sims_ite ?_ ?_
    | (dsimp only; done) | dsimp only
    | split
    | (show ∀ _, SimS _ _ _; intro _))
theorem sim_copy (ts : Array TypeId) (t : TypeId) (args : Array Value) : SimS (PF P F) P (Builtin.copy_ ts t args) := by
  unfold Builtin.copy_
  repeat' (first
    | with_reducible exact sims_pureM _ | with_reducible exact sims_stuck _ | with_reducible exact sims_unsup _ | with_reducible exact sims_goPanic _
    | with_reducible exact sims_mapM (sims_choose1 _)
    | with_reducible exact sim_underlying _
    | with_reducible exact sim_sizeOf _
    | with_reducible exact sim_storeCells _ _ _
    | with_reducible exact sim_lenOf _
    | with_reducible exact sim_firstCells _ _ _
    | with_reducible exact FailS.sim (fail_append _ _ _ _ _ _)
    | with_reducible refine sim_forIn_array _ _ (fun _ _ => ?_) _
    | with_reducible refine sim_forIn_range _ _ (fun _ _ => ?_) _
    | ((with_reducible refine sims_prog ?_ ?_); (next => (simp only [holdsPacked_pf, stoodInHeld_pf, eqGuardType_pf]; done)))
    | ((with_reducible refine sims_prog ?_ ?_); (next => rfl))
    | with_reducible refine sims_bindM ?_ (fun _ => ?_)
    | with_reducible refine sims_ite ?_ ?_
    | (dsimp only; done) | dsimp only
    | split
    | (show ∀ _, SimS _ _ _; intro _))
theorem sim_alloc (e : TypeId) (h : Bool) (v : Value) : SimS (PF P F) P (Instr.alloc e h v) := by
  unfold Instr.alloc
  repeat' (first
    | with_reducible exact sims_pureM _ | with_reducible exact sims_stuck _ | with_reducible exact sims_unsup _ | with_reducible exact sims_goPanic _
    | with_reducible exact sims_mapM (sims_choose1 _)
    | with_reducible exact sim_zeroValue _
    | with_reducible exact sim_newVar _ _
    | with_reducible exact sim_storeVar _ _ _
    | with_reducible exact FailS.sim (fail_append _ _ _ _ _ _)
    | with_reducible refine sim_forIn_array _ _ (fun _ _ => ?_) _
    | with_reducible refine sim_forIn_range _ _ (fun _ _ => ?_) _
    | ((with_reducible refine sims_prog ?_ ?_); (next => (simp only [holdsPacked_pf, stoodInHeld_pf, eqGuardType_pf]; done)))
    | ((with_reducible refine sims_prog ?_ ?_); (next => rfl))
    | with_reducible refine sims_bindM ?_ (fun _ => ?_)
    | with_reducible refine sims_ite ?_ ?_
    | (dsimp only; done) | dsimp only
    | split
    | (show ∀ _, SimS _ _ _; intro _))
theorem sim_box (e : TypeId) (v : Value) : SimS (PF P F) P (Instr.box e v) := by
  unfold Instr.box
  repeat' (first
    | with_reducible exact sims_pureM _ | with_reducible exact sims_stuck _ | with_reducible exact sims_unsup _ | with_reducible exact sims_goPanic _
    | with_reducible exact sims_mapM (sims_choose1 _)
    | with_reducible exact sim_newVar _ _
    | with_reducible exact FailS.sim (fail_append _ _ _ _ _ _)
    | with_reducible refine sim_forIn_array _ _ (fun _ _ => ?_) _
    | with_reducible refine sim_forIn_range _ _ (fun _ _ => ?_) _
    | ((with_reducible refine sims_prog ?_ ?_); (next => (simp only [holdsPacked_pf, stoodInHeld_pf, eqGuardType_pf]; done)))
    | ((with_reducible refine sims_prog ?_ ?_); (next => rfl))
    | with_reducible refine sims_bindM ?_ (fun _ => ?_)
    | with_reducible refine sims_ite ?_ ?_
    | (dsimp only; done) | dsimp only
    | split
    | (show ∀ _, SimS _ _ _; intro _))
theorem sim_loadAt (e : TypeId) (v : Value) : SimS (PF P F) P (Instr.loadAt e v) := by
  unfold Instr.loadAt
  repeat' (first
    | with_reducible exact sims_pureM _ | with_reducible exact sims_stuck _ | with_reducible exact sims_unsup _ | with_reducible exact sims_goPanic _
    | with_reducible exact sims_mapM (sims_choose1 _)
    | with_reducible exact sim_sureAddr _
    | with_reducible exact sim_loadVar _ _
    | with_reducible exact FailS.sim (fail_append _ _ _ _ _ _)
    | with_reducible refine sim_forIn_array _ _ (fun _ _ => ?_) _
    | with_reducible refine sim_forIn_range _ _ (fun _ _ => ?_) _
    | ((with_reducible refine sims_prog ?_ ?_); (next => (simp only [holdsPacked_pf, stoodInHeld_pf, eqGuardType_pf]; done)))
    | ((with_reducible refine sims_prog ?_ ?_); (next => rfl))
    | with_reducible refine sims_bindM ?_ (fun _ => ?_)
    | with_reducible refine sims_ite ?_ ?_
    | (dsimp only; done) | dsimp only
    | split
    | (show ∀ _, SimS _ _ _; intro _))
theorem sim_storeAt (e : TypeId) (v x : Value) : SimS (PF P F) P (Instr.storeAt e v x) := by
  unfold Instr.storeAt
  repeat' (first
    | with_reducible exact sims_pureM _ | with_reducible exact sims_stuck _ | with_reducible exact sims_unsup _ | with_reducible exact sims_goPanic _
    | with_reducible exact sims_mapM (sims_choose1 _)
    | with_reducible exact sim_sureAddr _
    | with_reducible exact sim_storeVar _ _ _
    | with_reducible exact FailS.sim (fail_append _ _ _ _ _ _)
    | with_reducible refine sim_forIn_array _ _ (fun _ _ => ?_) _
    | with_reducible refine sim_forIn_range _ _ (fun _ _ => ?_) _
    | ((with_reducible refine sims_prog ?_ ?_); (next => (simp only [holdsPacked_pf, stoodInHeld_pf, eqGuardType_pf]; done)))
    | ((with_reducible refine sims_prog ?_ ?_); (next => rfl))
    | with_reducible refine sims_bindM ?_ (fun _ => ?_)
    | with_reducible refine sims_ite ?_ ?_
    | (dsimp only; done) | dsimp only
    | split
    | (show ∀ _, SimS _ _ _; intro _))
theorem sim_fieldAt (e : TypeId) (v : Value) (f : Nat) : SimS (PF P F) P (Instr.fieldAt e v f) := by
  unfold Instr.fieldAt
  repeat' (first
    | with_reducible exact sims_pureM _ | with_reducible exact sims_stuck _ | with_reducible exact sims_unsup _ | with_reducible exact sims_goPanic _
    | with_reducible exact sims_mapM (sims_choose1 _)
    | with_reducible exact sim_underlying _
    | with_reducible exact sim_sureAddr _
    | with_reducible exact sim_fieldPlace _ _
    | with_reducible exact FailS.sim (fail_append _ _ _ _ _ _)
    | with_reducible refine sim_forIn_array _ _ (fun _ _ => ?_) _
    | with_reducible refine sim_forIn_range _ _ (fun _ _ => ?_) _
    | ((with_reducible refine sims_prog ?_ ?_); (next => (simp only [holdsPacked_pf, stoodInHeld_pf, eqGuardType_pf]; done)))
    | ((with_reducible refine sims_prog ?_ ?_); (next => rfl))
    | with_reducible refine sims_bindM ?_ (fun _ => ?_)
    | with_reducible refine sims_ite ?_ ?_
    | (dsimp only; done) | dsimp only
    | split
    | (show ∀ _, SimS _ _ _; intro _))
theorem sim_indexAt (e : TypeId) (v x : Value) : SimS (PF P F) P (Instr.indexAt e v x) := by
  unfold Instr.indexAt
  repeat' (first
    | with_reducible exact sims_pureM _ | with_reducible exact sims_stuck _ | with_reducible exact sims_unsup _ | with_reducible exact sims_goPanic _
    | with_reducible exact sims_mapM (sims_choose1 _)
    | with_reducible exact sim_underlying _
    | with_reducible exact sim_sizeOf _
    | with_reducible exact sim_boundsPanic _ _ _ _
    | with_reducible exact sim_asIntOf _
    | with_reducible exact sim_sureAddr _
    | with_reducible exact FailS.sim (fail_append _ _ _ _ _ _)
    | with_reducible refine sim_forIn_array _ _ (fun _ _ => ?_) _
    | with_reducible refine sim_forIn_range _ _ (fun _ _ => ?_) _
    | ((with_reducible refine sims_prog ?_ ?_); (next => (simp only [holdsPacked_pf, stoodInHeld_pf, eqGuardType_pf]; done)))
    | ((with_reducible refine sims_prog ?_ ?_); (next => rfl))
    | with_reducible refine sims_bindM ?_ (fun _ => ?_)
    | with_reducible refine sims_ite ?_ ?_
    | (dsimp only; done) | dsimp only
    | split
    | (show ∀ _, SimS _ _ _; intro _))
theorem sim_extract (v : Value) (i : Nat) : SimS (PF P F) P (Instr.extract v i) := by
  unfold Instr.extract
  repeat' (first
    | with_reducible exact sims_pureM _ | with_reducible exact sims_stuck _ | with_reducible exact sims_unsup _ | with_reducible exact sims_goPanic _
    | with_reducible exact sims_mapM (sims_choose1 _)
    | with_reducible exact FailS.sim (fail_append _ _ _ _ _ _)
    | with_reducible refine sim_forIn_array _ _ (fun _ _ => ?_) _
    | with_reducible refine sim_forIn_range _ _ (fun _ _ => ?_) _
    | ((with_reducible refine sims_prog ?_ ?_); (next => (simp only [holdsPacked_pf, stoodInHeld_pf, eqGuardType_pf]; done)))
    | ((with_reducible refine sims_prog ?_ ?_); (next => rfl))
    | with_reducible refine sims_bindM ?_ (fun _ => ?_)
    | with_reducible refine sims_ite ?_ ?_
    | (dsimp only; done) | dsimp only
    | split
    | (show ∀ _, SimS _ _ _; intro _))
theorem sim_field (e : TypeId) (v : Value) (f : Nat) : SimS (PF P F) P (Instr.field e v f) := by
  unfold Instr.field
  repeat' (first
    | with_reducible exact sims_pureM _ | with_reducible exact sims_stuck _ | with_reducible exact sims_unsup _ | with_reducible exact sims_goPanic _
    | with_reducible exact sims_mapM (sims_choose1 _)
    | with_reducible exact sim_underlying _
    | with_reducible exact sim_part _ _ _
    | with_reducible exact sim_asAgg _
    | with_reducible exact FailS.sim (fail_append _ _ _ _ _ _)
    | with_reducible refine sim_forIn_array _ _ (fun _ _ => ?_) _
    | with_reducible refine sim_forIn_range _ _ (fun _ _ => ?_) _
    | ((with_reducible refine sims_prog ?_ ?_); (next => (simp only [holdsPacked_pf, stoodInHeld_pf, eqGuardType_pf]; done)))
    | ((with_reducible refine sims_prog ?_ ?_); (next => rfl))
    | with_reducible refine sims_bindM ?_ (fun _ => ?_)
    | with_reducible refine sims_ite ?_ ?_
    | (dsimp only; done) | dsimp only
    | split
    | (show ∀ _, SimS _ _ _; intro _))
theorem sim_makeSlice (e : TypeId) (l c : Value) : SimS (PF P F) P (Instr.makeSlice e l c) := by
  unfold Instr.makeSlice
  repeat' (first
    | with_reducible exact sims_pureM _ | with_reducible exact sims_stuck _ | with_reducible exact sims_unsup _ | with_reducible exact sims_goPanic _
    | with_reducible exact sims_choose1 _
    | with_reducible exact sims_mapM (sims_choose1 _)
    | with_reducible exact sim_typeInfo _
    | with_reducible exact sim_underlying _
    | with_reducible exact sim_sizeOf _
    | with_reducible exact sim_zeroValue _
    | with_reducible exact sim_newRow _ _
    | with_reducible exact sim_askRoom _
    | with_reducible exact sim_runtimePanic _
    | with_reducible exact sim_asInt _
    | with_reducible exact FailS.sim (fail_append _ _ _ _ _ _)
    | with_reducible refine sim_forIn_array _ _ (fun _ _ => ?_) _
    | with_reducible refine sim_forIn_range _ _ (fun _ _ => ?_) _
    | ((with_reducible refine sims_prog ?_ ?_); (next => (simp only [holdsPacked_pf, stoodInHeld_pf, eqGuardType_pf]; done)))
    | ((with_reducible refine sims_prog ?_ ?_); (next => rfl))
    | with_reducible refine sims_bindM ?_ (fun _ => ?_)
    | with_reducible refine sims_ite ?_ ?_
    | (dsimp only; done) | dsimp only
    | split
    | (show ∀ _, SimS _ _ _; intro _))
theorem sim_makeInterface (e : TypeId) (l : Value) : SimS (PF P F) P (Instr.makeInterface e l) := by
  unfold Instr.makeInterface
  repeat' (first
    | with_reducible exact sims_pureM _ | with_reducible exact sims_stuck _ | with_reducible exact sims_unsup _ | with_reducible exact sims_goPanic _
    | with_reducible exact sims_mapM (sims_choose1 _)
    | with_reducible exact sim_underlying _
    | with_reducible exact FailS.sim (fail_append _ _ _ _ _ _)
    | with_reducible refine sim_forIn_array _ _ (fun _ _ => ?_) _
    | with_reducible refine sim_forIn_range _ _ (fun _ _ => ?_) _
    | ((with_reducible refine sims_prog ?_ ?_); (next => (simp only [holdsPacked_pf, stoodInHeld_pf, eqGuardType_pf]; done)))
    | ((with_reducible refine sims_prog ?_ ?_); (next => rfl))
    | with_reducible refine sims_bindM ?_ (fun _ => ?_)
    | with_reducible refine sims_ite ?_ ?_
    | (dsimp only; done) | dsimp only
    | split
    | (show ∀ _, SimS _ _ _; intro _))
theorem sim_typeAssert (v : Value) (e f : TypeId) (ok : Bool) : SimS (PF P F) P (Instr.typeAssert v e f ok) := by
  unfold Instr.typeAssert
  repeat' (first
    | with_reducible exact sims_pureM _ | with_reducible exact sims_stuck _ | with_reducible exact sims_unsup _ | with_reducible exact sims_goPanic _
    | with_reducible exact sims_mapM (sims_choose1 _)
    | with_reducible exact sim_typeInfo _
    | with_reducible exact sim_underlying _
    | with_reducible exact sim_zeroValue _
    | with_reducible exact sim_runtimePanic _
    | with_reducible exact FailS.sim (fail_append _ _ _ _ _ _)
    | with_reducible refine sim_forIn_array _ _ (fun _ _ => ?_) _
    | with_reducible refine sim_forIn_range _ _ (fun _ _ => ?_) _
    | ((with_reducible refine sims_prog ?_ ?_); (next => (simp only [holdsPacked_pf, stoodInHeld_pf, eqGuardType_pf]; done)))
    | ((with_reducible refine sims_prog ?_ ?_); (next => rfl))
    | with_reducible refine sims_bindM ?_ (fun _ => ?_)
    | with_reducible refine sims_ite ?_ ?_
    | (dsimp only; done) | dsimp only
    | split
    | (show ∀ _, SimS _ _ _; intro _))
theorem sim_sliceBound (v : Value) (y : Nat) (c : BoundsCode) : SimS (PF P F) P (Instr.sliceBound v y c) := by
  unfold Instr.sliceBound
  repeat' (first
    | with_reducible exact sims_pureM _ | with_reducible exact sims_stuck _ | with_reducible exact sims_unsup _ | with_reducible exact sims_goPanic _
    | with_reducible exact sims_mapM (sims_choose1 _)
    | with_reducible exact sim_boundsPanic _ _ _ _
    | with_reducible exact sim_asIntOf _
    | with_reducible exact FailS.sim (fail_append _ _ _ _ _ _)
    | with_reducible refine sim_forIn_array _ _ (fun _ _ => ?_) _
    | with_reducible refine sim_forIn_range _ _ (fun _ _ => ?_) _
    | ((with_reducible refine sims_prog ?_ ?_); (next => (simp only [holdsPacked_pf, stoodInHeld_pf, eqGuardType_pf]; done)))
    | ((with_reducible refine sims_prog ?_ ?_); (next => rfl))
    | with_reducible refine sims_bindM ?_ (fun _ => ?_)
    | with_reducible refine sims_ite ?_ ?_
    | (dsimp only; done) | dsimp only
    | split
    | (show ∀ _, SimS _ _ _; intro _))
theorem sim_sliceBounds (s : Bool) (l c : Nat) (a b d : Option Value) : SimS (PF P F) P (Instr.sliceBounds s l c a b d) := by
  unfold Instr.sliceBounds
  repeat' (first
    | with_reducible exact sims_pureM _ | with_reducible exact sims_stuck _ | with_reducible exact sims_unsup _ | with_reducible exact sims_goPanic _
    | with_reducible exact sims_mapM (sims_choose1 _)
    | with_reducible exact FailS.sim (fail_append _ _ _ _ _ _)
    | with_reducible exact sim_sliceBound _ _ _
    | with_reducible refine sim_forIn_array _ _ (fun _ _ => ?_) _
    | with_reducible refine sim_forIn_range _ _ (fun _ _ => ?_) _
    | ((with_reducible refine sims_prog ?_ ?_); (next => (simp only [holdsPacked_pf, stoodInHeld_pf, eqGuardType_pf]; done)))
    | ((with_reducible refine sims_prog ?_ ?_); (next => rfl))
    | with_reducible refine sims_bindM ?_ (fun _ => ?_)
    | with_reducible refine sims_ite ?_ ?_
    | (dsimp only; done) | dsimp only
    | split
    | (show ∀ _, SimS _ _ _; intro _))
theorem sim_slice (t : TypeId) (x : Value) (a b d : Option Value) : SimS (PF P F) P (Instr.slice t x a b d) := by
  unfold Instr.slice
  repeat' (first
    | with_reducible exact sims_pureM _ | with_reducible exact sims_stuck _ | with_reducible exact sims_unsup _ | with_reducible exact sims_goPanic _
    | with_reducible exact sims_mapM (sims_choose1 _)
    | with_reducible exact sim_underlying _
    | with_reducible exact sim_sizeOf _
    | with_reducible exact sim_asAddr _
    | with_reducible exact FailS.sim (fail_append _ _ _ _ _ _)
    | with_reducible exact sim_sliceBounds _ _ _ _ _ _
    | with_reducible refine sim_forIn_array _ _ (fun _ _ => ?_) _
    | with_reducible refine sim_forIn_range _ _ (fun _ _ => ?_) _
    | ((with_reducible refine sims_prog ?_ ?_); (next => (simp only [holdsPacked_pf, stoodInHeld_pf, eqGuardType_pf]; done)))
    | ((with_reducible refine sims_prog ?_ ?_); (next => rfl))
    | with_reducible refine sims_bindM ?_ (fun _ => ?_)
    | with_reducible refine sims_ite ?_ ?_
    | (dsimp only; done) | dsimp only
    | split
    | (show ∀ _, SimS _ _ _; intro _))
theorem sim_sliceAt (t : TypeId) (x : Value) (a b d : Option Value) : SimS (PF P F) P (Instr.sliceAt t x a b d) := by
  unfold Instr.sliceAt
  repeat' (first
    | with_reducible exact sims_pureM _ | with_reducible exact sims_stuck _ | with_reducible exact sims_unsup _ | with_reducible exact sims_goPanic _
    | with_reducible exact sims_mapM (sims_choose1 _)
    | with_reducible exact sim_underlying _
    | with_reducible exact sim_sizeOf _
    | with_reducible exact sim_sureAddr _
    | with_reducible exact FailS.sim (fail_append _ _ _ _ _ _)
    | with_reducible exact sim_sliceBounds _ _ _ _ _ _
    | with_reducible exact sim_slice _ _ _ _ _
    | with_reducible refine sim_forIn_array _ _ (fun _ _ => ?_) _
    | with_reducible refine sim_forIn_range _ _ (fun _ _ => ?_) _
    | ((with_reducible refine sims_prog ?_ ?_); (next => (simp only [holdsPacked_pf, stoodInHeld_pf, eqGuardType_pf]; done)))
    | ((with_reducible refine sims_prog ?_ ?_); (next => rfl))
    | with_reducible refine sims_bindM ?_ (fun _ => ?_)
    | with_reducible refine sims_ite ?_ ?_
    | (dsimp only; done) | dsimp only
    | split
    | (show ∀ _, SimS _ _ _; intro _))
end
end Go.Proofs.YtemgilofjbnoaaaGreatDoor
namespace Go.Proofs.YtemgilofjbnoaaaGreatDoor
open Go Go.Conc
set_option linter.unusedVariables false
set_option linter.unusedSimpArgs false
section
variable {P : Program} {F : Array Func} {α β : Type}
theorem sim_placeGet (t : TypeId) (x : Place) : SimS (PF P F) P (x.get t) := by
  cases x with
  | val v => exact sims_pureM _
  | var a => exact sim_loadVar _ _
theorem sim_follow : ∀ (l : List FieldStep) (t : TypeId) (x : Place), SimS (PF P F) P (follow l t x) := by
  intro l
  induction l with
  | nil => intro t x; exact sims_pureM _
  | cons s l ih =>
    intro t x
    unfold follow
    refine sims_bindM (sim_underlying _) (fun d => ?_)
    split
    · split
      · refine sims_ite ?_ ?_
        · exact sims_bindM (sim_placeGet _ _) (fun _ => sims_bindM (sim_asAddr _) (fun _ => sims_bindM (sim_fieldPlace _ _) (fun _ => ih _ _)))
        · split
          · exact sims_bindM (sim_fieldPlace _ _) (fun _ => ih _ _)
          · exact sims_bindM (sim_part _ _ _) (fun _ => ih _ _)
          · exact sims_stuck _
      · exact sims_stuck _
    · exact sims_stuck _
theorem sim_wrapNil (ts : Array TypeId) (t : TypeId) (args : Array Value) : SimS (PF P F) P (Builtin.ssaWrapNilChk_ ts t args) := by
  rcases args with ⟨_ | ⟨p, _ | ⟨a, _ | ⟨m, _ | ⟨q, l⟩⟩⟩⟩⟩
  · exact sims_stuck _
  · exact sims_stuck _
  · exact sims_stuck _
  · cases a
    case string =>
      cases m
      case string =>
        cases p
        case pointer p =>
          cases p with
          | some p => exact sims_pureM _
          | none =>
            refine sims_bindM (sims_choose1 _) (fun c => ?_)
            repeat' (first
              | with_reducible exact sims_pureM _
              | with_reducible exact sims_stuck _
              | with_reducible exact sims_unsup _
              | with_reducible exact sim_runtimePanic _
              | with_reducible exact sim_typeInfo _
              | with_reducible exact sim_underlying _
              | with_reducible refine sims_bindM ?_ (fun _ => ?_)
              | with_reducible refine sims_ite ?_ ?_
              | dsimp only
              | split)
        all_goals exact sims_stuck _
      all_goals exact sims_stuck _
    all_goals exact sims_stuck _
  · exact sims_stuck _
theorem sim_receiverAt (xt : TypeId) (x : Place) (b : Bool) (wr : Option String) : SimS (PF P F) P (receiverAt xt x b wr) := by
  unfold receiverAt
  refine sims_bindM (sim_underlying _) (fun d => ?_)
  split
  · exact sim_placeGet _ _
  · refine sims_bindM (sim_placeGet _ _) (fun p => ?_)
    split
    · exact sims_bindM (sim_wrapNil _ _ _) (fun _ => sims_bindM (sim_asAddr _) (fun _ => sim_loadVar _ _))
    · exact sims_bindM (sims_pureM _) (fun _ => sims_bindM (sim_asAddr _) (fun _ => sim_loadVar _ _))
  · exact sims_pureM _
  · exact sims_stuck _
  · exact sim_placeGet _ _
theorem sim_method : ∀ (n : Nat) (t : TypeId) (v : Value) (name : String), SimS (PF P F) P (method n t v name) := by
  intro n
  induction n with
  | zero => intro t v name; exact sims_unsup _
  | succ n ih =>
    intro t v name
    unfold method
    refine sims_bindM (sim_typeInfo _) (fun i => ?_)
    split
    · refine sims_bindM (sim_follow _ _ _) (fun r => ?_)
      obtain ⟨xt, x⟩ := r
      dsimp only
      split
      · refine sims_bindM (sim_placeGet _ _) (fun y => ?_)
        split
        · exact ih _ _ _
        · exact sim_runtimePanic _
        · exact sims_stuck _
      · exact sims_bindM (sim_receiverAt _ _ _ _) (fun _ => sims_pureM _)
    · exact sims_stuck _
theorem sim_cutType (n : String) : SimS (PF P F) P (cutType n) := by
  unfold cutType
  refine sims_prog (by rfl) ?_
  split <;> first | exact sims_pureM _ | exact sims_stuck _ | exact sims_unsup _
theorem sim_handle (t : TypeId) : SimS (PF P F) P (Extern.Rtype.handle t) := by
  unfold Extern.Rtype.handle
  exact sims_prog (by rfl) (sims_pureM _)
theorem sim_ofHandle (h : Value) : SimS (PF P F) P (Extern.Rtype.ofHandle h) := by
  unfold Extern.Rtype.ofHandle
  refine sims_prog (by rfl) ?_
  split <;> first | exact sims_pureM _ | exact sims_stuck _
theorem sim_noPack (s : String) (t : TypeId) : SimS (PF P F) P (Extern.Rtype.noPack s t) := by
  unfold Extern.Rtype.noPack
  refine sims_prog (by simp only [packed_pf]) ?_
  exact sims_ite (sims_unsup _) (sims_pureM _)
theorem sim_noPackHeld (s : String) (t : TypeId) : SimS (PF P F) P (Extern.Rtype.noPackHeld s t) := by
  unfold Extern.Rtype.noPackHeld
  refine sims_prog (by simp only [holdsPacked_pf]) ?_
  refine sims_prog (by rfl) ?_
  exact sims_ite (sims_unsup _) (sims_pureM _)
theorem sim_typeOf (args : Array Value) : SimS (PF P F) P (Extern.ReflectliteType.typeOf args) := by
  rcases args with ⟨_ | ⟨a, _ | ⟨b, l⟩⟩⟩
  · exact sims_stuck _
  · cases a
    all_goals first
      | exact sims_stuck _
      | exact sims_bindM (sim_cutType _) (fun _ => sims_bindM (sim_handle _) (fun _ => sims_pureM _))
      | exact sims_pureM _
  · exact sims_stuck _
theorem sim_ofRtype (v : Value) : SimS (PF P F) P (Extern.ReflectliteType.ofRtype v) := by
  cases v
  case agg cs =>
    rcases cs with ⟨_ | ⟨a, _ | ⟨b, l⟩⟩⟩
    · exact sims_stuck _
    · exact sims_bindM (sim_ofHandle _) (fun _ => sims_bindM (sim_noPack _ _) (fun _ => sims_pureM _))
    · exact sims_stuck _
  all_goals exact sims_stuck _
theorem sim_comparable (args : Array Value) : SimS (PF P F) P (Extern.ReflectliteType.method (fun t => do Extern.Rtype.noPackHeld "Comparable" t; pure (.bool (← typeInfo t).comparable)) args) := by
  rcases args with ⟨_ | ⟨a, _ | ⟨b, l⟩⟩⟩
  · exact sims_stuck _
  · exact sims_bindM (sim_ofRtype _) (fun _ => sims_bindM (sim_noPackHeld _ _) (fun _ => sims_bindM (sim_typeInfo _) (fun _ => sims_pureM _)))
  · exact sims_stuck _
def natRow (s : String) : Bool := s == "internal/reflectlite.TypeOf" || s == "(internal/reflectlite.rtype).Comparable"
theorem nat_rows : (Extern.allNextRows.lookup "internal/reflectlite.TypeOf" = none ∧ Extern.allGenericRows.lookup "internal/reflectlite.TypeOf" = none ∧ Extern.allTypedRows.lookup "internal/reflectlite.TypeOf" = none ∧ Extern.allRows.lookup "internal/reflectlite.TypeOf" = some Extern.ReflectliteType.typeOf) ∧
    (Extern.allNextRows.lookup "(internal/reflectlite.rtype).Comparable" = none ∧ Extern.allGenericRows.lookup "(internal/reflectlite.rtype).Comparable" = none ∧ Extern.allTypedRows.lookup "(internal/reflectlite.rtype).Comparable" = none ∧
      Extern.allRows.lookup "(internal/reflectlite.rtype).Comparable" = some (Extern.ReflectliteType.method (fun t => do Extern.Rtype.noPackHeld "Comparable" t; pure (.bool (← typeInfo t).comparable)))) ∧ Extern.allNextRows.lookup "" = none := by
  refine ⟨⟨?_, ?_, ?_, ?_⟩, ⟨?_, ?_, ?_, ?_⟩, ?_⟩ <;> kernel_rfl
end
end Go.Proofs.YtemgilofjbnoaaaGreatDoor
namespace Go.Proofs.YtemgilofjbnoaaaGreatDoor
open Go Go.Conc
set_option linter.unusedVariables false
set_option linter.unusedSimpArgs false
section
variable {P : Program} {F : Array Func} {α β : Type}
theorem sim_mapM_list {γ δ : Type} (l : List γ) (f : γ → Sem δ) (hf : ∀ x, SimS (PF P F) P (f x)) : SimS (PF P F) P (l.mapM f) := by
  induction l with
  | nil => simp only [List.mapM_nil]; exact sims_pureM _
  | cons x l ih => simp only [List.mapM_cons]; exact sims_bindM (hf x) (fun _ => sims_bindM ih (fun _ => sims_pureM _))
theorem sim_mapM_array {γ δ : Type} (l : Array γ) (f : γ → Sem δ) (hf : ∀ x, SimS (PF P F) P (f x)) : SimS (PF P F) P (l.mapM f) := by
  rw [Array.mapM_eq_mapM_toList]
  exact sims_mapM (sim_mapM_list _ f hf)
theorem sim_build (t : TypeId) (parts : Array (Nat × Value)) : SimS (PF P F) P (Instr.build t parts) := by
  unfold Instr.build
  refine sims_bindM (sim_zeroValue _) (fun z => sims_bindM (sim_underlying _) (fun d => ?_))
  split
  · refine sims_bindM (sim_mapM_array _ _ (fun f => sims_bindM (sim_sizeOf _) (fun _ => sims_pureM _))) (fun pl => ?_)
    split <;> first | exact sims_pureM _ | exact sims_stuck _
  · refine sims_bindM (sim_sizeOf _) (fun s => ?_)
    split <;> first | exact sims_pureM _ | exact sims_stuck _
  · exact sims_stuck _
theorem sim_buildSlice (t : TypeId) (n : Nat) (parts : Array (Nat × Value)) : SimS (PF P F) P (Instr.buildSlice t n parts) := by
  unfold Instr.buildSlice
  refine sims_bindM (sim_underlying _) (fun d => ?_)
  split
  · refine sims_bindM (sim_sizeOf _) (fun s => ?_)
    dsimp only
    repeat' (first
      | exact sims_stuck _
      | exact sims_unsup _
      | exact sims_pureM _
      | exact sim_newRow _ _
      | exact sim_zeroValue _
      | with_reducible refine sims_bindM ?_ (fun _ => ?_)
      | with_reducible refine sims_ite ?_ ?_
      | dsimp only
      | split)
  · exact sims_stuck _
theorem sim_makeChan (t : TypeId) (n : Value) : SimS (PF P F) P (Instr.makeChan t n) := by
  unfold Instr.makeChan
  refine sims_bindM (sim_asInt _) (fun k => sims_bindM (sim_underlying _) (fun d => ?_))
  split
  · repeat' (first
      | exact sims_stuck _
      | exact sim_runtimePanic _
      | exact sims_pureM _
      | exact sim_typeInfo _
      | exact SimS.new rfl (fun _ => sims_pureM _)
      | with_reducible refine sims_bindM ?_ (fun _ => ?_)
      | with_reducible refine sims_ite ?_ ?_
      | dsimp only
      | split)
  · exact sims_stuck _
theorem sim_len (ts : Array TypeId) (t : TypeId) (args : Array Value) : SimS (PF P F) P (Builtin.len_ ts t args) := by
  unfold Builtin.len_
  split
  · refine sims_bindM (sim_underlying _) (fun d => ?_)
    split
    all_goals first
      | exact sims_pureM _
      | exact sims_stuck _
      | (refine sims_bindM (sim_underlying _) (fun _ => ?_); split <;> first | exact sims_pureM _ | exact sims_stuck _)
      | (refine sim_getObj (fun o o' h => by cases h <;> rfl) (fun o => ?_) _; split <;> first | exact sims_pureM _ | exact sims_stuck _)
  · exact sims_stuck _
theorem sim_followBlind : ∀ (l : List FieldStep) (t : TypeId) (x : Option Value), SimS (PF P F) P (followBlind l t x) := by
  intro l
  induction l with
  | nil => intro t x; exact sims_pureM _
  | cons s l ih =>
    intro t x
    unfold followBlind
    refine sims_bindM (sim_underlying _) (fun d => ?_)
    split
    · split
      · split
        all_goals first
          | exact sims_pureM _
          | exact sims_stuck _
          | exact ih _ _
          | exact sims_bindM (sim_part _ _ _) (fun _ => ih _ _)
      · exact sims_stuck _
    · exact sims_stuck _
theorem sim_nilAhead : ∀ (n : Nat) (t : TypeId) (v : Value) (name : String), SimS (PF P F) P (nilAhead n t v name) := by
  intro n
  induction n with
  | zero => intro t v name; exact sims_pureM _
  | succ n ih =>
    intro t v name
    unfold nilAhead
    refine sims_bindM (sim_typeInfo _) (fun i => ?_)
    split
    · refine sims_bindM (sim_followBlind _ _ _) (fun r => ?_)
      split
      · exact sims_pureM _
      · split
        all_goals first
          | exact sims_pureM _
          | exact sims_stuck _
          | exact ih _ _ _
          | (refine sims_bindM (sim_underlying _) (fun _ => ?_); split <;> exact sims_pureM _)
    · exact sims_stuck _
def FitsF (P : Program) (F : Array Func) : Prop := ∀ (f : Nat) (g : Func), F[f]? = some g →
  (g.body.isNone = false ∧ (g.name == "runtime.NumGoroutine") = false ∧ ∃ g', P.funcs[f]? = some g' ∧ g'.body.isNone = false ∧ (g'.name == "runtime.NumGoroutine") = false) ∨
  (g.body.isNone = true ∧ g.name = "?" ∧ g.origin = "?") ∨ (g.body.isNone = true ∧ P.funcs[f]? = some g ∧ natRow g.name = true ∧ g.origin = "")
theorem natRow_find {g : Func} (h : natRow g.name = true) (ho : g.origin = "") : (g.name == "runtime.NumGoroutine") = false ∧ Extern.findNext g = none ∧ ∃ e, Extern.find g = some e ∧ ∀ (P : Program) (F : Array Func) (args : Array Value), SimS (PF P F) P (e args) := by
  obtain ⟨⟨a1, a2, a3, a4⟩, ⟨b1, b2, b3, b4⟩, c⟩ := nat_rows
  unfold natRow at h
  rw [Bool.or_eq_true, beq_iff_eq, beq_iff_eq] at h
  rcases h with h | h
  · refine ⟨by rw [h]; decide, ?_, Extern.ReflectliteType.typeOf, ?_, fun P F args => sim_typeOf args⟩
    · show ((Extern.allNextRows.lookup g.name).map _ <|> (Extern.allNextRows.lookup g.origin).map _) = none
      rw [h, ho, a1, c]; rfl
    · unfold Extern.find
      dsimp only
      rw [h, a2, a3, a4]; rfl
  · refine ⟨by rw [h]; decide, ?_, _, ?_, fun P F args => sim_comparable args⟩
    · show ((Extern.allNextRows.lookup g.name).map _ <|> (Extern.allNextRows.lookup g.origin).map _) = none
      rw [h, ho, b1, c]; rfl
    · unfold Extern.find
      dsimp only
      rw [h, b2, b3, b4]; rfl
theorem rows_q : Extern.allNextRows.lookup "?" = none ∧ Extern.allGenericRows.lookup "?" = none ∧ Extern.allTypedRows.lookup "?" = none ∧ Extern.allRows.lookup "?" = none := by
  refine ⟨?_, ?_, ?_, ?_⟩ <;> kernel_rfl
theorem findNext_q (g : Func) (h : g.name = "?") (h' : g.origin = "?") : Extern.findNext g = none ∧ Extern.find g = none := by
  obtain ⟨r1, r2, r3, r4⟩ := rows_q
  constructor
  · show ((Extern.allNextRows.lookup g.name).map _ <|> (Extern.allNextRows.lookup g.origin).map _) = none
    rw [h, h', r1]; rfl
  · have key : ∀ n : String, n = "?" → ((Extern.allGenericRows.lookup n).map (· g.targs g.params g.resultTypes) <|> (Extern.allTypedRows.lookup n).map (· g.params g.resultTypes) <|> Extern.allRows.lookup n) = none := fun n hn => by rw [hn, r2, r3, r4]; rfl
    unfold Extern.find
    dsimp only
    rw [key _ h, key _ h']
    rfl
theorem sim_callFunc (hF : FitsF P F) (f : FuncId) (args : Array Value) : SimS (PF P F) P (callFunc f args) := by
  intro S u w es h
  cases hf : F[f]? with
  | none =>
    have e : (callFunc f args).run (PF P F) u = .halt (.stuck "call: no such function") u := by
      unfold callFunc
      show Sem.run (PF P F) (match F[f]? with | none => _ | some fn => _) u = _
      rw [hf]; rfl
    rw [e]; exact fun _ => .inl trivial
  | some g =>
    rcases hF f g hf with ⟨h1, h2, g', h3, h4, h5⟩ | ⟨h1, h2, h2'⟩ | ⟨h1, h3, h2, h2'⟩
    rotate_left 2
    · obtain ⟨n1, q1, e0, q2, he⟩ := natRow_find h2 h2'
      have e1 : ∀ (Q : Program), Q.funcs[f]? = some g → ∀ v es, (callFunc f args).runT Q v es = (Sem.mark (.extern f) (e0 args >>= fun x => pure (Next.value x))).runT Q v es := fun Q hQ v es => by
        unfold callFunc
        show Sem.runT Q (match Q.funcs[f]? with | none => _ | some fn => _) v es = _
        rw [hQ]
        simp only [n1, h1, q1, q2]
        rfl
      have hm : SimS (PF P F) P (Sem.mark (.extern f) (e0 args >>= fun x => pure (Next.value x))) := SimS.extern_ (sims_bindM (he P F args) (fun _ => sims_pureM _))
      have h' := hm S u w es h
      rw [← Sem.runT_fst (PF P F) (callFunc f args) u #[], e1 (PF P F) hf, Sem.runT_fst, e1 P h3]
      exact h'
    · have e : (callFunc f args).run (PF P F) u = .ok (.enter f args) u := by
        unfold callFunc
        show Sem.run (PF P F) (match F[f]? with | none => _ | some fn => _) u = _
        rw [hf]
        simp only [h1, h2]; rfl
      have e' : (callFunc f args).runT P w es = (.ok (.enter f args) w, es) := by
        unfold callFunc
        show Sem.runT P (match P.funcs[f]? with | none => _ | some fn => _) w es = _
        rw [h3]
        simp only [h4, h5]; rfl
      rw [e, e']
      exact fun _ => ⟨w, #[], by simp, h, Nat.le_refl _, fun e he => by simp at he⟩
    · have e : ∃ x u', (callFunc f args).run (PF P F) u = .halt x u' ∧ Halt.fails x := by
        obtain ⟨q1, q2⟩ := findNext_q g h2 h2'
        have n1 : (g.name == "runtime.NumGoroutine") = false := by rw [h2]; decide
        have n2 : (g.name.endsWith ".init" && !g.name.startsWith "(" && !g.name.startsWith "gosem.") = false := by rw [h2]; decide
        apply Exists.intro
        apply Exists.intro
        apply And.intro
        · unfold callFunc
          show Sem.run (PF P F) (match F[f]? with | none => _ | some fn => _) u = _
          rw [hf]
          simp only [h1, n1, q1, q2, n2]
          rfl
        · trivial
      obtain ⟨x, u', hx, hfx⟩ := e
      rw [hx]; exact fun _ => .inl hfx
theorem sim_callMethod (hF : FitsF P F) (r : Value) (m : String) (args : Array Value) : SimS (PF P F) P (callMethod r m args) := by
  unfold callMethod
  split
  · refine sims_prog (by rfl) ?_
    refine sims_bindM (sim_method _ _ _ _) (fun p => ?_)
    obtain ⟨f, rc⟩ := p
    exact sim_callFunc hF _ _
  · exact sim_runtimePanic _
  · exact sims_stuck _
theorem sim_invokeM (hF : FitsF P F) (m : String) (cap args : Array Value) : SimS (PF P F) P (invoke (.fn (.method m) cap) args) := by
  unfold invoke
  dsimp only
  split
  · exact sim_callMethod hF _ _ _
  · exact sims_stuck _
def isIntT (P : Program) (t : TypeId) : Bool := match P.underlying t with | some (.int _) => true | _ => false
def okOp (P : Program) (o : Oper) : Bool :=
  match o.op with
  | .move _ | .assign _ | .pick .. | .alloc _ | .box .. | .build .. | .buildSlice .. | .load .. | .store .. | .nilCheck _ | .binOp .. | .unOp .. | .makeInterface .. | .makeSlice .. | .makeChan .. | .slice .. | .fieldAddr .. | .field .. | .indexAddr .. | .typeAssert .. | .extract .. => true
  | .convert s d _ => isIntT P s && isIntT P d
  | .call { callee := .value (.func _), .. } => true
  | .call { callee := .invoke .., .. } => true
  | .call { callee := .builtin .append, .. } | .call { callee := .builtin .len, .. } | .call { callee := .builtin .copy, .. } => true
  | _ => false
theorem sims_underlying {t : TypeId} {d : TypeDesc} {f : TypeDesc → Sem β} (h : P.underlying t = some d) (hf : SimS (PF P F) P (f d)) : SimS (PF P F) P (underlying t >>= f) := by
  have e : ∀ (Q : Program) (v : World) (es : Array Event), Q.underlying t = some d → (underlying t >>= f).runT Q v es = (f d).runT Q v es := fun Q v es hq => by
    show Sem.runT Q (Sem.bind (match Q.underlying t with | some x => Sem.pure x | none => Sem.halt _) f) v es = _
    rw [hq]; rfl
  intro S u w es hs
  have e1 := e (PF P F) u #[] h
  have e2 := e P w es h
  have e3 : (underlying t >>= f).run (PF P F) u = (f d).run (PF P F) u := by rw [← Sem.runT_fst (PF P F) _ u #[], e1, Sem.runT_fst]
  rw [e3, e2]
  exact hf S u w es hs
theorem sim_convert (s d : TypeId) (x : Value) (hs : isIntT P s = true) (hd : isIntT P d = true) : SimS (PF P F) P (convert s d x) := by
  unfold isIntT at hs hd
  obtain ⟨k, hk⟩ : ∃ k, P.underlying s = some (.int k) := by
    cases h : P.underlying s with
    | none => rw [h] at hs; cases hs
    | some t => rw [h] at hs; cases t <;> first | exact ⟨_, rfl⟩ | cases hs
  obtain ⟨l, hl⟩ : ∃ k, P.underlying d = some (.int k) := by
    cases h : P.underlying d with
    | none => rw [h] at hd; cases hd
    | some t => rw [h] at hd; cases t <;> first | exact ⟨_, rfl⟩ | cases hd
  unfold convert
  refine sims_underlying hk (sims_underlying hl ?_)
  cases x
  case pointer a => cases a <;> exact sims_unsup _
  case int => exact sims_pureM _
  case float => exact sim_floatToInt _ _ _
  all_goals exact sims_unsup _
theorem sim_execOp (hF : FitsF P F) (ρ : Operand → Value) (hρ : ∀ f, ρ (.func f) = .func (.func f) #[] #[]) (o : Oper) (ho : okOp P o = true) : SimS (PF P F) P (execOp ρ o) := by
  have v : ∀ {s : Sem Value}, SimS (PF P F) P s → SimS (PF P F) P (do pure (Next.value (← s))) := fun hs => sims_bindM hs (fun _ => sims_pureM _)
  have u : ∀ {s : Sem Unit}, SimS (PF P F) P s → SimS (PF P F) P (do s; pure Next.skip) := fun hs => sims_bindM hs (fun _ => sims_pureM _)
  obtain ⟨dst, op, type, pos, after, guard⟩ := o
  unfold execOp
  cases op
  case move => exact sims_pureM _
  case assign => exact sims_pureM _
  case pick => exact sims_bindM (sim_asBool _) (fun _ => sims_pureM _)
  case alloc => exact v (sim_alloc _ _ _)
  case box => exact v (sim_box _ _)
  case build => exact v (sim_build _ _)
  case buildSlice => exact v (sim_buildSlice _ _ _)
  case load => exact v (sim_loadAt _ _)
  case store => exact u (sim_storeAt _ _ _)
  case nilCheck x =>
    dsimp only
    split
    · exact sim_runtimePanic _
    · exact sim_runtimePanic _
    · exact sim_runtimePanic _
    · split
      · exact sim_runtimePanic _
      · refine sims_prog (by rfl) ?_
        refine sims_bindM (sim_nilAhead _ _ _ _) (fun r => ?_)
        split
        · exact sims_bindM (sims_unsup _) (fun _ => sims_pureM _)
        · exact sims_pureM _
      · exact sims_pureM _
    · exact sims_pureM _
  case binOp => exact v (sims_bindM (sim_eqGuard _ _ _ _ _ _) (fun _ => sim_binOp _ _ _ _))
  case unOp => exact v (sim_unary _ _)
  case makeInterface => exact v (sim_makeInterface _ _)
  case makeSlice => exact v (sim_makeSlice _ _ _)
  case makeChan => exact v (sim_makeChan _ _)
  case slice => exact v (sim_sliceAt _ _ _ _ _)
  case fieldAddr => exact v (sim_fieldAt _ _ _)
  case field => exact v (sim_field _ _ _)
  case indexAddr => exact v (sim_indexAt _ _ _)
  case typeAssert => exact v (sim_typeAssert _ _ _ _)
  case extract => exact v (sim_extract _ _)
  case convert s d x =>
    simp only [okOp, Bool.and_eq_true] at ho
    exact v (sim_convert _ _ _ ho.1 ho.2)
  case call c =>
    obtain ⟨callee, args, argTypes⟩ := c
    cases callee
    case value f =>
      cases f
      case func f =>
        show SimS _ _ (do let d ← Deferred.ofValue (ρ (.func f)) (args.map ρ); invoke d.target d.args)
        rw [hρ]
        exact sim_callFunc hF f _
      all_goals cases ho
    case builtin b =>
      cases b
      all_goals first
        | (cases ho; done)
        | exact v (sim_append _ _ _)
        | exact v (sim_len _ _ _)
        | exact v (sim_copy _ _ _)
    case invoke r m =>
      show SimS _ _ (invoke (.fn (.method m) #[]) (#[ρ r] ++ args.map ρ))
      exact sim_invokeM hF _ _ _
  all_goals cases ho
end
end Go.Proofs.YtemgilofjbnoaaaGreatDoor
namespace Go.Proofs.YtemgilofjbnoaaaGreatDoor
open Go Go.Conc
set_option linter.unusedVariables false
set_option linter.unusedSimpArgs false
section
variable {U P : Program} {α β : Type} {Q Q' : Hidn → Nat → Prop}
def SimG (Q : Hidn → Nat → Prop) (U P : Program) {α : Type} (s : Sem α) : Prop := ∀ (S : Hidn) (u w : World) (es : Array Event), Q S u.heap.size → Sim S u w → SimOut S u.heap.size (s.run U u) (s.runT P w es) es
def QW (S : Hidn) (_ : Nat) : Prop := S.m = true
def QR (Q : Hidn → Nat → Prop) (r : Nat) (S : Hidn) (n : Nat) : Prop := Q S n ∧ ¬ S r ∧ r < n
def Up (Q : Hidn → Nat → Prop) : Prop := ∀ S n m, n ≤ m → Q S n → Q S m
theorem up_qw : Up QW := fun _ _ _ _ h => h
theorem up_qr {r : Nat} (h : Up Q) : Up (QR Q r) := fun S n m hn hq => ⟨h S n m hn hq.1, hq.2.1, Nat.lt_of_lt_of_le hq.2.2 hn⟩
theorem SimS.g {s : Sem α} (h : SimS U P s) : SimG Q U P s := fun S u w es _ hs => h S u w es hs
theorem SimG.bind {s : Sem α} {f : α → Sem β} (hU : Up Q) (hs : SimG Q U P s) (hf : ∀ a, SimG Q U P (f a)) : SimG Q U P (s.bind f) := by
  intro S u w es q h
  have h1 := hs S u w es q h
  rw [Sem.runT_bind']
  have e : (s.bind f).run U u = match s.run U u with | .ok a w => (f a).run U w | .halt x w => .halt x w := by
    have := congrArg Prod.fst (Sem.runT_bind' U s f u #[])
    rw [Sem.runT_fst] at this
    rw [this, ← Sem.runT_fst U s u #[]]
    rcases s.runT U u #[] with ⟨_ | _, _⟩
    · simp only []; rw [Sem.runT_fst]
    · rfl
  rw [e]
  cases hr : s.run U u with
  | ok a u' =>
    rw [hr] at h1
    refine SimOut.of fun hT => ?_
    obtain ⟨w', es', h2, h3, h4, h5⟩ := h1 (Nat.le_trans (run_drawn U (f a) u') hT)
    rw [h2]
    exact (hf a S u' w' (es ++ es') (hU _ _ _ h4 q) h3).more h4 h5
  | halt x u' =>
    rw [hr] at h1
    intro hT
    rcases h1 hT with h1 | ⟨hp, w', es', h2, h3, h4, h5⟩
    · exact .inl h1
    · rw [h2]; exact .inr ⟨hp, w', es', rfl, h3, h4, h5⟩
theorem SimG.bindM {s : Sem α} {f : α → Sem β} (hU : Up Q) (hs : SimG Q U P s) (hf : ∀ a, SimG Q U P (f a)) : SimG Q U P (s >>= f) := SimG.bind hU hs hf
theorem SimG.ite {c : Prop} [Decidable c] {s t : Sem α} (h1 : SimG Q U P s) (h2 : SimG Q U P t) : SimG Q U P (if c then s else t) := by split <;> assumption
theorem SimG.getObj {r : Nat} {k : Obj → Sem α} (hs : ∀ o o', Alike o o' → ∃ x, k o = .halt x ∧ Halt.fails x) (hk : ∀ o, okObj o = true → SimG (QR Q r) U P (k o)) : SimG Q U P (.getObj r k) := by
  intro S u w es q h
  simp only [Sem.run, Sem.runT]
  cases hu : u.heap[r]? with
  | none => exact fun _ => .inl trivial
  | some o =>
    by_cases hS : S r
    · obtain ⟨o1, o2, h1, h2, h3⟩ := h.ins r hS
      rw [hu] at h1; injection h1 with h1; subst h1
      obtain ⟨x, hx, hf⟩ := hs _ _ h3
      cases h3 with
      | hid => exact fun _ => .inl trivial
      | chan => simp only [hx, Sem.run]; exact fun _ => .inl hf
      | view => simp only [hx, Sem.run]; exact fun _ => .inl hf
      | loop => simp only [hx, Sem.run]; exact fun _ => .inl hf
      | defd => simp only [hx, Sem.run]; exact fun _ => .inl hf
    · have h2 : w.heap[r]? = some o := by rw [← h.out r hS]; exact hu
      rw [h2]
      have hlt : r < u.heap.size := (Array.getElem?_eq_some_iff.1 hu).1
      have key : SimOut S u.heap.size ((k o).run U u) ((k o).runT P w (es.push ⟨.obj r, false, o.isChan⟩)) es := by
        rw [push_app]
        refine (hk o (h.views _ _ hu) S u w _ ⟨q, hS, hlt⟩ h).more (Nat.le_refl _) (fun e hx => ?_)
        simp at hx; subst hx
        exact .inr (.inl ⟨r, _, rfl, hlt⟩)
      cases o with
      | cells => exact fun _ => .inl trivial
      | _ => exact key
theorem Sim.setObj {S : Hidn} {u w : World} (h : Sim S u w) {r : Nat} (hr : ¬ S r) {o : Obj} (ho : okObj o = true) : Sim S { u with heap := u.heap.setIfInBounds r o } { w with heap := w.heap.setIfInBounds r o } := by
  refine ⟨by simp [h.size], fun b hb => ?_, fun b hb => ?_, fun b o1 hb => ?_, h.os, h.output, h.tape, fun b hb => ?_, h.off, h.tap⟩
  · simp only [Array.getElem?_setIfInBounds, h.size]
    rw [h.out b hb]
  · have hne : r ≠ b := fun e => hr (e ▸ hb)
    simp only [Array.getElem?_setIfInBounds, hne, if_false]
    exact h.ins b hb
  · simp only [Array.getElem?_setIfInBounds] at hb
    split at hb
    · split at hb
      · injection hb with hb; subst hb; exact ho
      · cases hb
    · exact h.views _ _ hb
  · have hne : r ≠ b := fun e => hr (e ▸ hb)
    simp only [Array.getElem?_setIfInBounds, hne, if_false]
    exact h.kept b hb
theorem SimG.setObj {r : Nat} {o : Obj} {k : Sem α} (hU : Up Q) (hQ : ∀ S n, Q S n → S.m = true ∧ ¬ S r ∧ r < n) (ho : okObj o = true) (hk : SimG Q U P k) : SimG Q U P (.setObj r o k) := by
  intro S u w es q h
  obtain ⟨hm, hr, hlt⟩ := hQ _ _ q
  simp only [Sem.run, Sem.runT]
  rw [← h.out r hr]
  have key : SimOut S u.heap.size (k.run U { u with heap := u.heap.setIfInBounds r o }) (k.runT P { w with heap := w.heap.setIfInBounds r o } (es.push ⟨.obj r, true, o.isChan⟩)) es := by
    rw [push_app]
    have := hk S _ _ (es ++ #[⟨.obj r, true, o.isChan⟩]) (hU _ _ _ (by simp) q) (h.setObj hr ho)
    refine SimOut.more this (by simp) (fun e he => ?_)
    simp at he; subst he
    exact .inr (.inr (.inr (.inr ⟨hm, r, _, rfl, hr, by simpa using hlt⟩)))
  cases hu : u.heap[r]? with
  | none => exact fun _ => .inl trivial
  | some o' =>
    cases o' with
    | cells => exact fun _ => .inl trivial
    | _ => exact key
end
section
variable {P : Program} {F : Array Func} {α β : Type} {Q : Hidn → Nat → Prop}
theorem simg_underlying {t : TypeId} {d : TypeDesc} {f : TypeDesc → Sem β} (h : P.underlying t = some d) (hf : SimG Q (PF P F) P (f d)) : SimG Q (PF P F) P (underlying t >>= f) := by
  have e : ∀ (R : Program) (v : World) (es : Array Event), R.underlying t = some d → (underlying t >>= f).runT R v es = (f d).runT R v es := fun R v es hq => by
    show Sem.runT R (Sem.bind (match R.underlying t with | some x => Sem.pure x | none => Sem.halt _) f) v es = _
    rw [hq]; rfl
  intro S u w es q hs
  have e1 := e (PF P F) u #[] h
  have e2 := e P w es h
  have e3 : (underlying t >>= f).run (PF P F) u = (f d).run (PF P F) u := by rw [← Sem.runT_fst (PF P F) _ u #[], e1, Sem.runT_fst]
  rw [e3, e2]
  exact hf S u w es q hs
def intMap (P : Program) (t : TypeId) : Bool := match P.underlying t with
  | some (.map k _) => (match P.underlying k with | some (.int _) => true | _ => false)
  | _ => false
theorem intMap_is {t : TypeId} (h : intMap P t = true) : ∃ k e i, P.underlying t = some (.map k e) ∧ P.underlying k = some (.int i) := by
  unfold intMap at h
  split at h
  · rename_i k e h1
    split at h
    · rename_i i h2
      exact ⟨k, e, i, h1, h2⟩
    · cases h
  · cases h
theorem simg_checkKey {e : Bool} {n : Nat} {k : TypeId} {i : IntKind} {v : Value} (h : P.underlying k = some (.int i)) : SimG Q (PF P F) P (Instr.checkKey e (n + 1) k v) := by
  unfold Instr.checkKey
  refine simg_underlying h ?_
  cases v <;> exact (sims_pureM _).g
theorem simg_findAsking {k : TypeId} {x : Value} : ∀ (l : List MapEntry) (i : Nat), SimS (PF P F) P (Instr.findAsking k x l i) := by
  intro l
  induction l with
  | nil => intro i; exact sims_pureM _
  | cons e l ih =>
    intro i
    unfold Instr.findAsking
    exact sims_bindM (sim_equal _ _ _) (fun b => sims_ite (sims_pureM _) (ih _))
theorem simg_findKey {k : TypeId} {x : Value} {l : List MapEntry} : SimS (PF P F) P (Instr.findKey k x l) := by
  unfold Instr.findKey
  refine sims_bindM (sim_underlying _) (fun d => ?_)
  split
  · exact sims_pureM _
  · exact simg_findAsking _ _
theorem simg_lookup {t : TypeId} {x ix : Value} {ok : Bool} (h : intMap P t = true) (hU : Up Q) : SimG Q (PF P F) P (Instr.lookup t x ix ok) := by
  obtain ⟨k, e, i, h1, h2⟩ := intMap_is h
  unfold Instr.lookup
  refine simg_underlying h1 ?_
  have rest : ∀ {Q' : Hidn → Nat → Prop} (_ : Up Q') (es : Array MapEntry), SimG Q' (PF P F) P (do
      Instr.checkKey es.isEmpty 10000 k ix
      let (v, ok') ← match ← Instr.findKey k ix es.toList with
        | some (_, v) => pure (v, true)
        | none => pure (← zeroValue e, false)
      pure (if ok then Value.tuple #[v, .bool ok'] else v)) := fun hU' es => by
    refine SimG.bindM hU' (simg_checkKey h2) (fun _ => (sims_bindM simg_findKey (fun r => ?_)).g)
    cases ok <;> cases r <;> first
      | exact sims_pureM _
      | exact sims_bindM (sims_pureM _) (fun _ => sims_pureM _)
      | exact sims_bindM (sim_zeroValue _) (fun _ => sims_pureM _)
      | exact sims_bindM (sims_bindM (sim_zeroValue _) (fun _ => sims_pureM _)) (fun _ => sims_pureM _)
  cases x
  case map m =>
    cases m with
    | none => exact rest hU _
    | some r =>
      refine SimG.getObj (fun o o' ho => ?_) (fun o oko => ?_)
      · cases ho <;> exact ⟨_, rfl, trivial⟩
      · cases o
        case map es c => exact rest (up_qr hU) es
        all_goals exact (sims_stuck _).g
  all_goals exact (sims_stuck _).g
theorem simg_mapUpdate {t : TypeId} {m key v : Value} (h : intMap P t = true) : SimG QW (PF P F) P (Instr.mapUpdate t m key v) := by
  obtain ⟨k, e, i, h1, h2⟩ := intMap_is h
  unfold Instr.mapUpdate
  refine simg_underlying h1 ?_
  cases m
  case map m =>
    cases m with
    | none => exact (sim_runtimePanic _).g
    | some r =>
      refine SimG.getObj (fun o o' ho => ?_) (fun o oko => ?_)
      · cases ho <;> exact ⟨_, rfl, trivial⟩
      · have hQ : ∀ S n, QR QW r S n → S.m = true ∧ ¬ S r ∧ r < n := fun S n q => ⟨q.1, q.2.1, q.2.2⟩
        have hU := up_qr (r := r) up_qw
        have main : ∀ (es : Array MapEntry) (c : Nat), SimG (QR QW r) (PF P F) P (do
            Instr.checkKey false 10000 k key
            match ← Instr.findKey k key es.toList with
            | some (i, _) => do
              let key ← Instr.keyThatStays (((es[i]?).map (·.key)).getD key) key
              setObj r (.map (es.modify i fun e => { e with key, val := v }) c)
            | none => setObj r (.map (es.push { key, val := v, born := c }) (c + 1))) := fun es c => by
          refine SimG.bindM hU (simg_checkKey h2) (fun _ => SimG.bindM hU simg_findKey.g (fun x => ?_))
          cases x with
          | none => exact SimG.setObj hU hQ rfl (sims_pureM _).g
          | some x =>
            obtain ⟨j, y⟩ := x
            refine SimG.bindM hU (SimS.g ?_) (fun kk => SimG.setObj hU hQ rfl (sims_pureM _).g)
            unfold Instr.keyThatStays
            exact sims_ite (sims_pureM _) (sims_bindM (sims_choose1 _) (fun _ => sims_pureM _))
        cases o
        case map es c => exact main es c
        all_goals exact (sims_stuck _).g
  all_goals exact (sims_stuck _).g
theorem simg_makeMap {t : TypeId} {r : Option Value} : SimS (PF P F) P (Instr.makeMap t r) := by
  unfold Instr.makeMap
  have fin : SimS (PF P F) P (do pure (Value.map (some (← newObj (.map #[] 0))))) := SimS.new rfl (fun v => SimS.pure _)
  cases r with
  | none => exact fin
  | some x =>
    refine sims_bindM (sim_underlying _) (fun d => ?_)
    cases d
    case map => exact sims_bindM (sim_asInt _) (fun _ => fin)
    all_goals exact sims_stuck _
theorem sim_range {t : TypeId} {x : Value} : SimS (PF P F) P (Instr.range t x) := by
  unfold Instr.range
  refine sims_bindM (sim_underlying _) (fun d => ?_)
  have fin : ∀ it : Obj, okObj it = true → SimS (PF P F) P (do pure (Value.pointer (some ⟨← newObj it, 0, none⟩))) := fun it hi => SimS.new hi (fun v => SimS.pure _)
  split
  · exact fin _ rfl
  · exact fin _ rfl
  · refine sim_getObj (fun o o' h => by cases h <;> rfl) (fun o => ?_) _
    cases o
    case map es c => exact fin _ rfl
    all_goals exact sims_stuck _
  · exact sims_stuck _
theorem simg_next {it : Value} {b : Bool} {t : TypeId} : SimG QW (PF P F) P (Instr.next it b t) := by
  unfold Instr.next
  split
  · rename_i r q
    refine SimG.getObj (fun o o' ho => ?_) (fun o oko => ?_)
    · cases ho <;> exact ⟨_, rfl, trivial⟩
    · have hU := up_qr (r := r) up_qw
      have hQ : ∀ S n, QR QW r S n → S.m = true ∧ ¬ S r ∧ r < n := fun S n q => ⟨q.1, q.2.1, q.2.2⟩
      cases o
      case mapIter m since seen last =>
        cases m with
        | none => cases b <;> first | exact (sims_pureM _).g | exact (sims_stuck _).g
        | some m =>
          cases b
          · refine SimG.getObj (fun o o' ho => ?_) (fun o oko => ?_)
            · cases ho <;> exact ⟨_, rfl, trivial⟩
            · have hU2 := up_qr (r := m) hU
              have hQ2 : ∀ S n, QR (QR QW r) m S n → S.m = true ∧ ¬ S r ∧ r < n := fun S n q => hQ S n q.1
              cases o
              case map es clock =>
                refine SimG.ite (SimG.bindM hU2 (sims_unsup _).g (fun _ => ?_)) ?_
                all_goals
                  refine SimG.bindM hU2 (sims_choose1 _).g (fun i => ?_)
                  split
                  · exact SimG.setObj hU2 hQ2 rfl (sims_pureM _).g
                  · exact (sims_pureM _).g
                  · exact (sims_stuck _).g
              all_goals exact (sims_stuck _).g
          · exact (sims_stuck _).g
      case stringIter s p =>
        cases b
        · exact (sims_stuck _).g
        · exact SimG.ite (SimG.setObj hU hQ rfl (sims_pureM _).g) (sims_pureM _).g
      all_goals exact (sims_stuck _).g
  · exact (sims_stuck _).g
theorem simg_getLoop {l : Nat} {f : Loop → Sem β} (hf : ∀ r, okObj (.loop r) = true → SimG (QR Q l) (PF P F) P (f r)) : SimG Q (PF P F) P (Instr.getLoop l >>= f) := by
  unfold Instr.getLoop
  show SimG Q _ _ (Sem.getObj l _)
  refine SimG.getObj (fun o o' ho => ?_) (fun o oko => ?_)
  · cases ho <;> exact ⟨_, rfl, trivial⟩
  · cases o
    case loop r => exact hf r oko
    all_goals exact (sims_stuck _).g
theorem simg_yield {l : Nat} {args : Array Value} (hU : Up Q) : SimG Q (PF P F) P (Instr.yield l args) := by
  unfold Instr.yield
  exact simg_getLoop fun r hr => SimG.ite (SimG.bindM (up_qr hU) (sims_stuck _).g fun _ => (sims_pureM _).g) (sims_pureM _).g
theorem simg_beginRound {l : Nat} : SimG QW (PF P F) P (Instr.beginRound l) := by
  unfold Instr.beginRound
  refine simg_getLoop fun r hr => ?_
  refine SimG.setObj (up_qr up_qw) (fun S n q => ⟨q.1, q.2.1, q.2.2⟩) hr (SimS.g ?_)
  split <;> first | exact sims_pureM _ | exact SimS.bind (SimS.pure ()) (fun _ => sim_runtimePanic _)
theorem simg_endRound {l : Nat} {jump : Option Code} (hj : ∀ c, jump = some c → okCode0 c = true) : SimG QW (PF P F) P (Instr.endRound l jump) := by
  unfold Instr.endRound
  refine simg_getLoop fun r hr => ?_
  refine SimG.setObj (up_qr up_qw) (fun S n q => ⟨q.1, q.2.1, q.2.2⟩) ?_ (sims_pureM _).g
  simp only [okObj, Bool.and_eq_true] at hr ⊢
  refine ⟨hr.1, ?_⟩
  cases jump with
  | none => rfl
  | some c => exact hj c rfl
theorem simg_endLoop {l : Nat} : SimG QW (PF P F) P (Instr.endLoop l) := by
  unfold Instr.endLoop
  refine simg_getLoop fun r hr => ?_
  have key : SimG (QR QW l) (PF P F) P (do setObj l (.loop { r with state := .exhausted }); pure r.pending) := SimG.setObj (up_qr up_qw) (fun S n q => ⟨q.1, q.2.1, q.2.2⟩) hr (sims_pureM _).g
  exact SimG.ite (SimG.bindM (up_qr up_qw) (sim_runtimePanic _).g fun _ => key) key
theorem simg_takeDeferred {b : Nat} : SimG QW (PF P F) P (Instr.takeDeferred b) := by
  unfold Instr.takeDeferred
  show SimG QW _ _ (Sem.getObj b _)
  refine SimG.getObj (fun o o' ho => ?_) (fun o oko => ?_)
  · cases ho <;> exact ⟨_, rfl, trivial⟩
  · cases o
    case deferred ds =>
      cases ds with
      | none => exact (sims_stuck _).g
      | some ds => exact SimG.setObj (up_qr up_qw) (fun S n q => ⟨q.1, q.2.1, q.2.2⟩) rfl (sims_pureM _).g
    all_goals exact (sims_stuck _).g
theorem simg_enterLoop {fn : FuncId} {tmps : Array Value} {params : Array Tmp} {a b : Code} {r : Option Nat} (hU : Up Q) (ha : okCode0 a = true) (hb : okCode0 b = true) : SimG Q (PF P F) P (Instr.enterLoop fn tmps params a b r) := by
  unfold Instr.enterLoop
  have fin : ∀ (d : Nat) (m : List Deferred), SimS (PF P F) P (do pure (← newObj (.loop { state := .ready, pending := none, fn, tmps, params, assign := a, body := b, defers := d }), m)) := fun d m => SimS.new (by simp [okObj, ha, hb]) fun v => SimS.pure _
  cases r with
  | some l => exact simg_getLoop fun r hr => (fin _ _).g
  | none => exact (SimS.new rfl fun v => fin _ _).g
theorem simg_entry {it : Value} (hU : Up Q) : SimG Q (PF P F) P (Instr.entry it) := by
  unfold Instr.entry
  split
  · rename_i r q
    refine SimG.getObj (fun o o' ho => ?_) (fun o oko => ?_)
    · cases ho <;> exact ⟨_, rfl, trivial⟩
    · cases o
      case mapIter m since seen stepped =>
        cases m with
        | none => exact (sims_stuck _).g
        | some m =>
          have main : ∀ stamp, SimG (QR Q r) (PF P F) P (do
              let .map es clock ← getObj m | stuck "Entry: map expected"
              if clock != stepped then unsupported (.noEntry "instr/Entry: an insertion since the step")
              match es.find? (·.born == stamp) with
              | some e => pure (Value.tuple #[e.key, e.val])
              | none => unsupported (.noEntry "instr/Entry.removed")) := fun stamp => by
            refine SimG.getObj (fun o o' ho => ?_) (fun o oko => ?_)
            · cases ho <;> exact ⟨_, rfl, trivial⟩
            · cases o
              case map es clock =>
                refine SimS.g ?_
                have key : SimS (PF P F) P (match es.find? (·.born == stamp) with | some e => pure (Value.tuple #[e.key, e.val]) | none => unsupported (.noEntry "instr/Entry.removed")) := by
                  split <;> first | exact sims_pureM _ | exact sims_unsup _
                exact sims_ite (sims_bindM (sims_unsup _) fun _ => key) key
              all_goals exact (sims_stuck _).g
          have e : ∀ (f : Obj → Sem Value) (o : Obj), (Sem.pure o).bind f = f o := fun _ _ => rfl
          refine (e _ _).symm ▸ ?_
          dsimp only
          split
          · exact main _
          · exact (sims_stuck _).g
      all_goals exact (sims_stuck _).g
  · exact (sims_stuck _).g
theorem sim_index {t : TypeId} {x ix : Value} : SimS (PF P F) P (Instr.index t x ix) := by
  unfold Instr.index
  refine sims_bindM (sim_asIntOf _) (fun k => sims_bindM (sim_underlying _) (fun d => ?_))
  split
  · refine sims_ite (sims_bindM (sim_sizeOf _) (fun _ => sim_part _ _ _)) (sim_boundsPanic _ _ _ _)
  · split <;> first | exact sims_pureM _ | exact sim_boundsPanic _ _ _ _
  · exact sims_stuck _
theorem sim_receiverVia (t : TypeId) (v : Value) (path : Array FieldStep) (b : Bool) : SimS (PF P F) P (receiverVia t v path b) := by
  unfold receiverVia
  refine sims_bindM (sim_follow _ _ _) (fun x => ?_)
  exact sim_receiverAt _ _ _ _
theorem simg_invoke (hF : FitsF P F) (hU : Up Q) {t : Target} (ht : ∃ fn c, t = .fn fn c ∨ t = .nil) (args : Array Value) : SimG Q (PF P F) P (invoke t args) := by
  obtain ⟨fn, c, rfl | rfl⟩ := ht
  · unfold invoke
    cases fn
    case func f => exact (sim_callFunc hF _ _).g
    case method m =>
      dsimp only
      split
      · exact (sim_callMethod hF _ _ _).g
      · exact (sims_stuck _).g
    case methodOf t m =>
      dsimp only
      split
      · refine SimS.g (sims_bindM (sim_underlying _) (fun d => ?_))
        exact sim_callMethod hF _ _ _
      · exact (sims_stuck _).g
    case via =>
      dsimp only
      split
      · exact SimS.g (sims_bindM (sim_receiverVia _ _ _ _) (fun x => sim_callFunc hF _ _))
      · exact (sims_stuck _).g
    case yield l => exact simg_yield hU
  · have : SimG Q (PF P F) P (runtimePanic .nilDeref : Sem Next) := (sim_runtimePanic _).g
    exact this
theorem simg_callValue (hF : FitsF P F) (hU : Up Q) (v : Value) (args : Array Value) : SimG Q (PF P F) P (do let d ← Deferred.ofValue v args; invoke d.target d.args) := by
  cases v
  case func fn first cap => exact simg_invoke hF hU (t := .fn fn cap) ⟨fn, cap, .inl rfl⟩ (first ++ args)
  case nilFunc => exact simg_invoke hF hU (t := .nil) ⟨.func 0, #[], .inr rfl⟩ args
  all_goals exact (sims_stuck _).g
def okOpM (P : Program) (o : Oper) : Bool :=
  okOp P o || match o.op with
  | .makeMap .. | .range .. | .next .. | .entry .. | .index .. | .makeFunc .. => true
  | .lookup t _ _ _ | .mapUpdate t _ _ _ => intMap P t
  | .call { callee := .value (.tmp _), .. } => true
  | _ => false
theorem okOp0_okOp {o : Oper} (h : okOp0 o = true) : okOp P o = true := by
  obtain ⟨dst, op, type, pos, after, guard⟩ := o
  cases op
  case call c =>
    obtain ⟨callee, args, argTypes⟩ := c
    cases callee
    case value f => cases f <;> first | rfl | cases h
    case builtin b => cases b <;> first | rfl | cases h
    case invoke => cases h
  all_goals first | rfl | cases h
theorem simg_execOp (hF : FitsF P F) (ρ : Operand → Value) (hρ : ∀ f, ρ (.func f) = .func (.func f) #[] #[]) (o : Oper) (ho : okOpM P o = true) : SimG QW (PF P F) P (execOp ρ o) := by
  by_cases h1 : okOp P o = true
  · exact (sim_execOp hF ρ hρ o h1).g
  simp only [okOpM, Bool.or_eq_true] at ho
  replace ho := ho.resolve_left h1
  have v : ∀ {s : Sem Value}, SimG QW (PF P F) P s → SimG QW (PF P F) P (do pure (Next.value (← s))) := fun hs => SimG.bindM up_qw hs (fun _ => (sims_pureM _).g)
  have u : ∀ {s : Sem Unit}, SimG QW (PF P F) P s → SimG QW (PF P F) P (do s; pure Next.skip) := fun hs => SimG.bindM up_qw hs (fun _ => (sims_pureM _).g)
  obtain ⟨dst, op, type, pos, after, guard⟩ := o
  unfold execOp
  cases op
  case makeMap => exact v simg_makeMap.g
  case range => exact v sim_range.g
  case next => exact v simg_next
  case entry => exact v (simg_entry up_qw)
  case index => exact v sim_index.g
  case makeFunc => exact v (sims_pureM _).g
  case lookup => exact v (simg_lookup ho up_qw)
  case mapUpdate => exact u (simg_mapUpdate ho)
  case call c =>
    obtain ⟨callee, args, argTypes⟩ := c
    cases callee
    case value f =>
      cases f
      case tmp t => exact simg_callValue hF up_qw _ _
      all_goals cases ho
    all_goals cases ho
  all_goals cases ho
end
end Go.Proofs.YtemgilofjbnoaaaGreatDoor
namespace Go.Proofs.YtemgilofjbnoaaaGreatDoor
open Go Go.Conc
set_option linter.unusedVariables false
set_option linter.unusedSimpArgs false
def okCode (P : Program) : Code → Bool
  | .skip | .ret | .label _ | .exit _ => true
  | .seq a b => okCode P a && okCode P b
  | .cond _ a b => okCode P a && okCode P b
  | .block _ c => okCode P c
  | .loop c => okCode P c
  | .region _ ops _ => ops.all (okOpM P)
  | .rangeFunc f _ a b => (match f with | .tmp _ => true | _ => false) && okCode0 a && okCode0 b
  | _ => false
theorem okOp0_okOpM {P : Program} {o : Oper} (h : okOp0 o = true) : okOpM P o = true := by
  unfold okOpM
  rw [okOp0_okOp h]; rfl
theorem okCode0_ok (P : Program) : ∀ c : Code, okCode0 c = true → okCode P c = true := by
  intro c
  induction c with
  | region i ops b =>
    intro h
    simp only [okCode, okCode0, Array.all_eq_true_iff_forall_mem] at h ⊢
    exact fun o ho => okOp0_okOpM (h o ho)
  | seq a b iha ihb => intro h; simp only [okCode, okCode0, Bool.and_eq_true] at h ⊢; exact ⟨iha h.1, ihb h.2⟩
  | cond x a b iha ihb => intro h; simp only [okCode, okCode0, Bool.and_eq_true] at h ⊢; exact ⟨iha h.1, ihb h.2⟩
  | block i c ih => intro h; simp only [okCode, okCode0] at h ⊢; exact ih h
  | loop c ih => intro h; simp only [okCode, okCode0] at h ⊢; exact ih h
  | _ => intro h; first | rfl | cases h
def okItem (P : Program) : Item → Bool
  | .code c => okCode P c
  | .inBlock _ => true
  | .inLoop c => okCode P c
  | .inRegion ops _ => ops.all (okOpM P)
  | .inRangeFunc _ | .endRangeFunc _ | .beginRound => true
  | _ => false
structure OkFr (P : Program) (F : Array Func) (k0 : FuncId) (fr : Frame) : Prop where
  fn : fr.fn ≠ k0
  fun_ : ∃ g, P.funcs[fr.fn]? = some g ∧ F[fr.fn]? = some g
  todo : ∀ it ∈ fr.todo, okItem P it = true
  defers : fr.defers = []
  kind : fr.kind = .normal
  round : fr.roundOf = none
structure OkFm (P : Program) (F : Array Func) (k0 : FuncId) (fr : Frame) : Prop where
  todo : ∀ it ∈ fr.todo, okItem P it = true
  kind : fr.kind = .normal
  defers : ∀ d ∈ fr.defers, ∃ r, d = { target := .collected r, args := #[] }
  form : (fr.roundOf = none ∧ fr.fn ≠ k0 ∧ ∃ g, P.funcs[fr.fn]? = some g ∧ F[fr.fn]? = some g) ∨ (fr.roundOf ≠ none ∧ fr.defers = [] ∧ fr.mode ≠ .returning)
def Low : Frame → List Frame → Prop
  | fr, [] => fr.roundOf = none
  | _, c :: cs => Low c cs
structure OkSt (P : Program) (F : Array Func) (k0 : FuncId) (fr : Frame) (cs : List Frame) : Prop where
  m : OkFm P F k0 fr
  ms : ∀ c ∈ cs, OkFm P F k0 c
  low : Low fr cs
structure FitsK (P : Program) (F : Array Func) (k0 : FuncId) : Prop where
  plain : ∀ (f : Nat) (g : Func), F[f]? = some g → f ≠ k0 →
    (P.funcs[f]? = some g ∧ (g.name == "runtime.NumGoroutine") = false ∧ ∃ c, g.body = some c ∧ okCode P c = true) ∨ (g.body.isNone = true ∧ g.name = "?" ∧ g.origin = "?") ∨ (g.body.isNone = true ∧ P.funcs[f]? = some g ∧ natRow g.name = true ∧ g.origin = "")
  fits : FitsF P F
  early_ : ∀ (fr : Frame) (cs : List Frame) (d : Option Dying) (g : Nat) (w : World), ∃ o w' es, early (PF P F) fr cs d g w = .ended o w' es
section
variable {P : Program} {F : Array Func} {k0 : FuncId} {α β : Type}
def gw : GStep → World
  | .go _ w _ | .comm _ _ _ _ w _ | .spawn _ _ w _ | .count _ w _ | .timer _ _ w _ | .alone _ _ w _ | .newcoro _ _ _ w _ | .coroswitch _ _ _ w _ | .collect _ w _ | .watch _ w _ | .ended _ w _ => w
theorem gw_after (es : Array Event) (x : GStep) : gw (GStep.after es x) = gw x := by cases x <;> rfl
def Heard (S : Hidn) (x : GStep) : Prop := (gw x).drawn ≤ S.T
theorem drawn_of {α : Type} {p : Program} {s : Sem α} {w : World} {r : Result α} (h : s.run p w = r) : w.drawn ≤ (endW r).drawn := h ▸ run_drawn p s w
theorem endFatal_drawn (p : Program) (fr : Frame) (cs : List Frame) (d : Option Dying) (m : String) (w : World) : w.drawn ≤ (gw (endFatal p fr cs d m w)).drawn := by
  unfold endFatal
  dsimp only
  split
  · rename_i h; exact drawn_of h
  · rename_i h; exact drawn_of h
  · rename_i h; exact drawn_of h
def LockG (P : Program) (F : Array Func) (k0 : FuncId) (S : Hidn) (bm bt : List Frame) (n : Nat) (x y : GStep) : Prop :=
  (∃ o u' es, x = .ended o u' es) ∨
  (∃ fr' cs' u' w' es es', x = .go (G fr' (cs' ++ bm)) u' es ∧ y = .go (G fr' (cs' ++ bt)) w' es' ∧
    Sim S u' w' ∧ n ≤ u'.heap.size ∧ (∀ e ∈ es', EvS S u'.heap.size e) ∧ OkSt P F k0 fr' cs') ∨
  (∃ fr cs args u' w' es es', x = .go (G (Frame.enter (PF P F) k0 args .normal) (fr :: (cs ++ bm))) u' es ∧
    y = .go (G (Frame.enter P k0 args .normal) (fr :: (cs ++ bt))) w' es' ∧ (∃ g, F[k0]? = some g) ∧ Sim S u' w' ∧ n ≤ u'.heap.size ∧ (∀ e ∈ es', EvS S u'.heap.size e) ∧ OkSt P F k0 fr cs)
def Lock (P : Program) (F : Array Func) (k0 : FuncId) (S : Hidn) (bm bt : List Frame) (fr : Frame) (cs : List Frame) (u w : World) : Prop :=
  LockG P F k0 S bm bt u.heap.size (stepG (PF P F) true (G fr (cs ++ bm)) u) (stepG P true (G fr (cs ++ bt)) w)
theorem OkFr.m {P : Program} {F : Array Func} {k0 : FuncId} {fr : Frame} (h : OkFr P F k0 fr) : OkFm P F k0 fr := ⟨h.todo, h.kind, fun d hd => (by rw [h.defers] at hd; cases hd), .inl ⟨h.round, h.fn, h.fun_⟩⟩
theorem OkFm.fr {P : Program} {F : Array Func} {k0 : FuncId} {fr : Frame} (h : OkFm P F k0 fr) (hr : fr.roundOf = none) (hd : fr.defers = []) : OkFr P F k0 fr := by
  rcases h.form with ⟨h1, h2, h3⟩ | ⟨h1, _⟩
  · exact ⟨h2, h3, h.todo, hd, h.kind, h1⟩
  · exact absurd hr h1
theorem OkSt.one {P : Program} {F : Array Func} {k0 : FuncId} {fr : Frame} (h : OkFr P F k0 fr) {cs : List Frame} (hc : ∀ c ∈ cs, OkFr P F k0 c) : OkSt P F k0 fr cs := by
  refine ⟨h.m, fun c hx => (hc c hx).m, ?_⟩
  induction cs generalizing fr with
  | nil => exact h.round
  | cons c cs ih => exact ih (hc c (List.mem_cons_self ..)) fun x hx => hc x (List.mem_cons_of_mem _ hx)
theorem low_same {fr fr' : Frame} {cs : List Frame} (h : Low fr cs) (hr : fr'.roundOf = fr.roundOf) : Low fr' cs := by
  cases cs with
  | nil => exact hr.trans h
  | cons c cs => exact h
theorem OkSt.pop {P : Program} {F : Array Func} {k0 : FuncId} {fr c : Frame} {cs : List Frame} (h : OkSt P F k0 fr (c :: cs)) : OkSt P F k0 c cs := ⟨h.ms _ (List.mem_cons_self ..), fun x hx => h.ms x (List.mem_cons_of_mem _ hx), h.low⟩
theorem OkSt.push {P : Program} {F : Array Func} {k0 : FuncId} {fr f : Frame} {cs : List Frame} (h : OkSt P F k0 fr cs) (hf : OkFm P F k0 f) : OkSt P F k0 f (fr :: cs) := ⟨hf, fun x hx => by
  rcases List.mem_cons.1 hx with e | e
  · subst e; exact h.m
  · exact h.ms x e, h.low⟩
theorem OkSt.set {P : Program} {F : Array Func} {k0 : FuncId} {fr f : Frame} {cs : List Frame} (h : OkSt P F k0 fr cs) (hf : OkFm P F k0 f) (hr : f.roundOf = fr.roundOf) : OkSt P F k0 f cs := ⟨hf, h.ms, low_same h.low hr⟩
theorem finish_is {P : Program} (fr : Frame) (h : ∀ it ∈ fr.todo, okItem P it = true) (v : Value) : ∃ tm td, fr.finish v = { fr with tmps := tm, todo := td } ∧ ∀ it ∈ td, okItem P it = true := by
  obtain ⟨fn, tmps, todo, defers, mode, kind, round⟩ := fr
  dsimp only at h
  rcases todo with _ | ⟨it, k⟩
  · exact ⟨tmps, [], rfl, h⟩
  have hk : ∀ x ∈ k, okItem P x = true := fun x hx => h x (List.mem_cons_of_mem _ hx)
  cases it
  case inRegion ops l =>
    cases l with
    | nil => exact ⟨tmps, _, rfl, h⟩
    | cons i l =>
      refine ⟨_, .inRegion ops l :: k, rfl, fun x hx => ?_⟩
      rcases List.mem_cons.1 hx with e | e
      · subst e
        have q := h _ (List.mem_cons_self ..)
        exact q
      · exact hk x e
  case inRangeFunc l =>
    refine ⟨tmps, .endRangeFunc l :: k, rfl, fun x hx => ?_⟩
    rcases List.mem_cons.1 hx with e | e
    · subst e; rfl
    · exact hk x e
  case beginRound => exact ⟨tmps, k, rfl, hk⟩
  all_goals first
    | exact ⟨tmps, _, rfl, h⟩
    | (have q := h _ (List.mem_cons_self ..); cases q)
theorem OkFm.finish {P : Program} {F : Array Func} {k0 : FuncId} {fr : Frame} (h : OkFm P F k0 fr) (v : Value) : OkFm P F k0 (fr.finish v) ∧ (fr.finish v).roundOf = fr.roundOf := by
  obtain ⟨tm, td, e, ht⟩ := finish_is fr h.todo v
  rw [e]
  exact ⟨⟨ht, h.kind, h.defers, h.form⟩, rfl⟩
theorem OkFm.raise {P : Program} {F : Array Func} {k0 : FuncId} {fr : Frame} (h : OkFm P F k0 fr) (ch : List PanicEntry) : OkFm P F k0 (fr.raise ch) ∧ (fr.raise ch).roundOf = fr.roundOf := by
  unfold Frame.raise
  split
  all_goals exact ⟨⟨h.todo, h.kind, h.defers, h.form.imp id fun q => ⟨q.1, q.2.1, fun e => by cases e⟩⟩, rfl⟩
theorem OkSt.fin {P : Program} {F : Array Func} {k0 : FuncId} {fr : Frame} {cs : List Frame} (h : OkSt P F k0 fr cs) (v : Value) : OkSt P F k0 (fr.finish v) cs := h.set (h.m.finish v).1 (h.m.finish v).2
theorem OkSt.raise_ {P : Program} {F : Array Func} {k0 : FuncId} {fr : Frame} {cs : List Frame} (h : OkSt P F k0 fr cs) (ch : List PanicEntry) : OkSt P F k0 (fr.raise ch) cs := h.set (h.m.raise ch).1 (h.m.raise ch).2
def Yields (U : Program) (Q : α → Prop) (s : Sem α) : Prop := ∀ u a u', s.run U u = .ok a u' → Q a
theorem run_bind' (U : Program) (s : Sem α) (f : α → Sem β) (u : World) : (s.bind f).run U u = match s.run U u with | .ok a w => (f a).run U w | .halt x w => .halt x w := by
  have := congrArg Prod.fst (Sem.runT_bind' U s f u #[])
  rw [Sem.runT_fst] at this
  rw [this, ← Sem.runT_fst U s u #[]]
  rcases s.runT U u #[] with ⟨_ | _, _⟩
  · simp only []; rw [Sem.runT_fst]
  · rfl
theorem Yields.bind {U : Program} {Q : β → Prop} {s : Sem α} {f : α → Sem β} (hf : ∀ a, Yields U Q (f a)) : Yields U Q (s >>= f) := by
  intro u b u' h
  have e : (s >>= f).run U u = match s.run U u with | .ok a w => (f a).run U w | .halt x w => .halt x w := run_bind' U s f u
  rw [e] at h
  cases hs : s.run U u with
  | ok a w => rw [hs] at h; exact hf a _ _ _ h
  | halt x w => rw [hs] at h; cases h
theorem Yields.pure {U : Program} {Q : α → Prop} {a : α} (h : Q a) : Yields U Q (pure a : Sem α) := by
  intro u b u' e; injection e with e1 e2; subst e1; exact h
theorem Yields.halt {U : Program} {Q : α → Prop} (x : Halt) : Yields U Q (Sem.halt x : Sem α) := by intro u b u' e; cases e
theorem Yields.nilDeref {U : Program} {Q : α → Prop} : Yields U Q (runtimePanic .nilDeref : Sem α) := by intro u b u' e; cases e
theorem Yields.ite {U : Program} {Q : α → Prop} {c : Prop} [Decidable c] {A B : Sem α} (hA : Yields U Q A) (hB : Yields U Q B) : Yields U Q (if c then A else B) := by split <;> assumption
def NextOk (F : Array Func) (nx : Next) : Prop := (∃ v, nx = .value v) ∨ nx = .skip ∨ ∃ f args g, nx = .enter f args ∧ F[f]? = some g ∧ g.body.isNone = false
def NextM (F : Array Func) (nx : Next) : Prop := NextOk F nx ∨ ∃ l f tmps a b, nx = .round l f tmps a b ∧ okCode0 a = true ∧ okCode0 b = true
theorem yields_callFunc (hF : FitsF P F) (f : FuncId) (args : Array Value) : Yields (PF P F) (NextOk F) (callFunc f args) := by
  intro u nx u' h
  unfold callFunc at h
  have h' : Sem.run (PF P F) (match F[f]? with | none => _ | some fn => _) u = .ok nx u' := h
  cases hf : F[f]? with
  | none => rw [hf] at h'; cases h'
  | some g =>
    rw [hf] at h'
    rcases hF f g hf with ⟨h1, h2, g', h3, h4, h5⟩ | ⟨h1, h2, h2'⟩ | ⟨h1, h3, h2, h2'⟩
    rotate_left 2
    · obtain ⟨n1, q1, e0, q2, he⟩ := natRow_find h2 h2'
      simp only [n1, h1, q1, q2] at h'
      have h2 : Sem.run (PF P F) (Sem.mark (.extern f) (e0 args >>= fun x => pure (Next.value x))) u = .ok nx u' := h'
      exact Yields.bind (U := PF P F) (Q := NextOk F) (s := e0 args) (fun a => Yields.pure (.inl ⟨_, rfl⟩)) _ _ _ h2
    · simp only [h1, h2] at h'
      injection h' with e1 e2
      exact .inr (.inr ⟨f, args, g, e1.symm, hf, h1⟩)
    · obtain ⟨q1, q2⟩ := findNext_q g h2 h2'
      have n1 : (g.name == "runtime.NumGoroutine") = false := by rw [h2]; decide
      have n2 : (g.name.endsWith ".init" && !g.name.startsWith "(" && !g.name.startsWith "gosem.") = false := by rw [h2]; decide
      simp only [h1, n1, q1, q2, n2] at h'
      cases h'
theorem yields_callMethod (hF : FitsF P F) (r : Value) (m : String) (args : Array Value) : Yields (PF P F) (NextOk F) (callMethod r m args) := by
  unfold callMethod
  split
  · refine Yields.bind (fun p => ?_)
    refine Yields.bind (fun q => ?_)
    obtain ⟨f, rc⟩ := q
    exact yields_callFunc hF _ _
  · exact Yields.nilDeref
  · exact Yields.halt _
theorem yields_invokeM (hF : FitsF P F) (m : String) (cap args : Array Value) : Yields (PF P F) (NextOk F) (invoke (.fn (.method m) cap) args) := by
  unfold invoke
  dsimp only
  split
  · exact yields_callMethod hF _ _ _
  · exact Yields.halt _
theorem next_execOp (hF : FitsF P F) (ρ : Operand → Value) (hρ : ∀ f, ρ (.func f) = .func (.func f) #[] #[]) (o : Oper) (ho : okOp P o = true) : Yields (PF P F) (NextOk F) (execOp ρ o) := by
  have v : ∀ {γ : Type} {s : Sem γ} {f : γ → Value}, Yields (PF P F) (NextOk F) (do pure (Next.value (f (← s)))) := fun {γ s f} => Yields.bind (fun a => Yields.pure (.inl ⟨_, rfl⟩))
  have un : ∀ {s : Sem Unit}, Yields (PF P F) (NextOk F) (do s; pure Next.skip) := fun {s} => Yields.bind (fun a => Yields.pure (.inr (.inl rfl)))
  obtain ⟨dst, op, type, pos, after, guard⟩ := o
  unfold execOp
  cases op
  case move => exact Yields.pure (.inl ⟨_, rfl⟩)
  case assign => exact Yields.pure (.inl ⟨_, rfl⟩)
  case pick => exact Yields.bind (fun b => Yields.pure (.inl ⟨_, rfl⟩))
  case nilCheck x =>
    dsimp only
    split
    · exact Yields.nilDeref
    · exact Yields.nilDeref
    · exact Yields.nilDeref
    · split
      · exact Yields.nilDeref
      · refine Yields.bind (fun p => Yields.bind (fun r => ?_))
        exact Yields.ite (Yields.bind (fun _ => Yields.pure (.inl ⟨_, rfl⟩))) (Yields.pure (.inl ⟨_, rfl⟩))
      · exact Yields.pure (.inl ⟨_, rfl⟩)
    · exact Yields.pure (.inl ⟨_, rfl⟩)
  case call c =>
    obtain ⟨callee, args, argTypes⟩ := c
    cases callee
    case value f =>
      cases f
      case func f =>
        show Yields _ _ (do let d ← Deferred.ofValue (ρ (.func f)) (args.map ρ); invoke d.target d.args)
        rw [hρ]
        exact yields_callFunc hF f _
      all_goals cases ho
    case builtin b =>
      cases b
      all_goals first
        | (cases ho; done)
        | exact v (f := id)
    case invoke r m =>
      show Yields _ _ (invoke (.fn (.method m) #[]) (#[ρ r] ++ args.map ρ))
      exact yields_invokeM hF _ _ _
  all_goals first
    | (cases ho; done)
    | exact v (f := id)
    | exact un
theorem loop_of {u : World} {l : Nat} {U : Program} {f : Loop → Sem β} {a : β} {u' : World} (hv : ∀ (b : Nat) (o : Obj), u.heap[b]? = some o → okObj o = true) (h : (Instr.getLoop l >>= f).run U u = .ok a u') : ∃ r, okObj (.loop r) = true ∧ u.heap[l]? = some (.loop r) ∧ (f r).run U u = .ok a u' := by
  unfold Instr.getLoop at h
  have h2 : Sem.run U (Sem.getObj l _) u = .ok a u' := h
  simp only [Sem.run] at h2
  cases ho : u.heap[l]? with
  | none => rw [ho] at h2; cases h2
  | some o =>
    have hok := hv l o ho
    rw [ho] at h2
    cases o
    case loop r => exact ⟨r, hok, rfl, h2⟩
    all_goals cases h2
theorem next_callValue (hF : FitsF P F) {u : World} (hv : ∀ (b : Nat) (o : Obj), u.heap[b]? = some o → okObj o = true) (v : Value) (args : Array Value) {nx : Next} {u' : World} (h : (do let d ← Deferred.ofValue v args; invoke d.target d.args : Sem Next).run (PF P F) u = .ok nx u') : NextM F nx := by
  cases v
  case nilFunc => cases h
  case func fn first cap =>
    have h' : (invoke (.fn fn cap) (first ++ args)).run (PF P F) u = .ok nx u' := h
    unfold invoke at h'
    cases fn
    case func f => exact .inl (yields_callFunc hF _ _ _ _ _ h')
    case method m =>
      exact .inl (yields_invokeM hF m cap (first ++ args) _ _ _ h)
    case methodOf t m =>
      dsimp only at h'
      revert h'
      split
      · exact fun h' => .inl (Yields.bind (Q := NextOk F) (fun d => yields_callMethod hF _ _ _) _ _ _ h')
      · intro h'; cases h'
    case via =>
      dsimp only at h'
      revert h'
      split
      · exact fun h' => .inl (Yields.bind (Q := NextOk F) (fun d => yields_callFunc hF _ _) _ _ _ h')
      · intro h'; cases h'
    case yield l =>
      dsimp only at h'
      obtain ⟨r, h1, _, h3⟩ := loop_of hv (f := fun r => _) h'
      simp only [okObj, Bool.and_eq_true] at h1
      refine Yields.ite (U := PF P F) (Q := NextM F) (Yields.bind fun _ => Yields.pure ?_) (Yields.pure ?_) _ _ _ h3
      all_goals exact .inr ⟨_, _, _, _, _, rfl, h1.1.1, h1.1.2⟩
  all_goals cases h
theorem next_execOpM (hF : FitsF P F) {u : World} (hv : ∀ (b : Nat) (o : Obj), u.heap[b]? = some o → okObj o = true) (ρ : Operand → Value) (hρ : ∀ f, ρ (.func f) = .func (.func f) #[] #[]) (o : Oper) (ho : okOpM P o = true) {nx : Next} {u' : World} (h : (execOp ρ o).run (PF P F) u = .ok nx u') : NextM F nx := by
  by_cases h1 : okOp P o = true
  · exact .inl (next_execOp hF ρ hρ o h1 _ _ _ h)
  simp only [okOpM, Bool.or_eq_true] at ho
  replace ho := ho.resolve_left h1
  have v : ∀ {γ : Type} {s : Sem γ} {f : γ → Value}, Yields (PF P F) (NextM F) (do pure (Next.value (f (← s)))) := fun {γ s f} => Yields.bind (fun a => Yields.pure (.inl (.inl ⟨_, rfl⟩)))
  have un : ∀ {s : Sem Unit}, Yields (PF P F) (NextM F) (do s; pure Next.skip) := fun {s} => Yields.bind (fun a => Yields.pure (.inl (.inr (.inl rfl))))
  obtain ⟨dst, op, type, pos, after, guard⟩ := o
  unfold execOp at h
  cases op
  case call c =>
    obtain ⟨callee, args, argTypes⟩ := c
    cases callee
    case value f =>
      cases f
      case tmp t => exact next_callValue hF hv _ _ h
      all_goals cases ho
    all_goals cases ho
  all_goals first
    | (cases ho; done)
    | exact v (f := id) _ _ _ h
    | exact un _ _ _ h
variable {S : Hidn} {bm bt : List Frame} {u w : World}
theorem LockG.move {x y : GStep} {fr' : Frame} {cs' : List Frame} (h1 : x = .go (G fr' (cs' ++ bm)) u) (h2 : y = .go (G fr' (cs' ++ bt)) w) (hs : Sim S u w)
    (hf : OkSt P F k0 fr' cs') : LockG P F k0 S bm bt u.heap.size x y :=
  .inr (.inl ⟨fr', cs', u, w, #[], #[], h1, h2, hs, Nat.le_refl _, fun e he => by simp at he, hf⟩)
theorem LockG.after {n m : Nat} {x y : GStep} {es es' : Array Event} (h : LockG P F k0 S bm bt m x y) (hn : n ≤ m) (he : ∀ e ∈ es', EvS S m e) : LockG P F k0 S bm bt n (GStep.after es x) (GStep.after es' y) := by
  rcases h with ⟨o, u', e1, h⟩ | ⟨fr', cs', u', w', e1, e2, h1, h2, h3, h4, h5, h6⟩ | ⟨fr, cs, args, u', w', e1, e2, h1, h2, hg, h3, h4, h5, h6⟩
  · subst h; exact .inl ⟨_, _, _, rfl⟩
  · subst h1 h2
    refine .inr (.inl ⟨fr', cs', u', w', _, _, rfl, rfl, h3, by omega, fun e hx => ?_, h6⟩)
    rcases Array.mem_append.1 hx with hx | hx
    · exact (he e hx).mono h4
    · exact h5 e hx
  · subst h1 h2
    refine .inr (.inr ⟨fr, cs, args, u', w', _, _, rfl, rfl, hg, h3, by omega, fun e hx => ?_, h6⟩)
    rcases Array.mem_append.1 hx with hx | hx
    · exact (he e hx).mono h4
    · exact h5 e hx
theorem okItem_exit {id : Nat} : ∀ {k k' : List Item}, exitTo id k = some k' → (∀ it ∈ k, okItem P it = true) → ∀ it ∈ k', okItem P it = true := by
  intro k
  induction k with
  | nil => intro k' h; cases h
  | cons it k ih =>
    intro k' h hk
    have hk2 : ∀ it ∈ k, okItem P it = true := fun x hx => hk x (List.mem_cons_of_mem _ hx)
    cases it
    case inBlock j =>
      unfold exitTo at h
      split at h
      · injection h with h; subst h; exact hk2
      · exact ih h hk2
    all_goals exact ih h hk2
theorem step_oper (U : Program) (m : Bool) {fn : FuncId} {tmps : Array Value} {ops : Array Oper} {i : Nat} {l : List Nat} {k : List Item} {ds : List Deferred} {ro : Option Nat} {cs : List Frame} {w : World} {o : Oper} (ho : ops[i]? = some o) (hop : ∀ c, o.op ≠ .defer c) (hw : Region.wanted o (yielded ops tmps) = true) :
    stepG U m (G { fn := fn, tmps := tmps, todo := .inRegion ops (i :: l) :: k, defers := ds, mode := .run, kind := .normal, roundOf := ro } cs) w =
      stepG.apply U true { fn := fn, tmps := tmps, todo := .inRegion ops (i :: l) :: k, defers := ds, mode := .run, kind := .normal, roundOf := ro } cs none (execOp (Frame.eval { fn := fn, tmps := tmps, todo := .inRegion ops (i :: l) :: k, defers := ds, mode := .run, kind := .normal, roundOf := ro }) o) w := by
  simp [G, stepG, stepG.exec, ho, hw, stepG.oper, Frame.oper?]
  split
  · rename_i h; exact absurd h (hop _)
  · rfl
theorem enter_ok (hK : FitsK P F k0) {f : FuncId} {g : Func} {args : Array Value} (hf : F[f]? = some g) (hb : g.body.isNone = false) (hne : f ≠ k0) : Frame.enter (PF P F) f args .normal = Frame.enter P f args .normal ∧ OkFr P F k0 (Frame.enter P f args .normal) := by
  rcases hK.plain f g hf hne with ⟨h1, h2, c, h3, h4⟩ | ⟨h1, _⟩ | ⟨h1, _⟩
  rotate_left 2
  · rw [h1] at hb; cases hb
  · refine ⟨by unfold Frame.enter; rw [show (PF P F).funcs = F from rfl, hf, h1], hne, ⟨g, h1, hf⟩, ?_, rfl, rfl, rfl⟩
    intro it hit
    simp only [Frame.enter, h1, Option.bind_some, h3, Option.getD_some, List.mem_singleton] at hit
    subst hit; exact h4
  · rw [h1] at hb; cases hb
set_option maxHeartbeats 2000000 in
theorem lock_apply (hK : FitsK P F k0) (hs : Sim S u w) (hm : S.m = true) {fr : Frame} {cs : List Frame} {s : Sem Next} (hok : OkSt P F k0 fr cs) (hS : SimG QW (PF P F) P s) (hy : ∀ nx u', s.run (PF P F) u = .ok nx u' → NextM F nx)
    (hT : Heard S (stepG.apply (PF P F) true fr (cs ++ bm) none s u)) : LockG P F k0 S bm bt u.heap.size (stepG.apply (PF P F) true fr (cs ++ bm) none s u) (stepG.apply P true fr (cs ++ bt) none s w) := by
  have hss := hS S u w #[] hm hs
  have hfst := Sem.runT_fst (PF P F) s u #[]
  have hke : (fr.kind == .early) = false := by rw [hok.m.kind]; rfl
  unfold stepG.apply at hT ⊢
  simp only [hke, if_true, Bool.false_eq_true, if_false] at hT ⊢
  generalize hrT : s.runT (PF P F) u #[] = rt at hfst hT ⊢
  obtain ⟨r, es⟩ := rt
  dsimp only at hfst
  subst hfst
  cases hr : s.run (PF P F) u with
  | ok nx u' =>
    rw [hr] at hss hT
    have hd : u'.drawn ≤ S.T := by
      rcases hy nx u' hr with (⟨v, rfl⟩ | rfl | ⟨f, args, g, rfl, hf, hb⟩) | ⟨l, f, tm, a, b, rfl, _, _⟩
      all_goals exact hT
    obtain ⟨w', es', e1, e2, e3, e4⟩ := hss hd
    simp only [e1]
    have ev : ∀ e ∈ seen P fr.fn (#[] ++ es'), EvS S u'.heap.size e := fun e he => e4 e (by have := mem_seen he; simpa using this)
    rcases hy nx u' hr with (⟨v, rfl⟩ | rfl | ⟨f, args, g, rfl, hf, hb⟩) | ⟨l, f, tm, a, b, rfl, ha, hb⟩
    · exact .inr (.inl ⟨fr.finish v, cs, u', w', _, _, rfl, rfl, e2, e3, fun e he => ev e (by simpa using he), hok.fin v⟩)
    · exact .inr (.inl ⟨fr.finish undef, cs, u', w', _, _, rfl, rfl, e2, e3, fun e he => ev e (by simpa using he), hok.fin undef⟩)
    · dsimp only
      split
      · rename_i q
        have q2 := hok.m.todo
        rw [q] at q2
        have q3 := q2 _ (List.mem_cons_self ..)
        cases q3
      · by_cases e : f = k0
        · subst e
          exact .inr (.inr ⟨fr, cs, args, u', w', _, _, rfl, rfl, ⟨g, hf⟩, e2, e3, fun e he => ev e (by simpa using he), hok⟩)
        · obtain ⟨q1, q2⟩ := enter_ok hK (args := args) hf hb e
          refine .inr (.inl ⟨Frame.enter (PF P F) f args .normal, fr :: cs, u', w', _, seen P fr.fn (#[] ++ es') ++ #[], rfl, ?_, e2, e3, fun e he => ev e (by simpa using he), ?_⟩)
          · rw [q1]; rfl
          · rw [q1]; exact hok.push q2.m
    · refine .inr (.inl ⟨Frame.round l f tm a b .normal, fr :: cs, u', w', _, _, rfl, rfl, e2, e3, fun e he => ev e (by simpa using he), hok.push ⟨fun it hit => ?_, rfl, fun d hd => (by cases hd), .inr ⟨by simp [Frame.round], rfl, by simp [Frame.round]⟩⟩⟩)
      simp only [Frame.round, List.mem_cons, List.not_mem_nil, or_false] at hit
      rcases hit with rfl | rfl | rfl
      · exact okCode0_ok P _ ha
      · rfl
      · exact okCode0_ok P _ hb
  | halt x u' =>
    rw [hr] at hss hT
    cases x with
    | stuck m => exact .inl ⟨_, _, _, rfl⟩
    | unsupported m =>
      cases m
      case initOrder g =>
        obtain ⟨o, w2, es2, q⟩ := hK.early_ fr (cs ++ bm) none g u'
        have e : GStep.after (seen (PF P F) fr.fn #[]) (early (PF P F) fr (cs ++ bm) none g u') = .ended o w2 (seen (PF P F) fr.fn #[] ++ es2) := by rw [q]; rfl
        exact .inl ⟨_, _, _, e⟩
      all_goals exact .inl ⟨_, _, _, rfl⟩
    | fatal m =>
      have hd : u'.drawn ≤ S.T := Nat.le_trans (endFatal_drawn _ _ _ _ m u') (by have := hT; unfold Heard at this; rw [gw_after] at this; exact this)
      rcases hss hd with hx | ⟨⟨v, hx⟩, _⟩ <;> cases hx
    | exit c => rcases hss hT with hx | ⟨⟨v, hx⟩, _⟩ <;> cases hx
    | throw m => rcases hss hT with hx | ⟨⟨v, hx⟩, _⟩ <;> cases hx
    | blocked => rcases hss hT with hx | ⟨⟨v, hx⟩, _⟩ <;> cases hx
    | waiting => rcases hss hT with hx | ⟨⟨v, hx⟩, _⟩ <;> cases hx
    | goexit => rcases hss hT with hx | ⟨⟨v, hx⟩, _⟩ <;> cases hx
    | panic v =>
      obtain ⟨w', es', e1, e2, e3, e4⟩ := (hss hT).elim (fun q => q.elim) (fun q => q.2)
      simp only [e1]
      exact .inr (.inl ⟨fr.raise [{ v, recovered := false }], cs, u', w', seen (PF P F) fr.fn es ++ #[], seen P fr.fn (#[] ++ es') ++ #[], rfl, rfl, e2, e3, fun e he => e4 e (by have := mem_seen (by simpa using he : e ∈ seen P fr.fn (#[] ++ es')); simpa using this), hok.raise_ _⟩)
inductive Still {α : Type} : Sem α → Prop
  | pure (a : α) : Still (.pure a)
  | halt (x : Halt) : Still (.halt x)
  | new {o : Obj} {k : Nat → Sem α} (h : ∀ r, Still (k r)) : Still (.new o k)
  | getObj {r : Nat} {k : Obj → Sem α} (h : ∀ o, Still (k o)) : Still (.getObj r k)
  | setObj {r : Nat} {o : Obj} {k : Sem α} (h : Still k) : Still (.setObj r o k)
  | program {k : Program → Sem α} (h : ∀ p, Still (k p)) : Still (.program k)
theorem Still.run {α : Type} {U : Program} {s : Sem α} (h : Still s) : ∀ w, (endW (s.run U w)).drawn = w.drawn ∧ (endW (s.run U w)).tape = w.tape := by
  induction h with
  | pure a => intro w; exact ⟨rfl, rfl⟩
  | halt x => intro w; exact ⟨rfl, rfl⟩
  | new h ih => intro w; simp only [Sem.run]; exact ih _ _
  | getObj h ih => intro w; simp only [Sem.run]; split <;> first | exact ⟨rfl, rfl⟩ | exact ih _ _
  | setObj h ih => intro w; simp only [Sem.run]; split <;> first | exact ⟨rfl, rfl⟩ | exact ih _
  | program h ih => intro w; simp only [Sem.run]; exact ih _ _
theorem Still.ite {α : Type} {c : Prop} [Decidable c] {s t : Sem α} (h1 : Still s) (h2 : Still t) : Still (if c then s else t) := by split <;> assumption
theorem still_getLoop {l : Nat} {f : Loop → Sem β} (h : ∀ r, Still (f r)) : Still (Instr.getLoop l >>= f) := by
  unfold Instr.getLoop
  show Still (Sem.getObj l _)
  refine .getObj fun o => ?_
  cases o
  case loop r => exact h r
  all_goals exact .halt _
theorem still_endRound (l : Nat) (j : Option Code) : Still (Instr.endRound l j) := still_getLoop fun r => .setObj (.pure _)
theorem still_endLoop (l : Nat) : Still (Instr.endLoop l) := by
  unfold Instr.endLoop
  refine still_getLoop fun r => ?_
  exact Still.ite (.program fun p => .halt _) (.setObj (.pure _))
theorem still_take (b : Nat) : Still (Instr.takeDeferred b) := by
  unfold Instr.takeDeferred
  show Still (Sem.getObj b _)
  refine .getObj fun o => ?_
  cases o
  case deferred ds =>
    cases ds
    · exact .halt _
    · exact .setObj (.pure _)
  all_goals exact .halt _
theorem still_enter {fn : FuncId} {tmps : Array Value} {params : Array Tmp} {a b : Code} {r : Option Nat} : Still (Instr.enterLoop fn tmps params a b r) := by
  unfold Instr.enterLoop
  cases r with
  | some l => exact still_getLoop fun r => .new fun v => .pure _
  | none => exact .new fun v => .new fun v => .pure _
theorem lock_sem {α : Type} (hs : Sim S u w) (hm : S.m = true) {s : Sem α} (hS : SimG QW (PF P F) P s) (hst : Still s) {fn : FuncId} {f f' : Result α → GStep} {x y : GStep}
    (hx : x = GStep.after (seen (PF P F) fn (s.runT (PF P F) u #[]).2) (f (s.runT (PF P F) u #[]).1)) (hy : y = GStep.after (seen P fn (s.runT P w #[]).2) (f' (s.runT P w #[]).1))
    (hok : ∀ a u' w', s.run (PF P F) u = .ok a u' → Sim S u' w' → Heard S (f (.ok a u')) → LockG P F k0 S bm bt u'.heap.size (f (.ok a u')) (f' (.ok a w')))
    (hfail : ∀ x u', Halt.fails x → ∃ o u2 es, f (.halt x u') = .ended o u2 es)
    (hpan : ∀ v u' w', Sim S u' w' → LockG P F k0 S bm bt u'.heap.size (f (.halt (.panic v) u')) (f' (.halt (.panic v) w')))
    (hT : Heard S x) : LockG P F k0 S bm bt u.heap.size x y := by
  subst hx hy
  have hs' : Sim ⟨S.S, S.K, u.drawn, S.a, S.b, S.tp, S.m⟩ u w := ⟨hs.size, hs.out, hs.ins, hs.views, hs.os, hs.output, fun i q h => absurd (show u.drawn + i < u.drawn from h) (by omega), hs.kept, hs.off, hs.tap⟩
  have hss := hS ⟨S.S, S.K, u.drawn, S.a, S.b, S.tp, S.m⟩ u w #[] hm hs'
  obtain ⟨hd, ht⟩ := hst.run (U := PF P F) u
  have back : ∀ {u' w' : World}, Sim ⟨S.S, S.K, u.drawn, S.a, S.b, S.tp, S.m⟩ u' w' → u'.drawn = u.drawn → u'.tape = u.tape → Sim S u' w' := fun {u' w'} e2 hd ht => ⟨e2.size, e2.out, e2.ins, e2.views, e2.os, e2.output, fun i q h => by
    have o1 : w'.drawn + S.a = u'.drawn + S.b := e2.off
    have o2 := hs.off
    have e : w'.drawn = w.drawn := by omega
    have t1 : w'.tape = S.tp := e2.tap
    rw [t1, e, hd, ht, ← hs.tap]
    exact hs.tape i q (by rw [← hd]; exact h), e2.kept, e2.off, e2.tap⟩
  have hfst := Sem.runT_fst (PF P F) s u #[]
  generalize hrT : s.runT (PF P F) u #[] = rt at hfst hT ⊢
  obtain ⟨r, es⟩ := rt
  dsimp only at hfst hT ⊢
  unfold Heard at hT
  rw [gw_after] at hT
  subst hfst
  cases hr : s.run (PF P F) u with
  | ok a u' =>
    rw [hr] at hss hT hd ht
    have hd' : u'.drawn = u.drawn := hd
    obtain ⟨w', es', e1, e2, e3, e4⟩ := hss (Nat.le_of_eq hd')
    simp only [e1]
    exact (hok a u' w' hr (back e2 hd' ht) hT).after e3 fun e he => e4 e (by have := mem_seen he; simpa using this)
  | halt x u' =>
    rw [hr] at hss hd ht
    have hd' : u'.drawn = u.drawn := hd
    rcases hss (Nat.le_of_eq hd') with hx | ⟨⟨v, rfl⟩, w', es', e1, e2, e3, e4⟩
    · obtain ⟨o, u2, es2, q⟩ := hfail x u' hx
      rw [q]; exact .inl ⟨_, _, _, rfl⟩
    · simp only [e1]
      exact (hpan v u' w' (back e2 hd' ht)).after e3 fun e he => e4 e (by have := mem_seen he; simpa using this)
theorem take_nil {b : Nat} {U : Program} (hv : ∀ (b : Nat) (o : Obj), u.heap[b]? = some o → okObj o = true) {ds : List Deferred} {u' : World} (h : (Instr.takeDeferred b).run U u = .ok ds u') : ds = [] := by
  unfold Instr.takeDeferred at h
  have h2 : Sem.run U (Sem.getObj b _) u = .ok ds u' := h
  simp only [Sem.run] at h2
  cases ho : u.heap[b]? with
  | none => rw [ho] at h2; cases h2
  | some o =>
    have hok := hv b o ho
    rw [ho] at h2
    cases o
    case deferred d =>
      cases d with
      | none => cases h2
      | some d =>
        have e : d = [] := by simpa [okObj] using hok
        subst e
        have h3 : Sem.run U (Sem.setObj b (.deferred none) (Sem.pure [])) u = .ok ds u' := h2
        simp only [Sem.run, ho] at h3
        injection h3 with h3; exact h3.symm
    all_goals cases h2
theorem endLoop_ok {l : Nat} {U : Program} (hv : ∀ (b : Nat) (o : Obj), u.heap[b]? = some o → okObj o = true) {j : Option Code} {u' : World} (h : (Instr.endLoop l).run U u = .ok j u') : ∀ c, j = some c → okCode0 c = true := by
  unfold Instr.endLoop at h
  obtain ⟨r, h1, h2, h3⟩ := loop_of hv h
  rintro c rfl
  simp only [okObj, Bool.and_eq_true] at h1
  have h4 : Sem.run U (Sem.setObj l (.loop { r with state := .exhausted }) (Sem.pure r.pending)) u = .ok (some c) u' := by
    revert h3
    split
    · intro h3; cases h3
    · exact fun h3 => h3
  simp only [Sem.run, h2] at h4
  injection h4 with h4
  have := h1.2
  rw [h4] at this; exact this
theorem enter_mark {fn : FuncId} {tmps : Array Value} {params : Array Tmp} {a b : Code} {r : Option Nat} {U : Program} (hv : ∀ (b : Nat) (o : Obj), u.heap[b]? = some o → okObj o = true) {x : Nat × List Deferred} {u' : World} (h : (Instr.enterLoop fn tmps params a b r).run U u = .ok x u') :
    (∀ d ∈ x.2, ∃ q, d = { target := .collected q, args := #[] }) ∧ (r ≠ none → x.2 = []) := by
  unfold Instr.enterLoop at h
  cases r with
  | some l =>
    obtain ⟨r, _, _, h3⟩ := loop_of hv h
    have h4 : Sem.run U (Sem.new _ fun v => Sem.pure (v, [])) u = .ok x u' := h3
    simp only [Sem.run] at h4
    injection h4 with h4
    subst h4
    exact ⟨fun d hd => (by cases hd), fun _ => rfl⟩
  | none =>
    have h4 : Sem.run U (Sem.new _ fun q => Sem.new _ fun v => Sem.pure (v, [{ target := .collected q, args := #[] }])) u = .ok x u' := h
    simp only [Sem.run] at h4
    injection h4 with h4
    subst h4
    exact ⟨fun d hd => ⟨_, by simpa using hd⟩, fun h => absurd rfl h⟩
theorem lock_leave (hs : Sim S u w) (hm : S.m = true) {fr : Frame} {cs : List Frame} (hok : OkSt P F k0 fr cs) (jump : Option Code) (hj : ∀ c, jump = some c → okCode0 c = true) {x y : GStep}
    (hx : ∀ l, fr.roundOf = some l → x = GStep.after (seen (PF P F) fr.fn ((Instr.endRound l jump).runT (PF P F) u #[]).2) (match ((Instr.endRound l jump).runT (PF P F) u #[]).1 with | .ok v w => doReturn (PF P F) true fr (cs ++ bm) none v w | .halt _ w => .ended (.stuck "range over a function: no such loop" (fr.pos (PF P F))) w))
    (hy : ∀ l, fr.roundOf = some l → y = GStep.after (seen P fr.fn ((Instr.endRound l jump).runT P w #[]).2) (match ((Instr.endRound l jump).runT P w #[]).1 with | .ok v w => doReturn P true fr (cs ++ bt) none v w | .halt _ w => .ended (.stuck "range over a function: no such loop" (fr.pos P)) w))
    (hn : fr.roundOf = none → LockG P F k0 S bm bt u.heap.size x y) (hT : Heard S x) : LockG P F k0 S bm bt u.heap.size x y := by
  cases hr : fr.roundOf with
  | none => exact hn hr
  | some l =>
    cases cs with
    | nil => have q : fr.roundOf = none := hok.low; rw [hr] at q; cases q
    | cons c cs =>
      have hk := hok.m.kind
      have e : ∀ (p : Program) (v : Value) (w : World) (b : List Frame), doReturn p true fr (c :: cs ++ b) none v w = .go (G (c.finish v) (cs ++ b)) w := fun p v w b => by simp only [doReturn, List.cons_append, hk]; rfl
      refine lock_sem (f := fun r => match r with | .ok v w => doReturn (PF P F) true fr (c :: cs ++ bm) none v w | .halt _ w => .ended (.stuck "range over a function: no such loop" (fr.pos (PF P F))) w)
        (f' := fun r => match r with | .ok v w => doReturn P true fr (c :: cs ++ bt) none v w | .halt _ w => .ended (.stuck "range over a function: no such loop" (fr.pos P)) w)
        hs hm (simg_endRound hj) (still_endRound l jump) (hx l hr) (hy l hr) (fun v u' w' h1 h2 h3 => ?_) (fun x u' hf => ⟨_, _, _, rfl⟩) (fun v u' w' h => .inl ⟨_, _, _, rfl⟩) hT
      exact LockG.move (e _ _ _ _) (e _ _ _ _) h2 (hok.pop.fin v)
set_option maxHeartbeats 2000000 in
theorem lock_run (hK : FitsK P F k0) (hs : Sim S u w) (hm : S.m = true) {fn : FuncId} {tmps : Array Value} {todo : List Item} {ds : List Deferred} {ro : Option Nat} {cs : List Frame} (hok : OkSt P F k0 { fn := fn, tmps := tmps, todo := todo, defers := ds, mode := .run, kind := .normal, roundOf := ro } cs)
    (hT : Heard S (stepG (PF P F) true (G { fn := fn, tmps := tmps, todo := todo, defers := ds, mode := .run, kind := .normal, roundOf := ro } (cs ++ bm)) u)) :
    Lock P F k0 S bm bt { fn := fn, tmps := tmps, todo := todo, defers := ds, mode := .run, kind := .normal, roundOf := ro } cs u w := by
  have ht := hok.m.todo
  have ok : ∀ {tm : Array Value} {td : List Item}, (∀ it ∈ td, okItem P it = true) → OkSt P F k0 { fn := fn, tmps := tm, todo := td, defers := ds, mode := .run, kind := .normal, roundOf := ro } cs := fun h => hok.set ⟨h, rfl, hok.m.defers, hok.m.form⟩ rfl
  have okr : ro = none → ∀ {tm : Array Value} {td : List Item}, (∀ it ∈ td, okItem P it = true) → OkSt P F k0 { fn := fn, tmps := tm, todo := td, defers := ds, mode := .returning, kind := .normal, roundOf := ro } cs := fun hr _ _ h => hok.set ⟨h, rfl, hok.m.defers, hok.m.form.imp id fun q => absurd hr q.1⟩ rfl
  have tl : ∀ {it : Item} {k : List Item}, (∀ x ∈ it :: k, okItem P x = true) → (∀ x ∈ k, okItem P x = true) ∧ okItem P it = true := fun h => ⟨fun x hx => h x (List.mem_cons_of_mem _ hx), h _ (List.mem_cons_self ..)⟩
  have ap : ∀ {it : Item} {k : List Item}, (∀ x ∈ k, okItem P x = true) → okItem P it = true → (∀ x ∈ it :: k, okItem P x = true) := fun h1 h2 x hx => by
    rcases List.mem_cons.1 hx with e | e
    · subst e; exact h2
    · exact h1 x e
  unfold Lock
  rcases todo with _ | ⟨it, k⟩
  · refine lock_leave hs hm hok none (fun c h => by cases h) (fun l hl => by dsimp only at hl; subst hl; rfl) (fun l hl => by dsimp only at hl; subst hl; rfl) (fun hl => ?_) hT
    have hl' : ro = none := hl
    have q := okr hl' (tm := tmps) ht
    subst hl'
    exact LockG.move (cs' := cs) rfl rfl hs q
  obtain ⟨hk, hit⟩ := tl ht
  cases it
  case inBlock => exact LockG.move (cs' := cs) rfl rfl hs (ok hk)
  case inLoop c => exact LockG.move (cs' := cs) rfl rfl hs (ok (ap (ap hk hit) hit))
  case inRangeFunc l => exact .inl ⟨_, _, _, rfl⟩
  case beginRound =>
    refine lock_apply hK hs hm hok (s := do ro.elim (stuck "beginRound: no round") Instr.beginRound; pure .skip) ?_ ?_ hT
    · refine SimG.bindM up_qw ?_ fun _ => (sims_pureM _).g
      cases ro with
      | none => exact (sims_stuck _).g
      | some l => exact simg_beginRound
    · exact fun nx u' h => Yields.bind (Q := NextM F) (fun _ => Yields.pure (.inl (.inr (.inl rfl)))) _ _ _ h
  case endRangeFunc l =>
    refine lock_sem (f := fun r => match r with | .ok jump w => .go (G { fn := fn, tmps := tmps, todo := (jump.map Item.code).toList ++ k, defers := ds, mode := .run, kind := .normal, roundOf := ro } (cs ++ bm)) w | .halt (.panic v) w => .go (G (Frame.raise { fn := fn, tmps := tmps, todo := .endRangeFunc l :: k, defers := ds, mode := .run, kind := .normal, roundOf := ro } [{ v, recovered := false }]) (cs ++ bm)) w | .halt _ w => .ended (.stuck "range over a function: no such loop" (Frame.pos (PF P F) { fn := fn, tmps := tmps, todo := .endRangeFunc l :: k, defers := ds, mode := .run, kind := .normal, roundOf := ro })) w)
      (f' := fun r => match r with | .ok jump w => .go (G { fn := fn, tmps := tmps, todo := (jump.map Item.code).toList ++ k, defers := ds, mode := .run, kind := .normal, roundOf := ro } (cs ++ bt)) w | .halt (.panic v) w => .go (G (Frame.raise { fn := fn, tmps := tmps, todo := .endRangeFunc l :: k, defers := ds, mode := .run, kind := .normal, roundOf := ro } [{ v, recovered := false }]) (cs ++ bt)) w | .halt _ w => .ended (.stuck "range over a function: no such loop" (Frame.pos P { fn := fn, tmps := tmps, todo := .endRangeFunc l :: k, defers := ds, mode := .run, kind := .normal, roundOf := ro })) w)
      (fn := fn) hs hm simg_endLoop (still_endLoop l) rfl rfl (fun j u' w' h1 h2 h3 => ?_) (fun x u' hf => ?_) (fun v u' w' h => ?_) hT
    · refine LockG.move (cs' := cs) rfl rfl h2 (ok fun x hx => ?_)
      rcases List.mem_append.1 hx with hx | hx
      · cases j with
        | none => cases hx
        | some c =>
          simp only [Option.map_some, Option.toList_some, List.mem_singleton] at hx
          subst hx
          exact okCode0_ok P _ (endLoop_ok hs.views h1 _ rfl)
      · exact hk x hx
    · cases x <;> first | exact ⟨_, _, _, rfl⟩ | cases hf
    · exact LockG.move (cs' := cs) rfl rfl h (hok.raise_ _)
  case code c =>
    cases c
    case skip => exact LockG.move (cs' := cs) rfl rfl hs (ok hk)
    case label => exact LockG.move (cs' := cs) rfl rfl hs (ok hk)
    case ret =>
      refine lock_leave hs hm hok (some .ret) (fun c h => by injection h with h; subst h; rfl) (fun l hl => by dsimp only at hl; subst hl; rfl) (fun l hl => by dsimp only at hl; subst hl; rfl) (fun hl => ?_) hT
      have hl' : ro = none := hl
      have q := okr hl' (tm := tmps) ht
      subst hl'
      exact LockG.move (cs' := cs) rfl rfl hs q
    case seq a b =>
      simp only [okItem, okCode, Bool.and_eq_true] at hit
      exact LockG.move (cs' := cs) rfl rfl hs (ok (ap (ap hk hit.2) hit.1))
    case block id c => exact LockG.move (cs' := cs) rfl rfl hs (ok (ap (ap hk rfl) hit))
    case loop c => exact LockG.move (cs' := cs) rfl rfl hs (ok (ap (ap hk hit) hit))
    case cond c a b =>
      simp only [okItem, okCode, Bool.and_eq_true] at hit
      cases he : Frame.eval { fn := fn, tmps := tmps, todo := .code (.cond c a b) :: k, defers := ds, mode := .run, kind := .normal, roundOf := ro } c
      case bool t =>
        exact LockG.move (cs' := cs) (fr' := { fn := fn, tmps := tmps, todo := .code (if t then a else b) :: k, defers := ds, mode := .run, kind := .normal, roundOf := ro }) (by simp [G, stepG, stepG.exec, he]) (by simp [G, stepG, stepG.exec, he]) hs (ok (ap hk (by cases t <;> simp [okItem, hit])))
      all_goals exact .inl ⟨_, _, _, by simp [G, stepG, stepG.exec, he]; exact ⟨rfl, rfl, rfl⟩⟩
    case exit id =>
      cases he : exitTo id k with
      | none =>
        refine lock_leave hs hm hok (some (.exit id)) (fun c h => by injection h with h; subst h; rfl) (fun l hl => ?_) (fun l hl => ?_) (fun hl => ?_) hT
        · dsimp only at hl; subst hl
          simp only [G, stepG, stepG.exec, he]
          rfl
        · dsimp only at hl; subst hl
          simp only [G, stepG, stepG.exec, he]
          rfl
        · dsimp only at hl; subst hl
          exact .inl ⟨_, _, _, by simp [G, stepG, stepG.exec, he]; exact ⟨rfl, rfl, rfl⟩⟩
      | some k' => exact LockG.move (cs' := cs) (fr' := { fn := fn, tmps := tmps, todo := k', defers := ds, mode := .run, kind := .normal, roundOf := ro }) (by simp [G, stepG, stepG.exec, he]) (by simp [G, stepG, stepG.exec, he]) hs (ok (okItem_exit he hk))
    case rangeFunc f params a b =>
      simp only [okItem, okCode, Bool.and_eq_true] at hit
      obtain ⟨⟨hf, ha⟩, hb⟩ := hit
      cases f
      case tmp t0 =>
        refine lock_sem (f := fun r => match r with | .ok (l, mark) w => stepG.apply (PF P F) true { fn := fn, tmps := tmps, todo := .inRangeFunc l :: k, defers := mark ++ ds, mode := .run, kind := .normal, roundOf := ro } (cs ++ bm) none (do let d ← resolve (Frame.eval { fn := fn, tmps := tmps, todo := .inRangeFunc l :: k, defers := mark ++ ds, mode := .run, kind := .normal, roundOf := ro }) { callee := .value (.tmp t0), args := #[.const (.func (.yield l) #[] #[])], argTypes := #[] } 0; invoke d.target d.args) w | .halt _ w => .ended (.stuck "range over a function: no such loop" (Frame.pos (PF P F) { fn := fn, tmps := tmps, todo := .code (.rangeFunc (.tmp t0) params a b) :: k, defers := ds, mode := .run, kind := .normal, roundOf := ro })) w)
          (f' := fun r => match r with | .ok (l, mark) w => stepG.apply P true { fn := fn, tmps := tmps, todo := .inRangeFunc l :: k, defers := mark ++ ds, mode := .run, kind := .normal, roundOf := ro } (cs ++ bt) none (do let d ← resolve (Frame.eval { fn := fn, tmps := tmps, todo := .inRangeFunc l :: k, defers := mark ++ ds, mode := .run, kind := .normal, roundOf := ro }) { callee := .value (.tmp t0), args := #[.const (.func (.yield l) #[] #[])], argTypes := #[] } 0; invoke d.target d.args) w | .halt _ w => .ended (.stuck "range over a function: no such loop" (Frame.pos P { fn := fn, tmps := tmps, todo := .code (.rangeFunc (.tmp t0) params a b) :: k, defers := ds, mode := .run, kind := .normal, roundOf := ro })) w)
          hs hm (simg_enterLoop up_qw ha hb) still_enter rfl rfl (fun x u' w' h1 h2 h3 => ?_) (fun x u' hf => ⟨_, _, _, rfl⟩) (fun v u' w' h => .inl ⟨_, _, _, rfl⟩) hT
        obtain ⟨l, mark⟩ := x
        obtain ⟨m1, m2⟩ := enter_mark hs.views h1
        have hok2 : OkSt P F k0 { fn := fn, tmps := tmps, todo := .inRangeFunc l :: k, defers := mark ++ ds, mode := .run, kind := .normal, roundOf := ro } cs := by
          refine hok.set ⟨ap hk rfl, rfl, fun d hd => ?_, hok.m.form.imp id fun q => ⟨q.1, ?_, q.2.2⟩⟩ rfl
          · rcases List.mem_append.1 hd with hd | hd
            · exact m1 d hd
            · exact hok.m.defers d hd
          · have q2 : ds = [] := q.2.1
            have m3 : mark = [] := m2 q.1
            rw [q2, m3]; rfl
        exact lock_apply hK h2 hm hok2 (simg_callValue hK.fits up_qw _ _) (fun nx u2 h => next_callValue hK.fits h2.views _ _ h) h3
      all_goals cases hf
    case region id ops draw =>
      cases draw
      · exact LockG.move (cs' := cs) (fr' := { fn := fn, tmps := tmps, todo := .inRegion ops (List.range ops.size) :: k, defers := ds, mode := .run, kind := .normal, roundOf := ro }) rfl rfl hs (ok (ap hk hit))
      · have hd := hs.draw
        refine .inr (.inl ⟨{ fn := fn, tmps := tmps, todo := .inRegion ops (Region.schedule (P.follows .mixedOrders) ops (u.tape u.drawn (.order fn id))) :: k, defers := ds, mode := .run, kind := .normal, roundOf := ro }, cs, { u with drawn := u.drawn + 1 }, { w with drawn := w.drawn + 1 }, #[], #[], ?_, ?_, hd, Nat.le_refl _, fun e he => by simp at he, ok (ap hk hit)⟩)
        · rfl
        · have hdr : u.drawn + 1 ≤ S.T := hT
          have := hs.tape 0 (.order fn id) (by omega)
          simp only [Nat.add_zero] at this
          rw [← this]; rfl
    all_goals cases hit
  case inRegion ops l =>
    rcases l with _ | ⟨i, l⟩
    · exact LockG.move (cs' := cs) rfl rfl hs (ok hk)
    have hfin : OkSt P F k0 (Frame.finish { fn := fn, tmps := tmps, todo := .inRegion ops (i :: l) :: k, defers := ds, mode := .run, kind := .normal, roundOf := ro } undef) cs := hok.fin undef
    cases ho : ops[i]? with
    | none => exact LockG.move (cs' := cs) (by simp [G, stepG, stepG.exec, ho]) (by simp [G, stepG, stepG.exec, ho]) hs hfin
    | some o =>
      cases hw : Region.wanted o (yielded ops tmps) with
      | false => exact LockG.move (cs' := cs) (by simp [G, stepG, stepG.exec, ho, hw]) (by simp [G, stepG, stepG.exec, ho, hw]) hs hfin
      | true =>
        have hop : okOpM P o = true := by
          simp only [okItem, Array.all_eq_true'] at hit
          exact hit o (Array.mem_of_getElem? ho)
        have hnd : ∀ c, o.op ≠ .defer c := fun c e => by
          simp only [okOpM, okOp, e] at hop
          cases hop
        rw [step_oper _ _ ho hnd hw, step_oper _ _ ho hnd hw]
        rw [step_oper _ _ ho hnd hw] at hT
        exact lock_apply hK hs hm hok (simg_execOp hK.fits _ (fun f => rfl) o hop) (fun nx u' h => next_execOpM hK.fits hs.views _ (fun f => rfl) o hop h) hT
  all_goals cases hit
theorem sim_results (f : Func) (tmps : Array Value) : SimS (PF P F) P (results f tmps) := by
  unfold results
  refine sims_bindM (sim_mapM_array _ _ (fun x => ?_)) (fun vs => sims_pureM _)
  split
  · exact sims_pureM _
  · exact sims_bindM (sim_asAddr _) (fun a => sim_loadVar _ _)
theorem catches_ok {Q : Program} {fr : Frame} (h : ∀ it ∈ fr.todo, okItem P it = true) : fr.catches Q = false := by
  unfold Frame.catches
  split
  · rename_i e; rw [e] at h; have q := h _ (List.mem_cons_self ..); cases q
  · rfl
set_option maxHeartbeats 1000000 in
theorem lock_return (hK : FitsK P F k0) (hs : Sim S u w) {fr : Frame} {cs : List Frame} {c : Frame} (hok : OkSt P F k0 fr (c :: cs)) (hm : fr.mode = .returning) (hd : fr.defers = []) (hT : Heard S (stepG (PF P F) true (G fr (c :: cs ++ bm)) u)) : Lock P F k0 S bm bt fr (c :: cs) u w := by
  have hpop := hok.pop
  obtain ⟨fn, tmps, todo, defers, mode, kind, round⟩ := fr
  obtain ⟨⟨h3, h5, _, hf⟩, _, _⟩ := hok
  dsimp only at h3 h5 hf hm hd
  rcases hf with ⟨h6, h1, g, h2, h2'⟩ | ⟨_, _, q⟩
  rotate_left
  · exact absurd hm q
  subst hd h5 h6 hm
  have hss := sim_results (P := P) (F := F) g tmps S u w #[] hs
  have hfst := Sem.runT_fst (PF P F) (results g tmps) u #[]
  unfold Lock
  unfold Heard at hT
  simp only [G, stepG, unwind, h2, show (PF P F).funcs = F from rfl, h2', List.cons_append] at hT ⊢
  generalize hrT : (results g tmps).runT (PF P F) u #[] = rt at hfst hT ⊢
  obtain ⟨r, es⟩ := rt
  dsimp only at hfst
  subst hfst
  cases hr : (results g tmps).run (PF P F) u with
  | ok v u' =>
    rw [hr] at hss hT
    obtain ⟨w', es', e1, e2, e3, e4⟩ := hss hT
    simp only [e1]
    exact .inr (.inl ⟨c.finish v, cs, u', w', _, _, rfl, rfl, e2, e3, fun e he => e4 e (by have := mem_seen (by simpa using he : e ∈ seen P fn (#[] ++ es')); simpa using this), hpop.fin v⟩)
  | halt x u' =>
    left
    cases x <;> exact ⟨_, _, _, rfl⟩
theorem lock_panic (hK : FitsK P F k0) (hs : Sim S u w) {fr : Frame} {cs : List Frame} {ch : List PanicEntry} {c : Frame} (hok : OkSt P F k0 fr (c :: cs)) (hm : fr.mode = .panicking ch) (hd : fr.defers = []) : Lock P F k0 S bm bt fr (c :: cs) u w := by
  have hc1 := catches_ok (Q := PF P F) hok.m.todo
  have hc2 := catches_ok (Q := P) hok.m.todo
  obtain ⟨fn, tmps, todo, defers, mode, kind, round⟩ := fr
  dsimp only at hm hd
  subst hm hd
  unfold Lock
  refine LockG.move (fr' := c.raise ch) (cs' := cs) ?_ ?_ hs (hok.pop.raise_ ch)
  · simp [G, stepG, unwind, hc1]
  · simp [G, stepG, unwind, hc2]
theorem lock_take (hs : Sim S u w) (hmm : S.m = true) {fr : Frame} {cs : List Frame} {d : Deferred} {ds : List Deferred} (hok : OkSt P F k0 fr cs) (hm : fr.mode ≠ .run) (hd : fr.defers = d :: ds) (hT : Heard S (stepG (PF P F) true (G fr (cs ++ bm)) u)) : Lock P F k0 S bm bt fr cs u w := by
  obtain ⟨r, rfl⟩ := hok.m.defers d (by rw [hd]; exact List.mem_cons_self ..)
  have e : ∀ (p : Program) (b : List Frame) (w : World), stepG p true (G fr (cs ++ b)) w = GStep.after (seen p fr.fn ((Instr.takeDeferred r).runT p w #[]).2) (match ((Instr.takeDeferred r).runT p w #[]).1 with | .ok calls w => .go (G { fr with defers := calls ++ ds } (cs ++ b)) w | .halt _ w => .ended (.stuck "the deferred calls of a range-over-func loop have been taken" (fr.pos p)) w) := fun p b w => by
    obtain ⟨fn, tmps, todo, defers, mode, kind, round⟩ := fr
    dsimp only at hd hm
    subst hd
    cases mode with
    | run => exact absurd rfl hm
    | returning => rfl
    | panicking ch => rfl
  refine lock_sem (f := fun x => match x with | .ok calls w => .go (G { fr with defers := calls ++ ds } (cs ++ bm)) w | .halt _ w => .ended (.stuck "the deferred calls of a range-over-func loop have been taken" (fr.pos (PF P F))) w)
    (f' := fun x => match x with | .ok calls w => .go (G { fr with defers := calls ++ ds } (cs ++ bt)) w | .halt _ w => .ended (.stuck "the deferred calls of a range-over-func loop have been taken" (fr.pos P)) w)
    hs hmm simg_takeDeferred (still_take r) (e _ _ _) (e _ _ _) (fun calls u' w' h1 h2 h3 => ?_) (fun x u' hf => ⟨_, _, _, rfl⟩) (fun v u' w' h => .inl ⟨_, _, _, rfl⟩) hT
  have := take_nil hs.views h1
  subst this
  refine LockG.move (cs' := cs) rfl rfl h2 (hok.set ⟨hok.m.todo, hok.m.kind, fun x hx => hok.m.defers x (by rw [hd]; exact List.mem_cons_of_mem _ hx), hok.m.form.imp id fun q => ?_⟩ rfl)
  have q2 := q.2.1
  rw [hd] at q2; cases q2
set_option maxHeartbeats 1000000 in
theorem leave_return (hs : Sim S u w) {fr : Frame} (hf : OkFr P F k0 fr) (hm : fr.mode = .returning) {c c' : Frame} (hT : Heard S (stepG (PF P F) true (G fr (c :: bm)) u)) :
    (∃ o u' es, stepG (PF P F) true (G fr (c :: bm)) u = .ended o u' es) ∨ ∃ v u' w' es es', stepG (PF P F) true (G fr (c :: bm)) u = .go (G (c.finish v) bm) u' es ∧ stepG P true (G fr (c' :: bt)) w = .go (G (c'.finish v) bt) w' es' ∧
      Sim S u' w' ∧ u.heap.size ≤ u'.heap.size ∧ (∀ e ∈ es', EvS S u'.heap.size e) := by
  obtain ⟨fn, tmps, todo, defers, mode, kind, round⟩ := fr
  obtain ⟨h1, ⟨g, h2, h2'⟩, h3, h4, h5, h6⟩ := hf
  dsimp only at h1 h2 h2' h3 h4 h5 h6 hm
  subst h4 h5 h6 hm
  have hss := sim_results (P := P) (F := F) g tmps S u w #[] hs
  have hfst := Sem.runT_fst (PF P F) (results g tmps) u #[]
  unfold Heard at hT
  simp only [G, stepG, unwind, h2, show (PF P F).funcs = F from rfl, h2'] at hT ⊢
  generalize hrT : (results g tmps).runT (PF P F) u #[] = rt at hfst hT ⊢
  obtain ⟨r, es⟩ := rt
  dsimp only at hfst
  subst hfst
  cases hr : (results g tmps).run (PF P F) u with
  | ok v u' =>
    rw [hr] at hss hT
    obtain ⟨w', es', e1, e2, e3, e4⟩ := hss hT
    simp only [e1]
    exact .inr ⟨v, u', w', _, _, rfl, rfl, e2, e3, fun e he => e4 e (by have := mem_seen (by simpa using he : e ∈ seen P fn (#[] ++ es')); simpa using this)⟩
  | halt x u' =>
    left
    cases x <;> exact ⟨_, _, _, rfl⟩
theorem leave_panic {fr : Frame} (hf : OkFr P F k0 fr) {ch : List PanicEntry} (hm : fr.mode = .panicking ch) {c c' : Frame} :
    stepG (PF P F) true (G fr (c :: bm)) u = .go (G (c.raise ch) bm) u ∧ stepG P true (G fr (c' :: bt)) w = .go (G (c'.raise ch) bt) w := by
  obtain ⟨fn, tmps, todo, defers, mode, kind, round⟩ := fr
  obtain ⟨h1, ⟨g, h2, h2'⟩, h3, h4, h5, h6⟩ := hf
  dsimp only at h1 h2 h2' h3 h4 h5 h6 hm
  subst h4 h5 h6 hm
  exact ⟨by simp [G, stepG, unwind, Frame.catches, h2', show (PF P F).funcs = F from rfl], by simp [G, stepG, unwind, Frame.catches, h2]⟩
theorem lock_step (hK : FitsK P F k0) (hs : Sim S u w) (hmm : S.m = true) {fr : Frame} {cs : List Frame} (hok : OkSt P F k0 fr cs) (hm : fr.mode = .run ∨ cs ≠ [] ∨ fr.defers ≠ []) (hT : Heard S (stepG (PF P F) true (G fr (cs ++ bm)) u)) : Lock P F k0 S bm bt fr cs u w := by
  by_cases he : fr.mode = .run
  · obtain ⟨fn, tmps, todo, defers, mode, kind, round⟩ := fr
    have h5 := hok.m.kind
    dsimp only at h5 he
    subst h5 he
    exact lock_run hK hs hmm hok hT
  cases hd : fr.defers with
  | cons d ds => exact lock_take hs hmm hok he hd hT
  | nil =>
    rcases cs with _ | ⟨c, cs⟩
    · rcases hm with q | q | q
      · exact absurd q he
      · cases q rfl
      · exact absurd hd q
    cases hmd : fr.mode with
    | run => exact absurd hmd he
    | returning => exact lock_return hK hs hok hmd hd hT
    | panicking ch => exact lock_panic hK hs hok hmd hd
end
end Go.Proofs.YtemgilofjbnoaaaGreatDoor
namespace Go.Proofs.YtemgilofjbnoaaaGreatDoor
open Go Go.Conc
set_option linter.unusedVariables false
set_option linter.unusedSimpArgs false
def re (u : World) (τ : Nat → Question → Nat) (d : Nat) : World := { u with tape := τ, drawn := d }
inductive Fin_ (U : Program) (Stop : Frame → List Frame → World → Prop) : Frame → List Frame → World → Prop
  | stop {fr : Frame} {stk : List Frame} {u : World} (h : Stop fr stk u) : Fin_ U Stop fr stk u
  | step {fr : Frame} {stk : List Frame} {u : World} (h1 : ∀ τ d, ∃ fr' stk' u' es, stepG U true (G fr stk) (re u τ d) = .go (G fr' stk') u' es)
      (h2 : ∀ τ d fr' stk' u' es, stepG U true (G fr stk) (re u τ d) = .go (G fr' stk') u' es → Fin_ U Stop fr' stk' u') : Fin_ U Stop fr stk u
def NoView (u : World) : Prop := ∀ (b : Nat) (o : Obj), u.heap[b]? = some o → okObj o = true
def c0 : Frame := { fn := 0, tmps := #[], todo := [.code (.refuse "")], defers := [{ target := .nil, args := #[] }], mode := .run, kind := .normal }
theorem c0_finish (U : Program) (v : Value) (u : World) : ∃ o w es, stepG U true (G (c0.finish v) []) u = .ended o w es := ⟨_, _, _, rfl⟩
theorem c0_raise (U : Program) (ch : List PanicEntry) (u : World) : ∃ o w es, stepG U true (G (c0.raise ch) []) u = .ended o w es := ⟨_, _, _, rfl⟩
section
variable {P : Program} {F : Array Func} {k1 : FuncId} {bm : List Frame}
theorem sim_self {u : World} {m : Bool} (hv : NoView u) (τ : Nat → Question → Nat) (d T : Nat) (h : ∀ i q, u.drawn + i < T → τ (d + i) q = u.tape (u.drawn + i) q) : Sim ⟨fun _ => False, fun _ => default, T, u.drawn, d, τ, m⟩ u (re u τ d) :=
  ⟨rfl, fun _ _ => rfl, fun _ h => h.elim, hv, rfl, rfl, h, fun _ h => h.elim, Nat.add_comm _ _, rfl⟩
theorem sim_re {u w : World} {T a b : Nat} {τ : Nat → Question → Nat} {m : Bool} (h : Sim ⟨fun _ => False, fun _ => default, T, a, b, τ, m⟩ u w) : w = re u τ w.drawn := by
  obtain ⟨heap, tape, drawn, os, output⟩ := w
  have e1 : heap = u.heap := by
    apply Array.ext_getElem?
    intro i
    exact (h.out i (fun q => q)).symm
  have e2 : tape = τ := h.tap
  have e3 : os = u.os := h.os
  have e4 : output = u.output := h.output
  subst e1 e2 e3 e4
  rfl
theorem shift_step (hU : FitsK (PF P F) F k1) (hk : F[k1]? = none) {fr : Frame} {cs : List Frame} {u : World} (hf : OkSt (PF P F) F k1 fr cs) (hm : fr.mode = .run ∨ cs ≠ [] ∨ fr.defers ≠ []) (hv : NoView u)
    {τ : Nat → Question → Nat} {d n : Nat} (hn : n = (gw (stepG (PF P F) true (G fr (cs ++ bm)) u)).drawn - u.drawn) (ht : ∀ i q, i < n → τ (d + i) q = u.tape (u.drawn + i) q) :
    (∃ o u' es, stepG (PF P F) true (G fr (cs ++ bm)) u = .ended o u' es) ∨
    (∃ fr' cs' u' es es', stepG (PF P F) true (G fr (cs ++ bm)) u = .go (G fr' (cs' ++ bm)) u' es ∧ stepG (PF P F) true (G fr (cs ++ bm)) (re u τ d) = .go (G fr' (cs' ++ bm)) (re u' τ (d + n)) es' ∧
      OkSt (PF P F) F k1 fr' cs' ∧ NoView u') := by
  have e : PF (PF P F) F = PF P F := rfl
  have key : ∀ (τ : Nat → Question → Nat) (d : Nat), (∀ i q, i < n → τ (d + i) q = u.tape (u.drawn + i) q) → _ := fun τ d ht =>
    lock_step (bm := bm) (bt := bm) hU (sim_self (m := true) hv τ d (gw (stepG (PF P F) true (G fr (cs ++ bm)) u)).drawn (fun i q hi => ht i q (by omega))) rfl hf hm (Nat.le_refl _)
  have k0 := key (fun p => u.tape (u.drawn + p)) 0 (fun i q hi => by simp)
  have k2 := key τ d ht
  unfold Lock LockG at k0 k2
  rw [e] at k0 k2
  rcases k2 with h | ⟨fr', cs', u', w', es, es', h1, h2, h3, _, _, h4⟩ | ⟨_, _, _, _, _, _, _, _, _, ⟨g, hg⟩, _⟩
  · exact .inl h
  · right
    refine ⟨fr', cs', u', es, es', h1, ?_, h4, h3.views⟩
    have hd : u.drawn ≤ u'.drawn := by
      rcases k0 with ⟨o, x, y, h⟩ | ⟨fr2, cs2, u2, w2, es2, es3, g1, g2, g3, _⟩ | ⟨_, _, _, _, _, _, _, _, _, ⟨g, hg⟩, _⟩
      · rw [h1] at h; cases h
      · rw [h1] at g1
        injection g1 with q1 q2 q3
        subst q2
        have := g3.off
        simp only [] at this
        omega
      · rw [hk] at hg; cases hg
    have ho := h3.off
    simp only [] at ho
    have hn' : n = u'.drawn - u.drawn := by rw [hn, h1]; rfl
    have hw : w'.drawn = d + n := by omega
    rw [h2, ← hw, ← sim_re h3]
  · rw [hk] at hg; cases hg
end
section
variable {U : Program} {F : Array Func} {k1 : FuncId} {Stop : Frame → List Frame → World → Prop}
structure Astray (U : Program) (F : Array Func) (k1 : FuncId) (Stop : Frame → List Frame → World → Prop) where
  fr : Frame
  cs : List Frame
  u : World
  st : OkSt U F k1 fr cs
  view : NoView u
  bad : ¬ Fin_ U Stop fr (cs ++ [c0]) u
namespace Astray
variable (x : Astray U F k1 Stop)
theorem ex : ∃ (p : (Nat → Question → Nat) × Nat), ∀ fr' stk' u' es, stepG U true (G x.fr (x.cs ++ [c0])) (re x.u p.1 p.2) = .go (G fr' stk') u' es → ¬ Fin_ U Stop fr' stk' u' := by
  refine Classical.byContradiction fun hn => x.bad ?_
  have all : ∀ τ d, ∃ fr' stk' u' es, stepG U true (G x.fr (x.cs ++ [c0])) (re x.u τ d) = .go (G fr' stk') u' es ∧ Fin_ U Stop fr' stk' u' := fun τ d =>
    Classical.byContradiction fun h => hn ⟨(τ, d), fun fr' stk' u' es h1 h2 => h ⟨fr', stk', u', es, h1, h2⟩⟩
  refine .step (fun τ d => (all τ d).imp fun _ => .imp fun _ => .imp fun _ => .imp fun _ h => h.1) (fun τ d fr' stk' u' es h => ?_)
  obtain ⟨a, b, c, e, h1, h2⟩ := all τ d
  rw [h] at h1
  injection h1 with q1 q2 q3
  injection q1 with r1 r2
  subst r1 r2 q2
  exact h2
noncomputable def tau : Nat → Question → Nat := (Classical.choose x.ex).1
noncomputable def dd : Nat := (Classical.choose x.ex).2
noncomputable def r : GStep := stepG U true (G x.fr (x.cs ++ [c0])) (re x.u x.tau x.dd)
theorem badr : ∀ fr' stk' u' es, x.r = .go (G fr' stk') u' es → ¬ Fin_ U Stop fr' stk' u' := Classical.choose_spec x.ex
noncomputable def n : Nat := (gw x.r).drawn - x.dd
def Goes_ (y : Astray U F k1 Stop) : Prop := ∃ es, x.r = .go (G y.fr (y.cs ++ [c0])) y.u es
open Classical in
noncomputable def next : Option (Astray U F k1 Stop) := if h : ∃ y, x.Goes_ y then some (Classical.choose h) else none
theorem next_some {y : Astray U F k1 Stop} (h : x.next = some y) : x.Goes_ y := by
  unfold next at h
  split at h
  · rename_i hh
    injection h with h; subst h
    exact Classical.choose_spec hh
  · cases h
theorem next_none (h : x.next = none) (y : Astray U F k1 Stop) : ¬ x.Goes_ y := by
  unfold next at h
  split at h
  · cases h
  · rename_i hh
    exact fun q => hh ⟨y, q⟩
noncomputable def seq : Nat → Option (Astray U F k1 Stop)
  | 0 => some x
  | k + 1 => (seq k).bind next
noncomputable def len : Option (Astray U F k1 Stop) → Nat
  | some y => y.n
  | none => 0
noncomputable def D : Nat → Nat
  | 0 => 0
  | k + 1 => D k + len (x.seq k)
theorem D_mono {k l : Nat} (h : k ≤ l) : x.D k ≤ x.D l := by
  induction h with
  | refl => exact Nat.le_refl _
  | step _ ih => exact Nat.le_trans ih (Nat.le_add_right _ _)
theorem seq_none {k l : Nat} (h : k ≤ l) (hn : x.seq k = none) : x.seq l = none := by
  induction h with
  | refl => exact hn
  | step _ ih => show (x.seq _).bind next = none; rw [ih]; rfl
def At (p : Nat) (ky : Nat × Astray U F k1 Stop) : Prop := x.seq ky.1 = some ky.2 ∧ x.D ky.1 ≤ p ∧ (ky.2.next = none ∨ p < x.D (ky.1 + 1))
open Classical in
noncomputable def tape (p : Nat) (q : Question) : Nat :=
  if h : ∃ ky, x.At p ky then (Classical.choose h).2.tau ((Classical.choose h).2.dd + (p - x.D (Classical.choose h).1)) q else 0
theorem at_le {p : Nat} {a b : Nat × Astray U F k1 Stop} (ha : x.At p a) (hb : x.At p b) : ¬ a.1 < b.1 := by
  intro hlt
  obtain ⟨a1, a2, a3⟩ := ha
  obtain ⟨b1, b2, b3⟩ := hb
  rcases a3 with h | h
  · have : x.seq (a.1 + 1) = none := by show (x.seq a.1).bind next = none; rw [a1]; exact h
    rw [x.seq_none hlt this] at b1; cases b1
  · have := x.D_mono (k := a.1 + 1) (l := b.1) hlt
    omega
theorem tape_at {p : Nat} {q : Question} {k : Nat} {y : Astray U F k1 Stop} (h : x.At p (k, y)) : x.tape p q = y.tau (y.dd + (p - x.D k)) q := by
  have hh : ∃ ky, x.At p ky := ⟨_, h⟩
  unfold tape
  rw [dif_pos hh]
  have hs := Classical.choose_spec hh
  generalize Classical.choose hh = c at hs ⊢
  obtain ⟨k', y'⟩ := c
  have e : k' = k := by
    have := x.at_le hs h
    have := x.at_le h hs
    simp only [] at *
    omega
  subst e
  have : y' = y := by have := hs.1.symm.trans h.1; injection this
  subst this
  rfl
end Astray
end
theorem step_go {U : Program} {fr fr' : Frame} {stk stk' : List Frame} {u u' : World} {es : Array Event} (h : stepG U true (G fr stk) u = .go (G fr' stk') u' es) : step U (lone fr stk u) = .next (lone fr' stk' u') :=
  step_lone_go (by show (stepG U true (G fr stk) u).bare = _; rw [h]; rfl)
theorem step_end {U : Program} {fr : Frame} {stk : List Frame} {u u' : World} {o : Outcome} {es : Array Event} (h : stepG U true (G fr stk) u = .ended o u' es) : step U (lone fr stk u) = .ended o u' :=
  step_lone_ended (by show (stepG U true (G fr stk) u).bare = _; rw [h]; rfl)
theorem lone_inj {fr fr' : Frame} {stk stk' : List Frame} {u u' : World} (h : Stepped.next (lone fr stk u) = .next (lone fr' stk' u')) : fr = fr' ∧ stk = stk' ∧ u = u' := by
  injection h with h
  unfold lone at h
  injection h with h1 h2 h3
  simp only [Array.mk.injEq, List.cons.injEq, Goroutine.mk.injEq] at h2
  exact ⟨h2.1.1, h2.1.2.1, h1⟩
section
variable {P : Program} {F : Array Func} {k1 : FuncId} {Stop : Frame → List Frame → World → Prop}
theorem run_succ (U : Program) (m : Nat) (x : Machine) {y : Machine} (h : step U x = .next y) : runN U (m + 1) x = runN U m y := by simp [runN, h]
theorem run_end (U : Program) (m : Nat) (x : Machine) {o : Outcome} {u : World} (h : step U x = .ended o u) : runN U (m + 1) x = .ended o u := by simp [runN, h]
theorem astray_not (hU : FitsK (PF P F) F k1) (hk : F[k1]? = none) (hS : ∀ fr stk u τ d, Stop fr stk (re u τ d) → Stop fr stk u)
    (x : Astray (PF P F) F k1 Stop) {n0 : Nat} {fr' : Frame} {w' : World} (hr : runN (PF P F) n0 (lone x.fr (x.cs ++ [c0]) (re x.u x.tape 0)) = .next (lone fr' [c0] w')) (hst : Stop fr' [c0] w') : False := by
  have main : ∀ k, k ≤ n0 → ∃ y, x.seq k = some y ∧ runN (PF P F) (n0 - k) (lone y.fr (y.cs ++ [c0]) (re y.u x.tape (x.D k))) = .next (lone fr' [c0] w') := by
    intro k
    induction k with
    | zero => intro _; exact ⟨x, rfl, hr⟩
    | succ k ih =>
      intro hk1
      obtain ⟨y, hy, hrun⟩ := ih (by omega)
      obtain ⟨m, hm⟩ : ∃ m, n0 - k = m + 1 := ⟨n0 - k - 1, by omega⟩
      have hm2 : n0 - (k + 1) = m := by omega
      rw [hm] at hrun
      rw [hm2]
      by_cases hmode : y.fr.mode = .run ∨ y.cs ≠ [] ∨ y.fr.defers ≠ []
      · cases hn : y.next with
        | some z =>
          obtain ⟨es0, hz⟩ := y.next_some hn
          have hD : x.D (k + 1) = x.D k + y.n := by show x.D k + Astray.len (x.seq k) = _; rw [hy]; rfl
          have hs := shift_step (bm := [c0]) hU hk y.st hmode (u := re y.u y.tau y.dd) y.view (τ := x.tape) (d := x.D k) (n := y.n) rfl (fun i q hi => by
            rw [x.tape_at (k := k) (y := y) ⟨hy, Nat.le_add_right _ _, .inr (by simp only []; rw [hD]; omega)⟩, Nat.add_sub_cancel_left]; rfl)
          rcases hs with ⟨o, u2, es, h⟩ | ⟨fr2, cs2, u2, es, es2, h1, h2, _⟩
          · have := hz.symm.trans h; cases this
          · have e := hz.symm.trans h1
            injection e with q1 q2 q3
            injection q1 with r1 r2
            have r3 : z.cs = cs2 := List.append_cancel_right r2
            subst r1 r3 q2
            refine ⟨z, by show (x.seq k).bind Astray.next = some z; rw [hy]; exact hn, ?_⟩
            rw [hD, ← hrun]
            exact (run_succ _ _ _ (step_go h2)).symm
        | none =>
          have hs := shift_step (bm := [c0]) hU hk y.st hmode (u := re y.u x.tape (x.D k)) y.view (τ := y.tau) (d := y.dd) rfl (fun i q hi => by
            show _ = x.tape (x.D k + i) q
            rw [x.tape_at (k := k) (y := y) ⟨hy, Nat.le_add_right _ _, .inl hn⟩, Nat.add_sub_cancel_left])
          rcases hs with ⟨o, u2, es, h⟩ | ⟨fr2, cs2, u2, es, es2, h1, h2, h3, h5⟩
          · rw [run_end _ _ _ (step_end h)] at hrun; cases hrun
          · have h2' : y.r = _ := h2
            exact (y.next_none hn ⟨fr2, cs2, re u2 y.tau (y.dd + ((gw (stepG (PF P F) true (G y.fr (y.cs ++ [c0])) (re y.u x.tape (x.D k)))).drawn - (re y.u x.tape (x.D k)).drawn)), h3, h5, y.badr _ _ _ _ h2'⟩ ⟨_, h2'⟩).elim
      · have hcs : y.cs = [] := Classical.byContradiction fun h => hmode (.inr (.inl h))
        have hds : y.fr.defers = [] := Classical.byContradiction fun h => hmode (.inr (.inr h))
        have yok : OkFr (PF P F) F k1 y.fr := y.st.m.fr (by have := y.st.low; rw [hcs] at this; exact this) hds
        have hne : y.fr.mode ≠ .run := fun h => hmode (.inl h)
        have fin : ∀ {f : Frame} {u2 : World} {es : Array Event}, stepG (PF P F) true (G y.fr [c0]) (re y.u x.tape (x.D k)) = .go (G f []) u2 es → (∃ o w es, stepG (PF P F) true (G f []) u2 = .ended o w es) → False := by
          intro f u2 es h ⟨o, w, es', h'⟩
          rw [hcs, List.nil_append, run_succ _ _ _ (step_go h)] at hrun
          cases m with
          | zero =>
            have := lone_inj hrun
            cases this.2.1
          | succ m => rw [run_end _ _ _ (step_end h')] at hrun; cases hrun
        cases he : y.fr.mode with
        | run => exact absurd he hne
        | returning =>
          have hv : NoView (re y.u x.tape (x.D k)) := y.view
          rcases leave_return (bm := []) (bt := []) (c := c0) (c' := c0) (sim_self (m := true) hv x.tape (x.D k) (gw (stepG (PF P F) true (G y.fr [c0]) (re y.u x.tape (x.D k)))).drawn (fun i q _ => rfl)) yok he (Nat.le_refl _) with ⟨o, u2, es, h⟩ | ⟨v, u2, w2, es, es2, h, _⟩
          · rw [hcs, List.nil_append, run_end _ _ _ (step_end h)] at hrun; cases hrun
          · exact (fin h (c0_finish _ _ _)).elim
        | panicking ch =>
          exact (fin (leave_panic (bm := []) (bt := []) (c := c0) (c' := c0) (w := y.u) yok he).1 (c0_raise _ _ _)).elim
  obtain ⟨y, hy, hrun⟩ := main n0 (Nat.le_refl _)
  rw [Nat.sub_self] at hrun
  obtain ⟨e1, e2, e3⟩ := lone_inj hrun
  refine y.bad (Fin_.stop ?_)
  rw [e2, e1]
  exact hS _ _ _ x.tape (x.D n0) (by rw [e3]; exact hst)
theorem fin_of (hU : FitsK (PF P F) F k1) (hk : F[k1]? = none) (hS : ∀ fr stk u τ d, Stop fr stk (re u τ d) → Stop fr stk u) {fr : Frame} {cs : List Frame} {u : World}
    (hf : OkFr (PF P F) F k1 fr) (hc : ∀ x ∈ cs, OkFr (PF P F) F k1 x) (hv : NoView u)
    (H : ∀ τ, ∃ n fr' w', runN (PF P F) n (lone fr (cs ++ [c0]) (re u τ 0)) = .next (lone fr' [c0] w') ∧ Stop fr' [c0] w') : Fin_ (PF P F) Stop fr (cs ++ [c0]) u := by
  refine Classical.byContradiction fun hn => ?_
  obtain ⟨n, fr', w', h1, h2⟩ := H (Astray.mk fr cs u (.one hf hc) hv hn : Astray (PF P F) F k1 Stop).tape
  exact astray_not hU hk hS ⟨fr, cs, u, .one hf hc, hv, hn⟩ h1 h2
def StopOf (U : Program) (f : FuncId) (Post : Value → World → Prop) (fr : Frame) (stk : List Frame) (u : World) : Prop :=
  stk = [c0] ∧ fr.fn = f ∧ ∃ τ d v, fr.leaving U (re u τ d) (.returned v) ∧ Post v (re u τ d)
theorem StopOf.low {U : Program} {f : FuncId} {Post : Value → World → Prop} (fr : Frame) (stk : List Frame) (u : World) (h : StopOf U f Post fr stk u) : stk = [c0] ∧ fr.mode ≠ .run ∧ fr.defers = [] := by
  obtain ⟨h1, h2, τ, d, v, h3, h4⟩ := h
  exact ⟨h1, by rw [h3.1]; simp, h3.2.1⟩
theorem fin_of_calls (hU : FitsK (PF P F) F k1) (hk : F[k1]? = none) {f : FuncId} {args : Array Value} {u : World} {Post : Value → World → Prop} (hf : OkFr (PF P F) F k1 (Frame.enter (PF P F) f args .normal)) (hv : NoView u)
    (H : ∀ τ, Calls (PF P F) f args (re u τ 0) fun | .returned v, w => Post v w | _, _ => False) : Fin_ (PF P F) (StopOf (PF P F) f Post) (Frame.enter (PF P F) f args .normal) [c0] u := by
  refine fin_of (cs := []) hU hk (fun fr stk u τ d h => h) hf (by simp) hv (fun τ => ?_)
  obtain ⟨e, w', fr, hR, hC, hfn, hl⟩ := H τ [c0]
  cases e with
  | returned v =>
    obtain ⟨n, hn⟩ := hC
    exact ⟨n, fr, w', hn, rfl, hfn, w'.tape, w'.drawn, v, hl, hR⟩
  | panicked ch => exact hR.elim
  | outgrown => exact hR.elim
end
end Go.Proofs.YtemgilofjbnoaaaGreatDoor
