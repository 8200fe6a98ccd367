/- The texts Sim SimOp, joined. -/
import Derived.Conc.Beside
/- A run of a model program beside one of the true program: the two worlds part in hidden blocks alone. Plain lemmas on operations, no program in sight. -/
namespace Go.Proofs.YtcomppiglhibkaaGreatDoor
open Go Go.Conc
set_option linter.unusedVariables false
set_option linter.unusedSimpArgs false

/-- what lies in a hidden block: nothing that can be touched in the model's run -/
inductive Alike : Obj → Obj → Prop
  | hid (e : TypeId) (cs : Array Value) : Alike (.cells #[] e) (.cells cs e)
  | chan (c c' : Bool) (s r s' r' : Nat) : Alike (.chan 0 #[] c s r false) (.chan 0 #[] c' s' r' false)
  | view (a a' : Addr) (t t' : TypeId) : Alike (.view a t) (.view a' t')

/-- the hidden blocks, what the true world holds there, and up to where the model's tape is heard -/
structure Hidn where
  S : Nat → Prop
  K : Nat → Obj
  T : Nat
  /-- what each has drawn ahead of the other, and the true tape -/
  a : Nat
  b : Nat
  tp : Nat → Question → Nat
instance : CoeFun Hidn (fun _ => Nat → Prop) := ⟨Hidn.S⟩

structure Sim (S : Hidn) (u w : World) : Prop where
  size : u.heap.size = w.heap.size
  out : ∀ b, ¬ S b → u.heap[b]? = w.heap[b]?
  ins : ∀ b, S b → ∃ o o', u.heap[b]? = some o ∧ w.heap[b]? = some o' ∧ Alike o o'
  views : ∀ (b : Nat) (a : Addr) (t : TypeId), u.heap[b]? = some (Obj.view a t) → a.spot.isSome = true
  os : w.os = u.os
  output : w.output = u.output
  tape : ∀ i q, u.drawn + i < S.T → w.tape (w.drawn + i) q = u.tape (u.drawn + i) q
  kept : ∀ b, S b → w.heap[b]? = some (S.K b)
  off : w.drawn + S.a = u.drawn + S.b
  tap : w.tape = S.tp

def Halt.fails : Halt → Prop
  | .stuck _ | .unsupported _ => True
  | _ => False

/-- what a step lists: plain accesses of cells outside the hidden blocks -/
def EvS (S : Hidn) (B : Nat) (e : Event) : Prop :=
  (∃ a wr, e = ⟨.cell a, wr, false⟩ ∧ ¬ S a.block ∧ a.block < B) ∨ (∃ r sy, e = ⟨.obj r, false, sy⟩ ∧ r < B) ∨ e = ⟨.mark .noRoom, false, true⟩ ∨ ∃ f, e = ⟨.mark (.extern f), false, true⟩
theorem EvS.mono {S : Hidn} {B B' : Nat} {e : Event} (h : EvS S B e) (hB : B ≤ B') : EvS S B' e := by
  rcases h with ⟨a, wr, h1, h2, h3⟩ | ⟨r, sy, h1, h2⟩ | h
  · exact .inl ⟨a, wr, h1, h2, by omega⟩
  · exact .inr (.inl ⟨r, sy, h1, by omega⟩)
  · exact .inr (.inr h)

section
variable {S : Hidn} {u w : World}
theorem Sim.cell_out (h : Sim S u w) {a : Addr} (ha : ¬ S a.block) : w.cell? a = u.cell? a := by
  have := h.out a.block ha
  simp [World.cell?, this]
theorem Sim.cell_in (h : Sim S u w) {a : Addr} (ha : S a.block) : u.cell? a = none := by
  obtain ⟨o, o', h1, _, h3⟩ := h.ins _ ha
  cases h3 <;> simp [World.cell?, h1]
theorem Sim.frozen (h : Sim S u w) (a : Addr) : w.frozen? a = u.frozen? a := by
  by_cases ha : S a.block
  · obtain ⟨o, o', h1, h2, h3⟩ := h.ins _ ha
    cases h3 <;> simp [World.frozen?, h1, h2]
  · have := h.out a.block ha
    simp [World.frozen?, this]
theorem Sim.free_in (h : Sim S u w) {a : Addr} (ha : S a.block) : w.frozen? a = false := by
  obtain ⟨o, o', h1, h2, h3⟩ := h.ins _ ha
  cases h3 <;> simp [World.frozen?, h2]
theorem Sim.shape_out (h : Sim S u w) {r : Nat} (ha : ¬ S r) : w.shape? r = u.shape? r := by
  have := h.out r ha
  simp [World.shape?, this]
theorem Sim.shape_is (h : Sim S u w) (r : Nat) : (w.shape? r).isSome = (u.shape? r).isSome := by
  by_cases ha : S r
  · obtain ⟨o, o', h1, h2, h3⟩ := h.ins _ ha
    cases h3 <;> simp [World.shape?, h1, h2]
  · rw [h.shape_out ha]
theorem Sim.shape_elem (h : Sim S u w) (r : Nat) : (w.shape? r).map (·.1) = (u.shape? r).map (·.1) := by
  by_cases ha : S r
  · obtain ⟨o, o', h1, h2, h3⟩ := h.ins _ ha
    cases h3 <;> simp [World.shape?, h1, h2]
  · rw [h.shape_out ha]
theorem Sim.set (h : Sim S u w) {a : Addr} (ha : ¬ S a.block) (v : Value) : Sim S (u.setCell a v) (w.setCell a v) := by
  refine ⟨by simp [World.setCell, h.size], fun b hb => ?_, fun b hb => ?_, fun b a' t hb => ?_, h.os, h.output, h.tape, fun b hb => ?_, h.off, h.tap⟩
  · simp only [World.setCell, Array.getElem?_modify]
    rw [h.out b hb]
  · have hne : a.block ≠ b := fun e => ha (e ▸ hb)
    simp only [World.setCell, Array.getElem?_modify, hne, if_false]
    exact h.ins b hb
  · simp only [World.setCell, Array.getElem?_modify] at hb
    split at hb
    · cases ho : u.heap[b]? with
      | none => rw [ho] at hb; cases hb
      | some o =>
        rw [ho] at hb
        cases o <;> simp at hb
        obtain ⟨rfl, rfl⟩ := hb
        exact h.views b _ _ ho
    · exact h.views b _ _ hb
  · have hne : a.block ≠ b := fun e => ha (e ▸ hb)
    simp only [World.setCell, Array.getElem?_modify, hne, if_false]
    exact h.kept b hb
theorem Sim.lt (h : Sim S u w) {b : Nat} (hb : S b) : b < u.heap.size := by
  obtain ⟨o, o', h1, _⟩ := h.ins b hb
  exact (Array.getElem?_eq_some_iff.1 h1).1
theorem Sim.push (h : Sim S u w) (o : Obj) (ho : ∀ a t, o ≠ .view a t) : Sim S { u with heap := u.heap.push o } { w with heap := w.heap.push o } := by
  refine ⟨by simp [h.size], fun b hb => ?_, fun b hb => ?_, fun b a t hb => ?_, h.os, h.output, h.tape, fun b hb => ?_, h.off, h.tap⟩
  · simp only [Array.getElem?_push, h.size]
    split
    · rfl
    · exact h.out b hb
  · have hlt := h.lt hb
    obtain ⟨o1, o2, h1, h2, h3⟩ := h.ins b hb
    refine ⟨o1, o2, ?_, ?_, h3⟩
    · simp only [Array.getElem?_push]; rw [if_neg (by omega)]; exact h1
    · simp only [Array.getElem?_push]; rw [if_neg (by have := h.size; omega)]; exact h2
  · simp only [Array.getElem?_push] at hb
    split at hb
    · injection hb with hb; exact absurd hb (ho a t)
    · exact h.views b a t hb
  · have hlt := h.lt hb
    simp only [Array.getElem?_push]; rw [if_neg (by have := h.size; omega)]; exact h.kept b hb
theorem Sim.draw (h : Sim S u w) : Sim S { u with drawn := u.drawn + 1 } { w with drawn := w.drawn + 1 } :=
  ⟨h.size, h.out, h.ins, h.views, h.os, h.output, fun i q hi => by
    have := h.tape (i + 1) q (by simp only [] at hi; omega)
    simp only []; rw [show w.drawn + 1 + i = w.drawn + (i + 1) by omega, show u.drawn + 1 + i = u.drawn + (i + 1) by omega]; exact this, h.kept, by have := h.off; simp only []; omega, h.tap⟩
end

def notAgg : Value → Bool
  | .agg _ | .tuple _ => false
  | _ => true
theorem run_store_eq {α : Type} (p : Program) (m : Go.Mode) (a : Addr) (v : Value) (k : Sem α) (w : World) (hv : notAgg v = true) : (Sem.store m a v k).run p w = match w.cell? a with
    | some _ => if w.frozen? a then .halt (.unsupported (.unsafePointer "a write to bytes that a string shares")) w else k.run p (w.setCell a v)
    | none => match w.farStore p a v (m == .atomic) with
      | .ok (w, _) => k.run p w
      | .error h => .halt h w := by cases v <;> first | rfl | (simp [notAgg] at hv)
theorem viewStore_drawn {p : Program} {w w' : World} {at_ : Addr} {u : TypeId} {k : Addr} {v : Value} {b : Bool} {l : List Addr} (h : w.viewStore p at_ u k v b = .ok (w', l)) : w'.drawn = w.drawn := by
  unfold World.viewStore at h
  simp only [bind, Except.bind, pure, Except.pure, throw, throwThe, MonadExceptOf.throw] at h
  repeat' (split at h)
  all_goals first
    | (cases h; done)
    | (injection h with h; injection h with h1 h2; subst h1; rfl)
    | skip
theorem farStore_drawn {p : Program} {w w' : World} {a : Addr} {v : Value} {b : Bool} {l : List Addr} (h : w.farStore p a v b = .ok (w', l)) : w'.drawn = w.drawn := by
  unfold World.farStore at h
  split at h
  · split at h
    · rename_i r hr
      injection h with h; subst h
      exact viewStore_drawn hr
    · cases h
  · cases h
theorem ask_drawn {α : Type} : ∀ (x : Ask α) (w : World), w.drawn ≤ (w.ask x).2.drawn := by
  intro x
  induction x with
  | done a => intro w; exact Nat.le_refl _
  | ask what range k ih =>
    intro w
    unfold World.ask
    dsimp only
    split
    · exact ih _ w
    · exact Nat.le_trans (Nat.le_succ _) (ih _ { w with drawn := w.drawn + 1 })
theorem sys_drawn (w : World) (c : Sys) : w.drawn ≤ (w.sys c).2.drawn := by
  have := ask_drawn (Kernel.perform c w.os) w
  unfold World.sys
  split
  · exact Nat.le_refl _
  · rename_i h; rw [h] at this; exact this
def endW {α : Type} : Result α → World
  | .ok _ w => w
  | .halt _ w => w
theorem run_drawn (p : Program) {α : Type} : ∀ (s : Sem α) (w : World), w.drawn ≤ (endW (s.run p w)).drawn := by
  intro s
  induction s with
  | pure a => intro w; exact Nat.le_refl _
  | halt x => intro w; exact Nat.le_refl _
  | load m a k ih =>
    intro w; simp only [Sem.run]
    split
    · exact ih _ w
    · split
      · exact ih _ w
      · exact Nat.le_refl _
  | store m a v k ih =>
    intro w
    cases hv : notAgg v with
    | false => cases v <;> first | (simp [notAgg] at hv; done) | exact Nat.le_refl _
    | true =>
      rw [run_store_eq _ _ _ _ _ _ hv]
      split
      · split
        · exact Nat.le_refl _
        · exact ih (w.setCell a v)
      · split
        · rename_i h
          rw [← farStore_drawn h]; exact ih _
        · exact Nat.le_refl _
  | new o k ih => intro w; simp only [Sem.run]; exact ih _ { w with heap := w.heap.push o }
  | shape r k ih => intro w; simp only [Sem.run]; exact ih _ w
  | freeze a n k ih => intro w; simp only [Sem.run]; exact Nat.le_trans (by unfold World.freeze; split <;> simp) (ih (w.freeze a n))
  | frozen a k ih => intro w; simp only [Sem.run]; exact ih _ w
  | getObj r k ih => intro w; simp only [Sem.run]; split <;> first | exact Nat.le_refl _ | exact ih _ w
  | setObj r o k ih => intro w; simp only [Sem.run]; split <;> first | exact Nat.le_refl _ | exact ih { w with heap := w.heap.setIfInBounds r o }
  | choose q k ih =>
    intro w; simp only [Sem.run]
    split
    · exact ih _ w
    · exact Nat.le_trans (Nat.le_succ _) (ih _ { w with drawn := w.drawn + 1 })
  | sys c k ih => intro w; simp only [Sem.run]; exact Nat.le_trans (sys_drawn w c) (ih _ _)
  | program k ih => intro w; simp only [Sem.run]; exact ih _ w
  | mark m k ih => intro w; simp only [Sem.run]; exact ih w

/-- what the true run does where the model's run comes to this -/
def SimOut {α : Type} (S : Hidn) (n : Nat) (r : Result α) (ro : Result α × Array Event) (es : Array Event) : Prop :=
  match r with
  | .ok a u' => u'.drawn ≤ S.T → (∃ w' es', ro = (.ok a w', es ++ es') ∧ Sim S u' w' ∧ n ≤ u'.heap.size ∧ ∀ e ∈ es', EvS S u'.heap.size e)
  | .halt h u' => u'.drawn ≤ S.T → Halt.fails h ∨ ((∃ v, h = .panic v) ∧ ∃ w' es', ro = (.halt h w', es ++ es') ∧ Sim S u' w' ∧ n ≤ u'.heap.size ∧ ∀ e ∈ es', EvS S u'.heap.size e)

/-- an operation that the two runs do alike -/
def SimS (U P : Program) {α : Type} (s : Sem α) : Prop := ∀ (S : Hidn) (u w : World) (es : Array Event), Sim S u w → SimOut S u.heap.size (s.run U u) (s.runT P w es) es

section
variable {U P : Program} {α β : Type}
theorem SimS.pure (a : α) : SimS U P (Sem.pure a) := fun S u w es h => fun _ => ⟨w, #[], by simp [Sem.runT], h, Nat.le_refl _, fun e he => by simp at he⟩
theorem SimS.halt (x : Halt) (hx : Halt.fails x ∨ ∃ v, x = .panic v) : SimS U P (Sem.halt x : Sem α) := fun S u w es h => fun _ => hx.imp id fun hp => ⟨hp, w, #[], by simp [Sem.runT], h, Nat.le_refl _, fun e he => by simp at he⟩
theorem SimOut.of {S : Hidn} {n : Nat} {r : Result α} {ro : Result α × Array Event} {es : Array Event} (h : (endW r).drawn ≤ S.T → SimOut S n r ro es) : SimOut S n r ro es := by
  cases r with
  | ok a u' => exact fun q => h q q
  | halt x u' => exact fun q => h q q
theorem SimOut.more {S : Hidn} {n m : Nat} {r : Result α} {ro : Result α × Array Event} {es es1 : Array Event} (h : SimOut S n r ro (es ++ es1)) (hm : m ≤ n) (he : ∀ e ∈ es1, EvS S n e) : SimOut S m r ro es := by
  cases r with
  | ok a u' =>
    intro hT
    obtain ⟨w', es', h1, h2, h3, h4⟩ := h hT
    refine ⟨w', es1 ++ es', by rw [h1, Array.append_assoc], h2, by omega, fun e hx => ?_⟩
    rcases Array.mem_append.1 hx with hx | hx
    · exact (he e hx).mono h3
    · exact h4 e hx
  | halt x u' =>
    intro hT
    rcases h hT with h | ⟨hp, w', es', h1, h2, h3, h4⟩
    · exact .inl h
    refine .inr ⟨hp, w', es1 ++ es', by rw [h1, Array.append_assoc], h2, by omega, fun e hx => ?_⟩
    rcases Array.mem_append.1 hx with hx | hx
    · exact (he e hx).mono h3
    · exact h4 e hx
theorem SimS.bind {s : Sem α} {f : α → Sem β} (hs : SimS U P s) (hf : ∀ a, SimS U P (f a)) : SimS U P (s.bind f) := by
  intro S u w es h
  have h1 := hs S u w es h
  rw [Sem.runT_bind']
  have e : (s.bind f).run U u = match s.run U u with | .ok a w => (f a).run U w | .halt x w => .halt x w := by
    have := congrArg Prod.fst (Sem.runT_bind' U s f u #[])
    rw [Sem.runT_fst] at this
    rw [this, ← Sem.runT_fst U s u #[]]
    rcases s.runT U u #[] with ⟨_ | _, _⟩
    · simp only []; rw [Sem.runT_fst]
    · rfl
  rw [e]
  cases hr : s.run U u with
  | ok a u' =>
    rw [hr] at h1
    refine SimOut.of fun hT => ?_
    obtain ⟨w', es', h2, h3, h4, h5⟩ := h1 (Nat.le_trans (run_drawn U (f a) u') hT)
    rw [h2]
    exact (hf a S u' w' (es ++ es') h3).more h4 h5
  | halt x u' =>
    rw [hr] at h1
    intro hT
    rcases h1 hT with h1 | ⟨hp, w', es', h2, h3, h4, h5⟩
    · exact .inl h1
    · rw [h2]; exact .inr ⟨hp, w', es', rfl, h3, h4, h5⟩

theorem noCell_fails (u : World) (a : Addr) (what : String) : Halt.fails (u.noCell a what) := by
  unfold World.noCell; split <;> trivial
theorem farLoad_fails {S : Hidn} {u w : World} (h : Sim S u w) (a : Addr) (at_ : Bool) : ∃ x, u.farLoad U a at_ = .error x ∧ Halt.fails x := by
  unfold World.farLoad
  split
  · rename_i a' t hv
    have hs := h.views _ _ _ hv
    have : u.viewLoad U a' t a at_ = .error "memory seen as another type: a place without cells" := by
      unfold World.viewLoad World.seen
      simp [hs]; rfl
    rw [this]; exact ⟨_, rfl, trivial⟩
  · exact ⟨_, rfl, noCell_fails _ _ _⟩
theorem farStore_fails {S : Hidn} {u w : World} (h : Sim S u w) (a : Addr) (v : Value) (at_ : Bool) : ∃ x, u.farStore U a v at_ = .error x ∧ Halt.fails x := by
  unfold World.farStore
  split
  · rename_i a' t hv
    have hs := h.views _ _ _ hv
    have : ∃ m, u.viewStore U a' t a v at_ = .error m := by
      unfold World.viewStore World.seen
      by_cases ht : tight U U.depth t
      · exact ⟨_, by simp [hs, ht]; rfl⟩
      · exact ⟨_, by simp [hs, ht]; rfl⟩
    obtain ⟨m, hm⟩ := this
    rw [hm]; exact ⟨_, rfl, trivial⟩
  · exact ⟨_, rfl, noCell_fails _ _ _⟩
theorem push_app (es : Array Event) (e : Event) : es.push e = es ++ #[e] := by simp

theorem SimS.load {a : Addr} {k : Value → Sem α} (hk : ∀ v, SimS U P (k v)) : SimS U P (.load .plain a k) := by
  intro S u w es h
  simp only [Sem.run, Sem.runT]
  cases hc : u.cell? a with
  | some v =>
    have hS : ¬ S a.block := fun hb => by rw [h.cell_in hb] at hc; cases hc
    rw [h.cell_out hS, hc, push_app]
    refine (hk v S u w _ h).more (Nat.le_refl _) (fun e he => ?_)
    simp at he; subst he
    exact .inl ⟨a, false, rfl, hS, World.block_lt_of_cell? u a hc⟩
  | none =>
    obtain ⟨x, hx, hf⟩ := farLoad_fails (U := U) h a (Mode.plain == .atomic)
    simp only [hx]
    exact fun _ => .inl hf
theorem runT_store_eq (p : Program) (m : Go.Mode) (a : Addr) (v : Value) (k : Sem α) (w : World) (es : Array Event) (hv : notAgg v = true) : (Sem.store m a v k).runT p w es = match w.cell? a with
    | some _ =>
      if w.frozen? a then (.halt (.unsupported (.unsafePointer "a write to bytes that a string shares")) w, es)
      else k.runT p (w.setCell a v) (es.push ⟨.cell a, true, m == .atomic⟩)
    | none => match w.farStore p a v (m == .atomic) with
      | .ok (w, touched) => k.runT p w (es ++ touched.toArray.map (⟨.cell ·, true, m == .atomic⟩))
      | .error h => (.halt h w, es) := by cases v <;> first | rfl | (simp [notAgg] at hv)
theorem SimS.store {a : Addr} {v : Value} {k : Sem α} (hk : SimS U P k) : SimS U P (.store .plain a v k) := by
  intro S u w es h
  cases hv : notAgg v with
  | false => cases v <;> first | (simp [notAgg] at hv; done) | exact fun _ => .inl trivial
  | true =>
    rw [run_store_eq _ _ _ _ _ _ hv, runT_store_eq _ _ _ _ _ _ _ hv]
    cases hc : u.cell? a with
    | some v0 =>
      have hS : ¬ S a.block := fun hb => by rw [h.cell_in hb] at hc; cases hc
      rw [h.cell_out hS, hc, h.frozen]
      simp only []
      by_cases hf : u.frozen? a = true
      · rw [if_pos hf]; exact fun _ => .inl trivial
      · rw [if_neg hf, if_neg hf, push_app]
        have := (hk S _ _ (es ++ #[⟨.cell a, true, Go.Mode.plain == .atomic⟩]) (h.set hS v))
        refine SimOut.more this (by simp [World.setCell]) (fun e he => ?_)
        simp at he; subst he
        exact .inl ⟨a, true, rfl, hS, by have := World.block_lt_of_cell? u a hc; simpa [World.setCell] using this⟩
    | none =>
      obtain ⟨x, hx, hf⟩ := farStore_fails (U := U) h a v (Go.Mode.plain == .atomic)
      simp only [hx]
      exact fun _ => .inl hf
theorem SimS.new {o : Obj} {k : Nat → Sem α} (ho : ∀ a t, o ≠ .view a t) (hk : ∀ r, SimS U P (k r)) : SimS U P (.new o k) := by
  intro S u w es h
  simp only [Sem.run, Sem.runT, ← h.size]
  have := hk u.heap.size S _ _ es (h.push o ho)
  exact SimOut.more (es1 := #[]) (by simpa using this) (by simp) (fun e he => by simp at he)
theorem SimS.frozen {a : Addr} {k : Bool → Sem α} (hk : ∀ b, SimS U P (k b)) : SimS U P (.frozen a k) := by
  intro S u w es h
  simp only [Sem.run, Sem.runT, h.frozen]
  exact hk _ S u w es h
theorem SimS.choose {q : Question} {k : Nat → Sem α} (hk : ∀ b, SimS U P (k b)) : SimS U P (.choose q k) := by
  intro S u w es h
  simp only [Sem.run, Sem.runT]
  split
  · exact hk _ S u w es h
  · refine SimOut.of fun hT => ?_
    have hd := run_drawn U (k (q.cut (u.tape u.drawn q))) { u with drawn := u.drawn + 1 }
    simp only [] at hd
    have ht := h.tape 0 q (by omega)
    simp only [Nat.add_zero] at ht
    rw [ht]
    exact hk (q.cut (u.tape u.drawn q)) S _ _ es h.draw
theorem SimS.program {k : Program → Sem α} (he : k U = k P) (hk : SimS U P (k P)) : SimS U P (.program k) := by
  intro S u w es h
  simp only [Sem.run, Sem.runT, he]
  exact hk S u w es h
theorem SimS.noRoom {k : Sem α} (hk : SimS U P k) : SimS U P (.mark .noRoom k) := by
  intro S u w es h
  simp only [Sem.run, Sem.runT, push_app]
  exact (hk S u w _ h).more (Nat.le_refl _) (fun e he => by simp at he; subst he; exact .inr (.inr (.inl rfl)))
theorem SimS.extern_ {f : FuncId} {k : Sem α} (hk : SimS U P k) : SimS U P (.mark (.extern f) k) := by
  intro S u w es h
  simp only [Sem.run, Sem.runT, push_app]
  exact (hk S u w _ h).more (Nat.le_refl _) (fun e he => by simp at he; subst he; exact .inr (.inr (.inr ⟨f, rfl⟩)))
theorem SimS.shapeIs {r : Nat} {k : Option (TypeId × Nat) → Sem α} (hs : ∀ x y, x.isSome = y.isSome → k x = k y) (hk : ∀ x, SimS U P (k x)) : SimS U P (.shape r k) := by
  intro S u w es h
  simp only [Sem.run, Sem.runT]
  rw [hs _ _ (h.shape_is r)]
  exact hk _ S u w es h
theorem SimS.shapeElem {r : Nat} {k : Option (TypeId × Nat) → Sem α} (hs : ∀ x y : Option (TypeId × Nat), x.map (·.1) = y.map (·.1) → k x = k y) (hk : ∀ x, SimS U P (k x)) : SimS U P (.shape r k) := by
  intro S u w es h
  simp only [Sem.run, Sem.runT]
  rw [hs _ _ (h.shape_elem r)]
  exact hk _ S u w es h
theorem SimS.getObj {r : Nat} {k : Obj → Sem α} (hs : ∀ o o', Alike o o' → k o = k o') (hk : ∀ o, SimS U P (k o)) : SimS U P (.getObj r k) := by
  intro S u w es h
  have key : ∀ o o', u.heap[r]? = some o → w.heap[r]? = some o' → k o = k o' → (∀ c t f, o ≠ .cells c t f) → (∀ c t f, o' ≠ .cells c t f) → SimOut S u.heap.size ((k o).run U u) ((k o').runT P w (es.push ⟨.obj r, false, o'.isChan⟩)) es := by
    intro o o' h1 h2 he _ _
    rw [← he, push_app]
    refine (hk o S u w _ h).more (Nat.le_refl _) (fun e hx => ?_)
    simp at hx; subst hx
    exact .inr (.inl ⟨r, _, rfl, (Array.getElem?_eq_some_iff.1 h1).1⟩)
  simp only [Sem.run, Sem.runT]
  cases hu : u.heap[r]? with
  | none => exact fun _ => .inl trivial
  | some o =>
    by_cases hS : S r
    · obtain ⟨o1, o2, h1, h2, h3⟩ := h.ins r hS
      rw [hu] at h1; injection h1 with h1; subst h1
      cases h3 with
      | hid => exact fun _ => .inl trivial
      | chan => rw [h2]; exact key _ _ hu h2 (hs _ _ (.chan _ _ _ _ _ _)) (by simp) (by simp)
      | view => rw [h2]; exact key _ _ hu h2 (hs _ _ (.view _ _ _ _)) (by simp) (by simp)
    · have h2 : w.heap[r]? = some o := by rw [← h.out r hS]; exact hu
      rw [h2]
      cases o with
      | cells => exact fun _ => .inl trivial
      | _ => exact key _ _ hu h2 rfl (by simp) (by simp)
end
end Go.Proofs.YtcomppiglhibkaaGreatDoor
/- Each operation is done alike by a model run and the true run (SimS): plain lemmas on operations; printed by gensim.py. -/
namespace Go.Proofs.YtcomppiglhibkaaGreatDoor
open Go Go.Conc
set_option linter.unusedVariables false
set_option linter.unusedSimpArgs false

section
variable {P : Program} {F : Array Func} {α β : Type}
/-- the program with other functions -/
abbrev PF (P : Program) (F : Array Func) : Program := { P with funcs := F }
theorem sims_pureM {U P : Program} (a : α) : SimS U P (pure a : Sem α) := SimS.pure a
theorem sims_stuck {U P : Program} (x : String) : SimS U P (stuck x : Sem α) := SimS.halt _ (.inl trivial)
theorem sims_unsup {U P : Program} (x : Unsupported) : SimS U P (unsupported x : Sem α) := SimS.halt _ (.inl trivial)
theorem sims_goPanic {U P : Program} (x : Value) : SimS U P (goPanic x : Sem α) := SimS.halt _ (.inr ⟨_, rfl⟩)
theorem sims_bindM {U P : Program} {s : Sem α} {f : α → Sem β} (hs : SimS U P s) (hf : ∀ a, SimS U P (f a)) : SimS U P (s >>= f) := SimS.bind hs hf
theorem sims_mapM {U P : Program} {s : Sem α} {f : α → β} (hs : SimS U P s) : SimS U P (Functor.map f s) := SimS.bind hs (fun a => SimS.pure (f a))
theorem sims_prog {f : Program → Sem β} (he : f (PF P F) = f P) (hk : SimS (PF P F) P (f P)) : SimS (PF P F) P (program >>= f) := SimS.program he hk
theorem sims_ite {U P : Program} {c : Prop} [Decidable c] {A B : Sem α} (hA : SimS U P A) (hB : SimS U P B) : SimS U P (if c then A else B) := by split <;> assumption
theorem sims_load1 {U P : Program} (a : Addr) : SimS U P (load a) := SimS.load (fun v => SimS.pure v)
theorem sims_store1 {U P : Program} (a : Addr) (v : Value) : SimS U P (store a v) := SimS.store (SimS.pure _)
theorem sims_new1 {U P : Program} (cs : Array Value) (t : TypeId) : SimS U P (newObj (.cells cs t)) := SimS.new (by simp) (fun v => SimS.pure v)
theorem sims_choose1 {U P : Program} (q : Question) : SimS U P (choose q) := SimS.choose (fun v => SimS.pure v)
theorem sims_frozen1 {U P : Program} (a : Addr) : SimS U P (frozen a) := SimS.frozen (fun v => SimS.pure v)
theorem sims_noRoom1 {U P : Program} : SimS U P (mark .noRoom) := SimS.noRoom (SimS.pure _)
theorem sim_typeInfo (t : TypeId) : SimS (PF P F) P (typeInfo t) := by
  unfold typeInfo
  repeat' (first
    | with_reducible exact sims_pureM _ | with_reducible exact sims_stuck _ | with_reducible exact sims_unsup _ | with_reducible exact sims_goPanic _
    | with_reducible exact sims_load1 _
    | with_reducible exact sims_store1 _ _
    | with_reducible exact sims_new1 _ _
    | with_reducible exact sims_choose1 _
    | with_reducible exact sims_frozen1 _
    | with_reducible exact sims_noRoom1
    | with_reducible exact sims_mapM (sims_choose1 _)
    | ((with_reducible refine sims_prog ?_ ?_); (next => rfl))
    | with_reducible refine sims_bindM ?_ (fun _ => ?_)
    | with_reducible refine sims_ite ?_ ?_
    | (dsimp only; done) | dsimp only
    | split
    | (show ∀ _, SimS _ _ _; intro _))
theorem sim_underlying (t : TypeId) : SimS (PF P F) P (underlying t) := by
  unfold underlying
  repeat' (first
    | with_reducible exact sims_pureM _ | with_reducible exact sims_stuck _ | with_reducible exact sims_unsup _ | with_reducible exact sims_goPanic _
    | with_reducible exact sims_load1 _
    | with_reducible exact sims_store1 _ _
    | with_reducible exact sims_new1 _ _
    | with_reducible exact sims_choose1 _
    | with_reducible exact sims_frozen1 _
    | with_reducible exact sims_noRoom1
    | with_reducible exact sims_mapM (sims_choose1 _)
    | with_reducible exact sim_typeInfo _
    | ((with_reducible refine sims_prog ?_ ?_); (next => rfl))
    | with_reducible refine sims_bindM ?_ (fun _ => ?_)
    | with_reducible refine sims_ite ?_ ?_
    | (dsimp only; done) | dsimp only
    | split
    | (show ∀ _, SimS _ _ _; intro _))
theorem sim_sizeOf (t : TypeId) : SimS (PF P F) P (sizeOf t) := by
  unfold Go.sizeOf
  repeat' (first
    | with_reducible exact sims_pureM _ | with_reducible exact sims_stuck _ | with_reducible exact sims_unsup _ | with_reducible exact sims_goPanic _
    | with_reducible exact sims_load1 _
    | with_reducible exact sims_store1 _ _
    | with_reducible exact sims_new1 _ _
    | with_reducible exact sims_choose1 _
    | with_reducible exact sims_frozen1 _
    | with_reducible exact sims_noRoom1
    | with_reducible exact sims_mapM (sims_choose1 _)
    | with_reducible exact sim_typeInfo _
    | with_reducible exact sim_underlying _
    | ((with_reducible refine sims_prog ?_ ?_); (next => rfl))
    | with_reducible refine sims_bindM ?_ (fun _ => ?_)
    | with_reducible refine sims_ite ?_ ?_
    | (dsimp only; done) | dsimp only
    | split
    | (show ∀ _, SimS _ _ _; intro _))
theorem sim_isAgg (t : TypeId) : SimS (PF P F) P (isAgg t) := by
  unfold isAgg
  repeat' (first
    | with_reducible exact sims_pureM _ | with_reducible exact sims_stuck _ | with_reducible exact sims_unsup _ | with_reducible exact sims_goPanic _
    | with_reducible exact sims_load1 _
    | with_reducible exact sims_store1 _ _
    | with_reducible exact sims_new1 _ _
    | with_reducible exact sims_choose1 _
    | with_reducible exact sims_frozen1 _
    | with_reducible exact sims_noRoom1
    | with_reducible exact sims_mapM (sims_choose1 _)
    | with_reducible exact sim_typeInfo _
    | with_reducible exact sim_underlying _
    | with_reducible exact sim_sizeOf _
    | ((with_reducible refine sims_prog ?_ ?_); (next => rfl))
    | with_reducible refine sims_bindM ?_ (fun _ => ?_)
    | with_reducible refine sims_ite ?_ ?_
    | (dsimp only; done) | dsimp only
    | split
    | (show ∀ _, SimS _ _ _; intro _))
theorem sim_zeroValue (t : TypeId) : SimS (PF P F) P (zeroValue t) := by
  unfold zeroValue
  repeat' (first
    | with_reducible exact sims_pureM _ | with_reducible exact sims_stuck _ | with_reducible exact sims_unsup _ | with_reducible exact sims_goPanic _
    | with_reducible exact sims_load1 _
    | with_reducible exact sims_store1 _ _
    | with_reducible exact sims_new1 _ _
    | with_reducible exact sims_choose1 _
    | with_reducible exact sims_frozen1 _
    | with_reducible exact sims_noRoom1
    | with_reducible exact sims_mapM (sims_choose1 _)
    | with_reducible exact sim_typeInfo _
    | with_reducible exact sim_underlying _
    | with_reducible exact sim_sizeOf _
    | with_reducible exact sim_isAgg _
    | ((with_reducible refine sims_prog ?_ ?_); (next => rfl))
    | with_reducible refine sims_bindM ?_ (fun _ => ?_)
    | with_reducible refine sims_ite ?_ ?_
    | (dsimp only; done) | dsimp only
    | split
    | (show ∀ _, SimS _ _ _; intro _))
theorem sim_elemOf (t : TypeId) : SimS (PF P F) P (elemOf t) := by
  unfold elemOf
  repeat' (first
    | with_reducible exact sims_pureM _ | with_reducible exact sims_stuck _ | with_reducible exact sims_unsup _ | with_reducible exact sims_goPanic _
    | with_reducible exact sims_load1 _
    | with_reducible exact sims_store1 _ _
    | with_reducible exact sims_new1 _ _
    | with_reducible exact sims_choose1 _
    | with_reducible exact sims_frozen1 _
    | with_reducible exact sims_noRoom1
    | with_reducible exact sims_mapM (sims_choose1 _)
    | with_reducible exact sim_typeInfo _
    | with_reducible exact sim_underlying _
    | with_reducible exact sim_sizeOf _
    | with_reducible exact sim_isAgg _
    | with_reducible exact sim_zeroValue _
    | ((with_reducible refine sims_prog ?_ ?_); (next => rfl))
    | with_reducible refine sims_bindM ?_ (fun _ => ?_)
    | with_reducible refine sims_ite ?_ ?_
    | (dsimp only; done) | dsimp only
    | split
    | (show ∀ _, SimS _ _ _; intro _))
theorem sim_newRow (t : TypeId) (cs : Array Value) : SimS (PF P F) P (newRow t cs) := by
  unfold newRow
  repeat' (first
    | with_reducible exact sims_pureM _ | with_reducible exact sims_stuck _ | with_reducible exact sims_unsup _ | with_reducible exact sims_goPanic _
    | with_reducible exact sims_load1 _
    | with_reducible exact sims_store1 _ _
    | with_reducible exact sims_new1 _ _
    | with_reducible exact sims_choose1 _
    | with_reducible exact sims_frozen1 _
    | with_reducible exact sims_noRoom1
    | with_reducible exact sims_mapM (sims_choose1 _)
    | with_reducible exact sim_typeInfo _
    | with_reducible exact sim_underlying _
    | with_reducible exact sim_sizeOf _
    | with_reducible exact sim_isAgg _
    | with_reducible exact sim_zeroValue _
    | with_reducible exact sim_elemOf _
    | ((with_reducible refine sims_prog ?_ ?_); (next => rfl))
    | with_reducible refine sims_bindM ?_ (fun _ => ?_)
    | with_reducible refine sims_ite ?_ ?_
    | (dsimp only; done) | dsimp only
    | split
    | (show ∀ _, SimS _ _ _; intro _))
theorem sim_newVar (t : TypeId) (v : Value) : SimS (PF P F) P (newVar t v) := by
  unfold newVar
  repeat' (first
    | with_reducible exact sims_pureM _ | with_reducible exact sims_stuck _ | with_reducible exact sims_unsup _ | with_reducible exact sims_goPanic _
    | with_reducible exact sims_load1 _
    | with_reducible exact sims_store1 _ _
    | with_reducible exact sims_new1 _ _
    | with_reducible exact sims_choose1 _
    | with_reducible exact sims_frozen1 _
    | with_reducible exact sims_noRoom1
    | with_reducible exact sims_mapM (sims_choose1 _)
    | with_reducible exact sim_typeInfo _
    | with_reducible exact sim_underlying _
    | with_reducible exact sim_sizeOf _
    | with_reducible exact sim_isAgg _
    | with_reducible exact sim_zeroValue _
    | with_reducible exact sim_elemOf _
    | with_reducible exact sim_newRow _ _
    | ((with_reducible refine sims_prog ?_ ?_); (next => rfl))
    | with_reducible refine sims_bindM ?_ (fun _ => ?_)
    | with_reducible refine sims_ite ?_ ?_
    | (dsimp only; done) | dsimp only
    | split
    | (show ∀ _, SimS _ _ _; intro _))
theorem sim_askRoom (n : Nat) : SimS (PF P F) P (askRoom n) := by
  unfold askRoom
  repeat' (first
    | with_reducible exact sims_pureM _ | with_reducible exact sims_stuck _ | with_reducible exact sims_unsup _ | with_reducible exact sims_goPanic _
    | with_reducible exact sims_load1 _
    | with_reducible exact sims_store1 _ _
    | with_reducible exact sims_new1 _ _
    | with_reducible exact sims_choose1 _
    | with_reducible exact sims_frozen1 _
    | with_reducible exact sims_noRoom1
    | with_reducible exact sims_mapM (sims_choose1 _)
    | with_reducible exact sim_typeInfo _
    | with_reducible exact sim_underlying _
    | with_reducible exact sim_sizeOf _
    | with_reducible exact sim_isAgg _
    | with_reducible exact sim_zeroValue _
    | with_reducible exact sim_elemOf _
    | with_reducible exact sim_newRow _ _
    | with_reducible exact sim_newVar _ _
    | ((with_reducible refine sims_prog ?_ ?_); (next => rfl))
    | with_reducible refine sims_bindM ?_ (fun _ => ?_)
    | with_reducible refine sims_ite ?_ ?_
    | (dsimp only; done) | dsimp only
    | split
    | (show ∀ _, SimS _ _ _; intro _))
theorem sim_part (t : TypeId) (cs : Array Value) (n : Nat) : SimS (PF P F) P (part t cs n) := by
  unfold part
  repeat' (first
    | with_reducible exact sims_pureM _ | with_reducible exact sims_stuck _ | with_reducible exact sims_unsup _ | with_reducible exact sims_goPanic _
    | with_reducible exact sims_load1 _
    | with_reducible exact sims_store1 _ _
    | with_reducible exact sims_new1 _ _
    | with_reducible exact sims_choose1 _
    | with_reducible exact sims_frozen1 _
    | with_reducible exact sims_noRoom1
    | with_reducible exact sims_mapM (sims_choose1 _)
    | with_reducible exact sim_typeInfo _
    | with_reducible exact sim_underlying _
    | with_reducible exact sim_sizeOf _
    | with_reducible exact sim_isAgg _
    | with_reducible exact sim_zeroValue _
    | with_reducible exact sim_elemOf _
    | with_reducible exact sim_newRow _ _
    | with_reducible exact sim_newVar _ _
    | with_reducible exact sim_askRoom _
    | ((with_reducible refine sims_prog ?_ ?_); (next => rfl))
    | with_reducible refine sims_bindM ?_ (fun _ => ?_)
    | with_reducible refine sims_ite ?_ ?_
    | (dsimp only; done) | dsimp only
    | split
    | (show ∀ _, SimS _ _ _; intro _))
theorem sim_runtimePanic (e : RuntimeError) : SimS (PF P F) P ((runtimePanic e : Sem α)) := by
  unfold runtimePanic
  repeat' (first
    | with_reducible exact sims_pureM _ | with_reducible exact sims_stuck _ | with_reducible exact sims_unsup _ | with_reducible exact sims_goPanic _
    | with_reducible exact sims_load1 _
    | with_reducible exact sims_store1 _ _
    | with_reducible exact sims_new1 _ _
    | with_reducible exact sims_choose1 _
    | with_reducible exact sims_frozen1 _
    | with_reducible exact sims_noRoom1
    | with_reducible exact sims_mapM (sims_choose1 _)
    | with_reducible exact sim_typeInfo _
    | with_reducible exact sim_underlying _
    | with_reducible exact sim_sizeOf _
    | with_reducible exact sim_isAgg _
    | with_reducible exact sim_zeroValue _
    | with_reducible exact sim_elemOf _
    | with_reducible exact sim_newRow _ _
    | with_reducible exact sim_newVar _ _
    | with_reducible exact sim_askRoom _
    | with_reducible exact sim_part _ _ _
    | ((with_reducible refine sims_prog ?_ ?_); (next => rfl))
    | with_reducible refine sims_bindM ?_ (fun _ => ?_)
    | with_reducible refine sims_ite ?_ ?_
    | (dsimp only; done) | dsimp only
    | split
    | (show ∀ _, SimS _ _ _; intro _))
theorem sim_boundsPanic (k : IntKind) (x y : Int) (c : BoundsCode) : SimS (PF P F) P ((boundsPanic k x y c : Sem α)) := by
  unfold boundsPanic
  repeat' (first
    | with_reducible exact sims_pureM _ | with_reducible exact sims_stuck _ | with_reducible exact sims_unsup _ | with_reducible exact sims_goPanic _
    | with_reducible exact sims_load1 _
    | with_reducible exact sims_store1 _ _
    | with_reducible exact sims_new1 _ _
    | with_reducible exact sims_choose1 _
    | with_reducible exact sims_frozen1 _
    | with_reducible exact sims_noRoom1
    | with_reducible exact sims_mapM (sims_choose1 _)
    | with_reducible exact sim_typeInfo _
    | with_reducible exact sim_underlying _
    | with_reducible exact sim_sizeOf _
    | with_reducible exact sim_isAgg _
    | with_reducible exact sim_zeroValue _
    | with_reducible exact sim_elemOf _
    | with_reducible exact sim_newRow _ _
    | with_reducible exact sim_newVar _ _
    | with_reducible exact sim_askRoom _
    | with_reducible exact sim_part _ _ _
    | with_reducible exact sim_runtimePanic _
    | ((with_reducible refine sims_prog ?_ ?_); (next => rfl))
    | with_reducible refine sims_bindM ?_ (fun _ => ?_)
    | with_reducible refine sims_ite ?_ ?_
    | (dsimp only; done) | dsimp only
    | split
    | (show ∀ _, SimS _ _ _; intro _))
theorem sim_asIntOf (v : Value) : SimS (PF P F) P (asIntOf v) := by
  unfold asIntOf
  repeat' (first
    | with_reducible exact sims_pureM _ | with_reducible exact sims_stuck _ | with_reducible exact sims_unsup _ | with_reducible exact sims_goPanic _
    | with_reducible exact sims_load1 _
    | with_reducible exact sims_store1 _ _
    | with_reducible exact sims_new1 _ _
    | with_reducible exact sims_choose1 _
    | with_reducible exact sims_frozen1 _
    | with_reducible exact sims_noRoom1
    | with_reducible exact sims_mapM (sims_choose1 _)
    | with_reducible exact sim_typeInfo _
    | with_reducible exact sim_underlying _
    | with_reducible exact sim_sizeOf _
    | with_reducible exact sim_isAgg _
    | with_reducible exact sim_zeroValue _
    | with_reducible exact sim_elemOf _
    | with_reducible exact sim_newRow _ _
    | with_reducible exact sim_newVar _ _
    | with_reducible exact sim_askRoom _
    | with_reducible exact sim_part _ _ _
    | with_reducible exact sim_runtimePanic _
    | with_reducible exact sim_boundsPanic _ _ _ _
    | ((with_reducible refine sims_prog ?_ ?_); (next => rfl))
    | with_reducible refine sims_bindM ?_ (fun _ => ?_)
    | with_reducible refine sims_ite ?_ ?_
    | (dsimp only; done) | dsimp only
    | split
    | (show ∀ _, SimS _ _ _; intro _))
theorem sim_asInt (v : Value) : SimS (PF P F) P (asInt v) := by
  unfold asInt
  repeat' (first
    | with_reducible exact sims_pureM _ | with_reducible exact sims_stuck _ | with_reducible exact sims_unsup _ | with_reducible exact sims_goPanic _
    | with_reducible exact sims_load1 _
    | with_reducible exact sims_store1 _ _
    | with_reducible exact sims_new1 _ _
    | with_reducible exact sims_choose1 _
    | with_reducible exact sims_frozen1 _
    | with_reducible exact sims_noRoom1
    | with_reducible exact sims_mapM (sims_choose1 _)
    | with_reducible exact sim_typeInfo _
    | with_reducible exact sim_underlying _
    | with_reducible exact sim_sizeOf _
    | with_reducible exact sim_isAgg _
    | with_reducible exact sim_zeroValue _
    | with_reducible exact sim_elemOf _
    | with_reducible exact sim_newRow _ _
    | with_reducible exact sim_newVar _ _
    | with_reducible exact sim_askRoom _
    | with_reducible exact sim_part _ _ _
    | with_reducible exact sim_runtimePanic _
    | with_reducible exact sim_boundsPanic _ _ _ _
    | with_reducible exact sim_asIntOf _
    | ((with_reducible refine sims_prog ?_ ?_); (next => rfl))
    | with_reducible refine sims_bindM ?_ (fun _ => ?_)
    | with_reducible refine sims_ite ?_ ?_
    | (dsimp only; done) | dsimp only
    | split
    | (show ∀ _, SimS _ _ _; intro _))
theorem sim_asBool (v : Value) : SimS (PF P F) P (asBool v) := by
  unfold asBool
  repeat' (first
    | with_reducible exact sims_pureM _ | with_reducible exact sims_stuck _ | with_reducible exact sims_unsup _ | with_reducible exact sims_goPanic _
    | with_reducible exact sims_load1 _
    | with_reducible exact sims_store1 _ _
    | with_reducible exact sims_new1 _ _
    | with_reducible exact sims_choose1 _
    | with_reducible exact sims_frozen1 _
    | with_reducible exact sims_noRoom1
    | with_reducible exact sims_mapM (sims_choose1 _)
    | with_reducible exact sim_typeInfo _
    | with_reducible exact sim_underlying _
    | with_reducible exact sim_sizeOf _
    | with_reducible exact sim_isAgg _
    | with_reducible exact sim_zeroValue _
    | with_reducible exact sim_elemOf _
    | with_reducible exact sim_newRow _ _
    | with_reducible exact sim_newVar _ _
    | with_reducible exact sim_askRoom _
    | with_reducible exact sim_part _ _ _
    | with_reducible exact sim_runtimePanic _
    | with_reducible exact sim_boundsPanic _ _ _ _
    | with_reducible exact sim_asIntOf _
    | with_reducible exact sim_asInt _
    | ((with_reducible refine sims_prog ?_ ?_); (next => rfl))
    | with_reducible refine sims_bindM ?_ (fun _ => ?_)
    | with_reducible refine sims_ite ?_ ?_
    | (dsimp only; done) | dsimp only
    | split
    | (show ∀ _, SimS _ _ _; intro _))
theorem sim_asAgg (v : Value) : SimS (PF P F) P (asAgg v) := by
  unfold asAgg
  repeat' (first
    | with_reducible exact sims_pureM _ | with_reducible exact sims_stuck _ | with_reducible exact sims_unsup _ | with_reducible exact sims_goPanic _
    | with_reducible exact sims_load1 _
    | with_reducible exact sims_store1 _ _
    | with_reducible exact sims_new1 _ _
    | with_reducible exact sims_choose1 _
    | with_reducible exact sims_frozen1 _
    | with_reducible exact sims_noRoom1
    | with_reducible exact sims_mapM (sims_choose1 _)
    | with_reducible exact sim_typeInfo _
    | with_reducible exact sim_underlying _
    | with_reducible exact sim_sizeOf _
    | with_reducible exact sim_isAgg _
    | with_reducible exact sim_zeroValue _
    | with_reducible exact sim_elemOf _
    | with_reducible exact sim_newRow _ _
    | with_reducible exact sim_newVar _ _
    | with_reducible exact sim_askRoom _
    | with_reducible exact sim_part _ _ _
    | with_reducible exact sim_runtimePanic _
    | with_reducible exact sim_boundsPanic _ _ _ _
    | with_reducible exact sim_asIntOf _
    | with_reducible exact sim_asInt _
    | with_reducible exact sim_asBool _
    | ((with_reducible refine sims_prog ?_ ?_); (next => rfl))
    | with_reducible refine sims_bindM ?_ (fun _ => ?_)
    | with_reducible refine sims_ite ?_ ?_
    | (dsimp only; done) | dsimp only
    | split
    | (show ∀ _, SimS _ _ _; intro _))
theorem sim_asAddr (v : Value) : SimS (PF P F) P (asAddr v) := by
  unfold asAddr
  repeat' (first
    | with_reducible exact sims_pureM _ | with_reducible exact sims_stuck _ | with_reducible exact sims_unsup _ | with_reducible exact sims_goPanic _
    | with_reducible exact sims_load1 _
    | with_reducible exact sims_store1 _ _
    | with_reducible exact sims_new1 _ _
    | with_reducible exact sims_choose1 _
    | with_reducible exact sims_frozen1 _
    | with_reducible exact sims_noRoom1
    | with_reducible exact sims_mapM (sims_choose1 _)
    | with_reducible exact sim_typeInfo _
    | with_reducible exact sim_underlying _
    | with_reducible exact sim_sizeOf _
    | with_reducible exact sim_isAgg _
    | with_reducible exact sim_zeroValue _
    | with_reducible exact sim_elemOf _
    | with_reducible exact sim_newRow _ _
    | with_reducible exact sim_newVar _ _
    | with_reducible exact sim_askRoom _
    | with_reducible exact sim_part _ _ _
    | with_reducible exact sim_runtimePanic _
    | with_reducible exact sim_boundsPanic _ _ _ _
    | with_reducible exact sim_asIntOf _
    | with_reducible exact sim_asInt _
    | with_reducible exact sim_asBool _
    | with_reducible exact sim_asAgg _
    | ((with_reducible refine sims_prog ?_ ?_); (next => rfl))
    | with_reducible refine sims_bindM ?_ (fun _ => ?_)
    | with_reducible refine sims_ite ?_ ?_
    | (dsimp only; done) | dsimp only
    | split
    | (show ∀ _, SimS _ _ _; intro _))
theorem sim_sureAddr (v : Value) : SimS (PF P F) P (Instr.sureAddr v) := by
  unfold Instr.sureAddr
  repeat' (first
    | with_reducible exact sims_pureM _ | with_reducible exact sims_stuck _ | with_reducible exact sims_unsup _ | with_reducible exact sims_goPanic _
    | with_reducible exact sims_load1 _
    | with_reducible exact sims_store1 _ _
    | with_reducible exact sims_new1 _ _
    | with_reducible exact sims_choose1 _
    | with_reducible exact sims_frozen1 _
    | with_reducible exact sims_noRoom1
    | with_reducible exact sims_mapM (sims_choose1 _)
    | with_reducible exact sim_typeInfo _
    | with_reducible exact sim_underlying _
    | with_reducible exact sim_sizeOf _
    | with_reducible exact sim_isAgg _
    | with_reducible exact sim_zeroValue _
    | with_reducible exact sim_elemOf _
    | with_reducible exact sim_newRow _ _
    | with_reducible exact sim_newVar _ _
    | with_reducible exact sim_askRoom _
    | with_reducible exact sim_part _ _ _
    | with_reducible exact sim_runtimePanic _
    | with_reducible exact sim_boundsPanic _ _ _ _
    | with_reducible exact sim_asIntOf _
    | with_reducible exact sim_asInt _
    | with_reducible exact sim_asBool _
    | with_reducible exact sim_asAgg _
    | with_reducible exact sim_asAddr _
    | ((with_reducible refine sims_prog ?_ ?_); (next => rfl))
    | with_reducible refine sims_bindM ?_ (fun _ => ?_)
    | with_reducible refine sims_ite ?_ ?_
    | (dsimp only; done) | dsimp only
    | split
    | (show ∀ _, SimS _ _ _; intro _))
theorem sim_loadCellsFrom (a : Addr) (n : Nat) : ∀ (i : Nat) (acc : Array Value), SimS (PF P F) P (loadCellsFrom a i n acc) := by
  induction n with
  | zero => intro i acc; exact SimS.pure _
  | succ n ih => intro i acc; unfold loadCellsFrom; exact sims_bindM (sims_load1 _) (fun v => ih _ _)
theorem sim_storeCells (a : Addr) (vs : List Value) : ∀ (i : Nat), SimS (PF P F) P (storeCells a vs i) := by
  induction vs with
  | nil => intro i; exact SimS.pure _
  | cons v vs ih => intro i; unfold storeCells; exact sims_bindM (sims_store1 _ _) (fun _ => ih _)
theorem sim_loadCells (a : Addr) (n : Nat) : SimS (PF P F) P (loadCells a n) := by
  unfold loadCells
  repeat' (first
    | with_reducible exact sims_pureM _ | with_reducible exact sims_stuck _ | with_reducible exact sims_unsup _ | with_reducible exact sims_goPanic _
    | with_reducible exact sims_load1 _
    | with_reducible exact sims_store1 _ _
    | with_reducible exact sims_new1 _ _
    | with_reducible exact sims_choose1 _
    | with_reducible exact sims_frozen1 _
    | with_reducible exact sims_noRoom1
    | with_reducible exact sims_mapM (sims_choose1 _)
    | with_reducible exact sim_typeInfo _
    | with_reducible exact sim_underlying _
    | with_reducible exact sim_sizeOf _
    | with_reducible exact sim_isAgg _
    | with_reducible exact sim_zeroValue _
    | with_reducible exact sim_elemOf _
    | with_reducible exact sim_newRow _ _
    | with_reducible exact sim_newVar _ _
    | with_reducible exact sim_askRoom _
    | with_reducible exact sim_part _ _ _
    | with_reducible exact sim_runtimePanic _
    | with_reducible exact sim_boundsPanic _ _ _ _
    | with_reducible exact sim_asIntOf _
    | with_reducible exact sim_asInt _
    | with_reducible exact sim_asBool _
    | with_reducible exact sim_asAgg _
    | with_reducible exact sim_asAddr _
    | with_reducible exact sim_sureAddr _
    | with_reducible exact sim_loadCellsFrom _ _ _ _
    | with_reducible exact sim_storeCells _ _ _
    | ((with_reducible refine sims_prog ?_ ?_); (next => rfl))
    | with_reducible refine sims_bindM ?_ (fun _ => ?_)
    | with_reducible refine sims_ite ?_ ?_
    | (dsimp only; done) | dsimp only
    | split
    | (show ∀ _, SimS _ _ _; intro _))
theorem sim_loadVar (t : TypeId) (a : Addr) : SimS (PF P F) P (loadVar t a) := by
  unfold loadVar
  repeat' (first
    | with_reducible exact sims_pureM _ | with_reducible exact sims_stuck _ | with_reducible exact sims_unsup _ | with_reducible exact sims_goPanic _
    | with_reducible exact sims_load1 _
    | with_reducible exact sims_store1 _ _
    | with_reducible exact sims_new1 _ _
    | with_reducible exact sims_choose1 _
    | with_reducible exact sims_frozen1 _
    | with_reducible exact sims_noRoom1
    | with_reducible exact sims_mapM (sims_choose1 _)
    | with_reducible exact sim_typeInfo _
    | with_reducible exact sim_underlying _
    | with_reducible exact sim_sizeOf _
    | with_reducible exact sim_isAgg _
    | with_reducible exact sim_zeroValue _
    | with_reducible exact sim_elemOf _
    | with_reducible exact sim_newRow _ _
    | with_reducible exact sim_newVar _ _
    | with_reducible exact sim_askRoom _
    | with_reducible exact sim_part _ _ _
    | with_reducible exact sim_runtimePanic _
    | with_reducible exact sim_boundsPanic _ _ _ _
    | with_reducible exact sim_asIntOf _
    | with_reducible exact sim_asInt _
    | with_reducible exact sim_asBool _
    | with_reducible exact sim_asAgg _
    | with_reducible exact sim_asAddr _
    | with_reducible exact sim_sureAddr _
    | with_reducible exact sim_loadCellsFrom _ _ _ _
    | with_reducible exact sim_storeCells _ _ _
    | with_reducible exact sim_loadCells _ _
    | ((with_reducible refine sims_prog ?_ ?_); (next => rfl))
    | with_reducible refine sims_bindM ?_ (fun _ => ?_)
    | with_reducible refine sims_ite ?_ ?_
    | (dsimp only; done) | dsimp only
    | split
    | (show ∀ _, SimS _ _ _; intro _))
theorem sim_storeVar (t : TypeId) (a : Addr) (v : Value) : SimS (PF P F) P (storeVar t a v) := by
  unfold storeVar
  repeat' (first
    | with_reducible exact sims_pureM _ | with_reducible exact sims_stuck _ | with_reducible exact sims_unsup _ | with_reducible exact sims_goPanic _
    | with_reducible exact sims_load1 _
    | with_reducible exact sims_store1 _ _
    | with_reducible exact sims_new1 _ _
    | with_reducible exact sims_choose1 _
    | with_reducible exact sims_frozen1 _
    | with_reducible exact sims_noRoom1
    | with_reducible exact sims_mapM (sims_choose1 _)
    | with_reducible exact sim_typeInfo _
    | with_reducible exact sim_underlying _
    | with_reducible exact sim_sizeOf _
    | with_reducible exact sim_isAgg _
    | with_reducible exact sim_zeroValue _
    | with_reducible exact sim_elemOf _
    | with_reducible exact sim_newRow _ _
    | with_reducible exact sim_newVar _ _
    | with_reducible exact sim_askRoom _
    | with_reducible exact sim_part _ _ _
    | with_reducible exact sim_runtimePanic _
    | with_reducible exact sim_boundsPanic _ _ _ _
    | with_reducible exact sim_asIntOf _
    | with_reducible exact sim_asInt _
    | with_reducible exact sim_asBool _
    | with_reducible exact sim_asAgg _
    | with_reducible exact sim_asAddr _
    | with_reducible exact sim_sureAddr _
    | with_reducible exact sim_loadCellsFrom _ _ _ _
    | with_reducible exact sim_storeCells _ _ _
    | with_reducible exact sim_loadCells _ _
    | with_reducible exact sim_loadVar _ _
    | ((with_reducible refine sims_prog ?_ ?_); (next => rfl))
    | with_reducible refine sims_bindM ?_ (fun _ => ?_)
    | with_reducible refine sims_ite ?_ ?_
    | (dsimp only; done) | dsimp only
    | split
    | (show ∀ _, SimS _ _ _; intro _))
theorem sim_shapeIs {f : Option (TypeId × Nat) → Sem β} (hs : ∀ x y, x.isSome = y.isSome → f x = f y) (hk : ∀ x, SimS (PF P F) P (f x)) (r : Nat) : SimS (PF P F) P (shape r >>= f) := SimS.shapeIs hs hk
theorem sim_shapeElem {f : Option (TypeId × Nat) → Sem β} (hs : ∀ x y : Option (TypeId × Nat), x.map (·.1) = y.map (·.1) → f x = f y) (hk : ∀ x, SimS (PF P F) P (f x)) (r : Nat) : SimS (PF P F) P (shape r >>= f) := SimS.shapeElem hs hk
theorem sim_getObj {f : Obj → Sem β} (hs : ∀ o o', Alike o o' → f o = f o') (hk : ∀ o, SimS (PF P F) P (f o)) (r : Nat) : SimS (PF P F) P (getObj r >>= f) := SimS.getObj hs hk
theorem sim_numberAt (r : Nat) : SimS (PF P F) P (numberAt r) := by
  unfold numberAt
  refine sim_shapeIs (fun x y h => by rw [h]) (fun x => ?_) r
  split
  · exact sims_pureM _
  · refine sim_getObj (fun o o' h => by cases h <;> rfl) (fun o => ?_) r
    split <;> exact sims_pureM _
theorem sim_behindNumber (n : Addr) : SimS (PF P F) P (behindNumber n) := by
  unfold behindNumber
  exact sims_bindM (sim_numberAt _) (fun _ => sims_pureM _)
theorem viewAt_is (r : Nat) (f : Bool → Sem β) : (viewAt r).bind (fun x => f x.isSome) = Sem.shape r (fun s => if s.isSome then f false else Sem.getObj r (fun o => match o with | .view _ _ => f true | _ => f false)) := by
  show Sem.shape r _ = _
  congr 1
  funext s
  cases s with
  | some x => rfl
  | none =>
    show Sem.getObj r _ = Sem.getObj r _
    congr 1
    funext o
    cases o <;> rfl
theorem sim_viewAtIs (r : Nat) {f : Bool → Sem β} (hf : ∀ b, SimS (PF P F) P (f b)) : SimS (PF P F) P ((viewAt r).bind fun x => f x.isSome) := by
  rw [viewAt_is]
  refine SimS.shapeIs (fun x y h => by rw [h]) (fun x => ?_)
  split
  · exact hf _
  · refine SimS.getObj (fun o o' h => by cases h <;> rfl) (fun o => ?_)
    cases o <;> exact hf _
theorem sim_noView (a : Addr) : SimS (PF P F) P (noView a) :=
  sim_viewAtIs (f := fun b => if b = true then unsupported (.unsafePointer "memory seen as another type") else pure ()) a.block (fun b => by cases b <;> first | exact sims_unsup _ | exact sims_pureM _)
/-- may two addresses be one: as it is reckoned -/
def strAt (v : World) (a : Addr) : Bool := v.frozen? a || (match v.shape? a.block with | some (_, n) => v.frozen? { block := a.block, off := n } | none => false)
def noneAt (v : World) (a : Addr) : Bool := match v.shape? a.block with | some (_, 0) => true | _ => false
def mb (v : World) (a b : Addr) : Bool := (strAt v a && strAt v b) || (strAt v a && noneAt v a) || (strAt v b && noneAt v b)
theorem stringish_runT (Q : Program) (v : World) (es : Array Event) (a : Addr) : (stringish a).runT Q v es = (.ok (strAt v a) v, es) := by
  unfold stringish strAt
  show (Sem.runT Q (Sem.frozen a _) v es) = _
  simp only [Sem.runT]
  cases hf : v.frozen? a with
  | true => rfl
  | false =>
    show (Sem.runT Q (Sem.shape a.block _) v es) = _
    simp only [Sem.runT]
    cases hs : v.shape? a.block with
    | none => rfl
    | some x => obtain ⟨e, n⟩ := x; rfl
theorem mayBeOne_runT (Q : Program) (v : World) (es : Array Event) (a b : Addr) : (mayBeOne a b).runT Q v es = (.ok (mb v a b) v, es) := by
  unfold mayBeOne
  show (Sem.runT Q (Sem.bind (stringish a) _) v es) = _
  rw [Sem.runT_bind', stringish_runT]
  show (Sem.runT Q (Sem.bind (stringish b) _) v es) = _
  rw [Sem.runT_bind', stringish_runT]
  show (Sem.runT Q (Sem.shape a.block _) v es) = _
  simp only [Sem.runT]
  show (Sem.runT Q (Sem.shape b.block _) v es) = _
  simp only [Sem.runT]
  unfold mb noneAt
  rfl
theorem sim_mayBeOne (a b : Addr) : SimS (PF P F) P (mayBeOne a b) := by
  intro S u w es h
  have e1 := mayBeOne_runT (PF P F) u #[] a b
  have e2 := mayBeOne_runT P w es a b
  have e3 : (mayBeOne a b).run (PF P F) u = .ok (mb u a b) u := by rw [← Sem.runT_fst (PF P F) _ u #[], e1]
  have str : ∀ c : Addr, strAt w c = strAt u c := fun c => by
    unfold strAt
    by_cases hc : S c.block
    · have f1 := h.free_in hc
      have f2 := h.frozen c
      rw [f1] at f2 ⊢
      rw [← f2]
      have g : ∀ o : Addr, o.block = c.block → w.frozen? o = false ∧ u.frozen? o = false := fun o ho => by
        have := h.free_in (a := o) (by rw [ho]; exact hc)
        exact ⟨this, by rw [← h.frozen]; exact this⟩
      have x1 : ∀ x : Option (TypeId × Nat), (match x with | some (_, n) => w.frozen? { block := c.block, off := n } | none => false) = false := fun x => by
        cases x with
        | none => rfl
        | some x => exact (g ⟨c.block, x.2, none⟩ rfl).1
      have x2 : ∀ x : Option (TypeId × Nat), (match x with | some (_, n) => u.frozen? { block := c.block, off := n } | none => false) = false := fun x => by
        cases x with
        | none => rfl
        | some x => exact (g ⟨c.block, x.2, none⟩ rfl).2
      rw [x1, x2]
    · rw [h.shape_out hc, h.frozen]
      cases u.shape? c.block with
      | none => rfl
      | some x => simp only [h.frozen]
  have inn : ∀ c : Addr, S c.block → strAt u c = false := fun c hc => by
    rw [← str]
    unfold strAt
    rw [h.free_in hc]
    cases w.shape? c.block with
    | none => rfl
    | some x => simp only [Bool.false_or]; exact h.free_in (a := ⟨c.block, x.2, none⟩) hc
  have one : ∀ c : Addr, (strAt w c && noneAt w c) = (strAt u c && noneAt u c) := fun c => by
    rw [str]
    by_cases hc : S c.block
    · rw [inn c hc]; rfl
    · unfold noneAt; rw [h.shape_out hc]
  have e4 : mb w a b = mb u a b := by unfold mb; rw [one, one, str, str]
  rw [e3, e2, e4]
  exact fun _ => ⟨w, #[], by simp, h, Nat.le_refl _, fun e he => by simp at he⟩
theorem sim_sameAddr (a b : Addr) : SimS (PF P F) P (sameAddr a b) := by
  unfold sameAddr
  repeat' (first
    | with_reducible exact sims_pureM _ | with_reducible exact sims_stuck _ | with_reducible exact sims_unsup _ | with_reducible exact sims_goPanic _
    | with_reducible exact sims_load1 _
    | with_reducible exact sims_store1 _ _
    | with_reducible exact sims_new1 _ _
    | with_reducible exact sims_choose1 _
    | with_reducible exact sims_frozen1 _
    | with_reducible exact sims_noRoom1
    | with_reducible exact sims_mapM (sims_choose1 _)
    | with_reducible exact sim_typeInfo _
    | with_reducible exact sim_underlying _
    | with_reducible exact sim_sizeOf _
    | with_reducible exact sim_isAgg _
    | with_reducible exact sim_zeroValue _
    | with_reducible exact sim_elemOf _
    | with_reducible exact sim_newRow _ _
    | with_reducible exact sim_newVar _ _
    | with_reducible exact sim_askRoom _
    | with_reducible exact sim_part _ _ _
    | with_reducible exact sim_runtimePanic _
    | with_reducible exact sim_boundsPanic _ _ _ _
    | with_reducible exact sim_asIntOf _
    | with_reducible exact sim_asInt _
    | with_reducible exact sim_asBool _
    | with_reducible exact sim_asAgg _
    | with_reducible exact sim_asAddr _
    | with_reducible exact sim_sureAddr _
    | with_reducible exact sim_loadCellsFrom _ _ _ _
    | with_reducible exact sim_storeCells _ _ _
    | with_reducible exact sim_loadCells _ _
    | with_reducible exact sim_loadVar _ _
    | with_reducible exact sim_storeVar _ _ _
    | with_reducible exact sim_numberAt _
    | with_reducible exact sim_behindNumber _
    | with_reducible exact sim_noView _
    | with_reducible exact sim_mayBeOne _ _
    | ((with_reducible refine sims_prog ?_ ?_); (next => rfl))
    | with_reducible refine sims_bindM ?_ (fun _ => ?_)
    | with_reducible refine sims_ite ?_ ?_
    | (dsimp only; done) | dsimp only
    | split
    | (show ∀ _, SimS _ _ _; intro _))
theorem sim_samePointer (a b : Option Addr) : SimS (PF P F) P (samePointer a b) := by
  unfold samePointer
  repeat' (first
    | with_reducible exact sims_pureM _ | with_reducible exact sims_stuck _ | with_reducible exact sims_unsup _ | with_reducible exact sims_goPanic _
    | with_reducible exact sims_load1 _
    | with_reducible exact sims_store1 _ _
    | with_reducible exact sims_new1 _ _
    | with_reducible exact sims_choose1 _
    | with_reducible exact sims_frozen1 _
    | with_reducible exact sims_noRoom1
    | with_reducible exact sims_mapM (sims_choose1 _)
    | with_reducible exact sim_typeInfo _
    | with_reducible exact sim_underlying _
    | with_reducible exact sim_sizeOf _
    | with_reducible exact sim_isAgg _
    | with_reducible exact sim_zeroValue _
    | with_reducible exact sim_elemOf _
    | with_reducible exact sim_newRow _ _
    | with_reducible exact sim_newVar _ _
    | with_reducible exact sim_askRoom _
    | with_reducible exact sim_part _ _ _
    | with_reducible exact sim_runtimePanic _
    | with_reducible exact sim_boundsPanic _ _ _ _
    | with_reducible exact sim_asIntOf _
    | with_reducible exact sim_asInt _
    | with_reducible exact sim_asBool _
    | with_reducible exact sim_asAgg _
    | with_reducible exact sim_asAddr _
    | with_reducible exact sim_sureAddr _
    | with_reducible exact sim_loadCellsFrom _ _ _ _
    | with_reducible exact sim_storeCells _ _ _
    | with_reducible exact sim_loadCells _ _
    | with_reducible exact sim_loadVar _ _
    | with_reducible exact sim_storeVar _ _ _
    | with_reducible exact sim_numberAt _
    | with_reducible exact sim_behindNumber _
    | with_reducible exact sim_noView _
    | with_reducible exact sim_mayBeOne _ _
    | with_reducible exact sim_sameAddr _ _
    | ((with_reducible refine sims_prog ?_ ?_); (next => rfl))
    | with_reducible refine sims_bindM ?_ (fun _ => ?_)
    | with_reducible refine sims_ite ?_ ?_
    | (dsimp only; done) | dsimp only
    | split
    | (show ∀ _, SimS _ _ _; intro _))
theorem sim_intArith (op : BinOp) (k : IntKind) (x y : Int) : SimS (PF P F) P (Op.intArith op k x y) := by
  unfold Op.intArith
  repeat' (first
    | with_reducible exact sims_pureM _ | with_reducible exact sims_stuck _ | with_reducible exact sims_unsup _ | with_reducible exact sims_goPanic _
    | with_reducible exact sims_load1 _
    | with_reducible exact sims_store1 _ _
    | with_reducible exact sims_new1 _ _
    | with_reducible exact sims_choose1 _
    | with_reducible exact sims_frozen1 _
    | with_reducible exact sims_noRoom1
    | with_reducible exact sims_mapM (sims_choose1 _)
    | with_reducible exact sim_typeInfo _
    | with_reducible exact sim_underlying _
    | with_reducible exact sim_sizeOf _
    | with_reducible exact sim_isAgg _
    | with_reducible exact sim_zeroValue _
    | with_reducible exact sim_elemOf _
    | with_reducible exact sim_newRow _ _
    | with_reducible exact sim_newVar _ _
    | with_reducible exact sim_askRoom _
    | with_reducible exact sim_part _ _ _
    | with_reducible exact sim_runtimePanic _
    | with_reducible exact sim_boundsPanic _ _ _ _
    | with_reducible exact sim_asIntOf _
    | with_reducible exact sim_asInt _
    | with_reducible exact sim_asBool _
    | with_reducible exact sim_asAgg _
    | with_reducible exact sim_asAddr _
    | with_reducible exact sim_sureAddr _
    | with_reducible exact sim_loadCellsFrom _ _ _ _
    | with_reducible exact sim_storeCells _ _ _
    | with_reducible exact sim_loadCells _ _
    | with_reducible exact sim_loadVar _ _
    | with_reducible exact sim_storeVar _ _ _
    | with_reducible exact sim_numberAt _
    | with_reducible exact sim_behindNumber _
    | with_reducible exact sim_noView _
    | with_reducible exact sim_mayBeOne _ _
    | with_reducible exact sim_sameAddr _ _
    | with_reducible exact sim_samePointer _ _
    | ((with_reducible refine sims_prog ?_ ?_); (next => rfl))
    | with_reducible refine sims_bindM ?_ (fun _ => ?_)
    | with_reducible refine sims_ite ?_ ?_
    | (dsimp only; done) | dsimp only
    | split
    | (show ∀ _, SimS _ _ _; intro _))
theorem sim_intDiv (op : BinOp) (k : IntKind) (x y : Int) : SimS (PF P F) P (Op.intDiv op k x y) := by
  unfold Op.intDiv
  repeat' (first
    | with_reducible exact sims_pureM _ | with_reducible exact sims_stuck _ | with_reducible exact sims_unsup _ | with_reducible exact sims_goPanic _
    | with_reducible exact sims_load1 _
    | with_reducible exact sims_store1 _ _
    | with_reducible exact sims_new1 _ _
    | with_reducible exact sims_choose1 _
    | with_reducible exact sims_frozen1 _
    | with_reducible exact sims_noRoom1
    | with_reducible exact sims_mapM (sims_choose1 _)
    | with_reducible exact sim_typeInfo _
    | with_reducible exact sim_underlying _
    | with_reducible exact sim_sizeOf _
    | with_reducible exact sim_isAgg _
    | with_reducible exact sim_zeroValue _
    | with_reducible exact sim_elemOf _
    | with_reducible exact sim_newRow _ _
    | with_reducible exact sim_newVar _ _
    | with_reducible exact sim_askRoom _
    | with_reducible exact sim_part _ _ _
    | with_reducible exact sim_runtimePanic _
    | with_reducible exact sim_boundsPanic _ _ _ _
    | with_reducible exact sim_asIntOf _
    | with_reducible exact sim_asInt _
    | with_reducible exact sim_asBool _
    | with_reducible exact sim_asAgg _
    | with_reducible exact sim_asAddr _
    | with_reducible exact sim_sureAddr _
    | with_reducible exact sim_loadCellsFrom _ _ _ _
    | with_reducible exact sim_storeCells _ _ _
    | with_reducible exact sim_loadCells _ _
    | with_reducible exact sim_loadVar _ _
    | with_reducible exact sim_storeVar _ _ _
    | with_reducible exact sim_numberAt _
    | with_reducible exact sim_behindNumber _
    | with_reducible exact sim_noView _
    | with_reducible exact sim_mayBeOne _ _
    | with_reducible exact sim_sameAddr _ _
    | with_reducible exact sim_samePointer _ _
    | with_reducible exact sim_intArith _ _ _ _
    | ((with_reducible refine sims_prog ?_ ?_); (next => rfl))
    | with_reducible refine sims_bindM ?_ (fun _ => ?_)
    | with_reducible refine sims_ite ?_ ?_
    | (dsimp only; done) | dsimp only
    | split
    | (show ∀ _, SimS _ _ _; intro _))
theorem sim_intBits (op : BinOp) (k : IntKind) (x y : Int) : SimS (PF P F) P (Op.intBits op k x y) := by
  unfold Op.intBits
  simp only []
  repeat' (first
    | with_reducible exact sims_pureM _ | with_reducible exact sims_stuck _ | with_reducible exact sims_unsup _ | with_reducible exact sims_goPanic _
    | with_reducible exact sims_load1 _
    | with_reducible exact sims_store1 _ _
    | with_reducible exact sims_new1 _ _
    | with_reducible exact sims_choose1 _
    | with_reducible exact sims_frozen1 _
    | with_reducible exact sims_noRoom1
    | with_reducible exact sims_mapM (sims_choose1 _)
    | with_reducible exact sim_typeInfo _
    | with_reducible exact sim_underlying _
    | with_reducible exact sim_sizeOf _
    | with_reducible exact sim_isAgg _
    | with_reducible exact sim_zeroValue _
    | with_reducible exact sim_elemOf _
    | with_reducible exact sim_newRow _ _
    | with_reducible exact sim_newVar _ _
    | with_reducible exact sim_askRoom _
    | with_reducible exact sim_part _ _ _
    | with_reducible exact sim_runtimePanic _
    | with_reducible exact sim_boundsPanic _ _ _ _
    | with_reducible exact sim_asIntOf _
    | with_reducible exact sim_asInt _
    | with_reducible exact sim_asBool _
    | with_reducible exact sim_asAgg _
    | with_reducible exact sim_asAddr _
    | with_reducible exact sim_sureAddr _
    | with_reducible exact sim_loadCellsFrom _ _ _ _
    | with_reducible exact sim_storeCells _ _ _
    | with_reducible exact sim_loadCells _ _
    | with_reducible exact sim_loadVar _ _
    | with_reducible exact sim_storeVar _ _ _
    | with_reducible exact sim_numberAt _
    | with_reducible exact sim_behindNumber _
    | with_reducible exact sim_noView _
    | with_reducible exact sim_mayBeOne _ _
    | with_reducible exact sim_sameAddr _ _
    | with_reducible exact sim_samePointer _ _
    | with_reducible exact sim_intArith _ _ _ _
    | with_reducible exact sim_intDiv _ _ _ _
    | ((with_reducible refine sims_prog ?_ ?_); (next => rfl))
    | with_reducible refine sims_bindM ?_ (fun _ => ?_)
    | with_reducible refine sims_ite ?_ ?_
    | (dsimp only; done) | dsimp only
    | split
    | (show ∀ _, SimS _ _ _; intro _))
theorem sim_shift (op : BinOp) (k : IntKind) (x : Int) (yk : IntKind) (y : Int) : SimS (PF P F) P (Op.shift op k x yk y) := by
  unfold Op.shift
  simp only []
  repeat' (first
    | with_reducible exact sims_pureM _ | with_reducible exact sims_stuck _ | with_reducible exact sims_unsup _ | with_reducible exact sims_goPanic _
    | with_reducible exact sims_load1 _
    | with_reducible exact sims_store1 _ _
    | with_reducible exact sims_new1 _ _
    | with_reducible exact sims_choose1 _
    | with_reducible exact sims_frozen1 _
    | with_reducible exact sims_noRoom1
    | with_reducible exact sims_mapM (sims_choose1 _)
    | with_reducible exact sim_typeInfo _
    | with_reducible exact sim_underlying _
    | with_reducible exact sim_sizeOf _
    | with_reducible exact sim_isAgg _
    | with_reducible exact sim_zeroValue _
    | with_reducible exact sim_elemOf _
    | with_reducible exact sim_newRow _ _
    | with_reducible exact sim_newVar _ _
    | with_reducible exact sim_askRoom _
    | with_reducible exact sim_part _ _ _
    | with_reducible exact sim_runtimePanic _
    | with_reducible exact sim_boundsPanic _ _ _ _
    | with_reducible exact sim_asIntOf _
    | with_reducible exact sim_asInt _
    | with_reducible exact sim_asBool _
    | with_reducible exact sim_asAgg _
    | with_reducible exact sim_asAddr _
    | with_reducible exact sim_sureAddr _
    | with_reducible exact sim_loadCellsFrom _ _ _ _
    | with_reducible exact sim_storeCells _ _ _
    | with_reducible exact sim_loadCells _ _
    | with_reducible exact sim_loadVar _ _
    | with_reducible exact sim_storeVar _ _ _
    | with_reducible exact sim_numberAt _
    | with_reducible exact sim_behindNumber _
    | with_reducible exact sim_noView _
    | with_reducible exact sim_mayBeOne _ _
    | with_reducible exact sim_sameAddr _ _
    | with_reducible exact sim_samePointer _ _
    | with_reducible exact sim_intArith _ _ _ _
    | with_reducible exact sim_intDiv _ _ _ _
    | with_reducible exact sim_intBits _ _ _ _
    | ((with_reducible refine sims_prog ?_ ?_); (next => rfl))
    | with_reducible refine sims_bindM ?_ (fun _ => ?_)
    | with_reducible refine sims_ite ?_ ?_
    | (dsimp only; done) | dsimp only
    | split
    | (show ∀ _, SimS _ _ _; intro _))
theorem sim_intCmp (op : BinOp) (x y : Int) : SimS (PF P F) P (Op.intCmp op x y) := by
  unfold Op.intCmp
  repeat' (first
    | with_reducible exact sims_pureM _ | with_reducible exact sims_stuck _ | with_reducible exact sims_unsup _ | with_reducible exact sims_goPanic _
    | with_reducible exact sims_load1 _
    | with_reducible exact sims_store1 _ _
    | with_reducible exact sims_new1 _ _
    | with_reducible exact sims_choose1 _
    | with_reducible exact sims_frozen1 _
    | with_reducible exact sims_noRoom1
    | with_reducible exact sims_mapM (sims_choose1 _)
    | with_reducible exact sim_typeInfo _
    | with_reducible exact sim_underlying _
    | with_reducible exact sim_sizeOf _
    | with_reducible exact sim_isAgg _
    | with_reducible exact sim_zeroValue _
    | with_reducible exact sim_elemOf _
    | with_reducible exact sim_newRow _ _
    | with_reducible exact sim_newVar _ _
    | with_reducible exact sim_askRoom _
    | with_reducible exact sim_part _ _ _
    | with_reducible exact sim_runtimePanic _
    | with_reducible exact sim_boundsPanic _ _ _ _
    | with_reducible exact sim_asIntOf _
    | with_reducible exact sim_asInt _
    | with_reducible exact sim_asBool _
    | with_reducible exact sim_asAgg _
    | with_reducible exact sim_asAddr _
    | with_reducible exact sim_sureAddr _
    | with_reducible exact sim_loadCellsFrom _ _ _ _
    | with_reducible exact sim_storeCells _ _ _
    | with_reducible exact sim_loadCells _ _
    | with_reducible exact sim_loadVar _ _
    | with_reducible exact sim_storeVar _ _ _
    | with_reducible exact sim_numberAt _
    | with_reducible exact sim_behindNumber _
    | with_reducible exact sim_noView _
    | with_reducible exact sim_mayBeOne _ _
    | with_reducible exact sim_sameAddr _ _
    | with_reducible exact sim_samePointer _ _
    | with_reducible exact sim_intArith _ _ _ _
    | with_reducible exact sim_intDiv _ _ _ _
    | with_reducible exact sim_intBits _ _ _ _
    | with_reducible exact sim_shift _ _ _ _ _
    | ((with_reducible refine sims_prog ?_ ?_); (next => rfl))
    | with_reducible refine sims_bindM ?_ (fun _ => ?_)
    | with_reducible refine sims_ite ?_ ?_
    | (dsimp only; done) | dsimp only
    | split
    | (show ∀ _, SimS _ _ _; intro _))
theorem sim_floatArith (op : BinOp) (k : FloatKind) (x y : Nat) : SimS (PF P F) P (Op.floatArith op k x y) := by
  unfold Op.floatArith
  repeat' (first
    | with_reducible exact sims_pureM _ | with_reducible exact sims_stuck _ | with_reducible exact sims_unsup _ | with_reducible exact sims_goPanic _
    | with_reducible exact sims_load1 _
    | with_reducible exact sims_store1 _ _
    | with_reducible exact sims_new1 _ _
    | with_reducible exact sims_choose1 _
    | with_reducible exact sims_frozen1 _
    | with_reducible exact sims_noRoom1
    | with_reducible exact sims_mapM (sims_choose1 _)
    | with_reducible exact sim_typeInfo _
    | with_reducible exact sim_underlying _
    | with_reducible exact sim_sizeOf _
    | with_reducible exact sim_isAgg _
    | with_reducible exact sim_zeroValue _
    | with_reducible exact sim_elemOf _
    | with_reducible exact sim_newRow _ _
    | with_reducible exact sim_newVar _ _
    | with_reducible exact sim_askRoom _
    | with_reducible exact sim_part _ _ _
    | with_reducible exact sim_runtimePanic _
    | with_reducible exact sim_boundsPanic _ _ _ _
    | with_reducible exact sim_asIntOf _
    | with_reducible exact sim_asInt _
    | with_reducible exact sim_asBool _
    | with_reducible exact sim_asAgg _
    | with_reducible exact sim_asAddr _
    | with_reducible exact sim_sureAddr _
    | with_reducible exact sim_loadCellsFrom _ _ _ _
    | with_reducible exact sim_storeCells _ _ _
    | with_reducible exact sim_loadCells _ _
    | with_reducible exact sim_loadVar _ _
    | with_reducible exact sim_storeVar _ _ _
    | with_reducible exact sim_numberAt _
    | with_reducible exact sim_behindNumber _
    | with_reducible exact sim_noView _
    | with_reducible exact sim_mayBeOne _ _
    | with_reducible exact sim_sameAddr _ _
    | with_reducible exact sim_samePointer _ _
    | with_reducible exact sim_intArith _ _ _ _
    | with_reducible exact sim_intDiv _ _ _ _
    | with_reducible exact sim_intBits _ _ _ _
    | with_reducible exact sim_shift _ _ _ _ _
    | with_reducible exact sim_intCmp _ _ _
    | ((with_reducible refine sims_prog ?_ ?_); (next => rfl))
    | with_reducible refine sims_bindM ?_ (fun _ => ?_)
    | with_reducible refine sims_ite ?_ ?_
    | (dsimp only; done) | dsimp only
    | split
    | (show ∀ _, SimS _ _ _; intro _))
theorem sim_floatCmp (op : BinOp) (k : FloatKind) (x y : Nat) : SimS (PF P F) P (Op.floatCmp op k x y) := by
  unfold Op.floatCmp
  simp only []
  repeat' (first
    | with_reducible exact sims_pureM _ | with_reducible exact sims_stuck _ | with_reducible exact sims_unsup _ | with_reducible exact sims_goPanic _
    | with_reducible exact sims_load1 _
    | with_reducible exact sims_store1 _ _
    | with_reducible exact sims_new1 _ _
    | with_reducible exact sims_choose1 _
    | with_reducible exact sims_frozen1 _
    | with_reducible exact sims_noRoom1
    | with_reducible exact sims_mapM (sims_choose1 _)
    | with_reducible exact sim_typeInfo _
    | with_reducible exact sim_underlying _
    | with_reducible exact sim_sizeOf _
    | with_reducible exact sim_isAgg _
    | with_reducible exact sim_zeroValue _
    | with_reducible exact sim_elemOf _
    | with_reducible exact sim_newRow _ _
    | with_reducible exact sim_newVar _ _
    | with_reducible exact sim_askRoom _
    | with_reducible exact sim_part _ _ _
    | with_reducible exact sim_runtimePanic _
    | with_reducible exact sim_boundsPanic _ _ _ _
    | with_reducible exact sim_asIntOf _
    | with_reducible exact sim_asInt _
    | with_reducible exact sim_asBool _
    | with_reducible exact sim_asAgg _
    | with_reducible exact sim_asAddr _
    | with_reducible exact sim_sureAddr _
    | with_reducible exact sim_loadCellsFrom _ _ _ _
    | with_reducible exact sim_storeCells _ _ _
    | with_reducible exact sim_loadCells _ _
    | with_reducible exact sim_loadVar _ _
    | with_reducible exact sim_storeVar _ _ _
    | with_reducible exact sim_numberAt _
    | with_reducible exact sim_behindNumber _
    | with_reducible exact sim_noView _
    | with_reducible exact sim_mayBeOne _ _
    | with_reducible exact sim_sameAddr _ _
    | with_reducible exact sim_samePointer _ _
    | with_reducible exact sim_intArith _ _ _ _
    | with_reducible exact sim_intDiv _ _ _ _
    | with_reducible exact sim_intBits _ _ _ _
    | with_reducible exact sim_shift _ _ _ _ _
    | with_reducible exact sim_intCmp _ _ _
    | with_reducible exact sim_floatArith _ _ _ _
    | ((with_reducible refine sims_prog ?_ ?_); (next => rfl))
    | with_reducible refine sims_bindM ?_ (fun _ => ?_)
    | with_reducible refine sims_ite ?_ ?_
    | (dsimp only; done) | dsimp only
    | split
    | (show ∀ _, SimS _ _ _; intro _))
theorem sim_floatToFloat (s : FloatKind) (b : Nat) (d : FloatKind) : SimS (PF P F) P (Conv.floatToFloat s b d) := by
  unfold Conv.floatToFloat
  repeat' (first
    | with_reducible exact sims_pureM _ | with_reducible exact sims_stuck _ | with_reducible exact sims_unsup _ | with_reducible exact sims_goPanic _
    | with_reducible exact sims_load1 _
    | with_reducible exact sims_store1 _ _
    | with_reducible exact sims_new1 _ _
    | with_reducible exact sims_choose1 _
    | with_reducible exact sims_frozen1 _
    | with_reducible exact sims_noRoom1
    | with_reducible exact sims_mapM (sims_choose1 _)
    | with_reducible exact sim_typeInfo _
    | with_reducible exact sim_underlying _
    | with_reducible exact sim_sizeOf _
    | with_reducible exact sim_isAgg _
    | with_reducible exact sim_zeroValue _
    | with_reducible exact sim_elemOf _
    | with_reducible exact sim_newRow _ _
    | with_reducible exact sim_newVar _ _
    | with_reducible exact sim_askRoom _
    | with_reducible exact sim_part _ _ _
    | with_reducible exact sim_runtimePanic _
    | with_reducible exact sim_boundsPanic _ _ _ _
    | with_reducible exact sim_asIntOf _
    | with_reducible exact sim_asInt _
    | with_reducible exact sim_asBool _
    | with_reducible exact sim_asAgg _
    | with_reducible exact sim_asAddr _
    | with_reducible exact sim_sureAddr _
    | with_reducible exact sim_loadCellsFrom _ _ _ _
    | with_reducible exact sim_storeCells _ _ _
    | with_reducible exact sim_loadCells _ _
    | with_reducible exact sim_loadVar _ _
    | with_reducible exact sim_storeVar _ _ _
    | with_reducible exact sim_numberAt _
    | with_reducible exact sim_behindNumber _
    | with_reducible exact sim_noView _
    | with_reducible exact sim_mayBeOne _ _
    | with_reducible exact sim_sameAddr _ _
    | with_reducible exact sim_samePointer _ _
    | with_reducible exact sim_intArith _ _ _ _
    | with_reducible exact sim_intDiv _ _ _ _
    | with_reducible exact sim_intBits _ _ _ _
    | with_reducible exact sim_shift _ _ _ _ _
    | with_reducible exact sim_intCmp _ _ _
    | with_reducible exact sim_floatArith _ _ _ _
    | with_reducible exact sim_floatCmp _ _ _ _
    | ((with_reducible refine sims_prog ?_ ?_); (next => rfl))
    | with_reducible refine sims_bindM ?_ (fun _ => ?_)
    | with_reducible refine sims_ite ?_ ?_
    | (dsimp only; done) | dsimp only
    | split
    | (show ∀ _, SimS _ _ _; intro _))
theorem sim_floatToInt (s : FloatKind) (b : Nat) (d : IntKind) : SimS (PF P F) P (Conv.floatToInt s b d) := by
  unfold Conv.floatToInt
  repeat' (first
    | with_reducible exact sims_pureM _ | with_reducible exact sims_stuck _ | with_reducible exact sims_unsup _ | with_reducible exact sims_goPanic _
    | with_reducible exact sims_load1 _
    | with_reducible exact sims_store1 _ _
    | with_reducible exact sims_new1 _ _
    | with_reducible exact sims_choose1 _
    | with_reducible exact sims_frozen1 _
    | with_reducible exact sims_noRoom1
    | with_reducible exact sims_mapM (sims_choose1 _)
    | with_reducible exact sim_typeInfo _
    | with_reducible exact sim_underlying _
    | with_reducible exact sim_sizeOf _
    | with_reducible exact sim_isAgg _
    | with_reducible exact sim_zeroValue _
    | with_reducible exact sim_elemOf _
    | with_reducible exact sim_newRow _ _
    | with_reducible exact sim_newVar _ _
    | with_reducible exact sim_askRoom _
    | with_reducible exact sim_part _ _ _
    | with_reducible exact sim_runtimePanic _
    | with_reducible exact sim_boundsPanic _ _ _ _
    | with_reducible exact sim_asIntOf _
    | with_reducible exact sim_asInt _
    | with_reducible exact sim_asBool _
    | with_reducible exact sim_asAgg _
    | with_reducible exact sim_asAddr _
    | with_reducible exact sim_sureAddr _
    | with_reducible exact sim_loadCellsFrom _ _ _ _
    | with_reducible exact sim_storeCells _ _ _
    | with_reducible exact sim_loadCells _ _
    | with_reducible exact sim_loadVar _ _
    | with_reducible exact sim_storeVar _ _ _
    | with_reducible exact sim_numberAt _
    | with_reducible exact sim_behindNumber _
    | with_reducible exact sim_noView _
    | with_reducible exact sim_mayBeOne _ _
    | with_reducible exact sim_sameAddr _ _
    | with_reducible exact sim_samePointer _ _
    | with_reducible exact sim_intArith _ _ _ _
    | with_reducible exact sim_intDiv _ _ _ _
    | with_reducible exact sim_intBits _ _ _ _
    | with_reducible exact sim_shift _ _ _ _ _
    | with_reducible exact sim_intCmp _ _ _
    | with_reducible exact sim_floatArith _ _ _ _
    | with_reducible exact sim_floatCmp _ _ _ _
    | with_reducible exact sim_floatToFloat _ _ _
    | ((with_reducible refine sims_prog ?_ ?_); (next => rfl))
    | with_reducible refine sims_bindM ?_ (fun _ => ?_)
    | with_reducible refine sims_ite ?_ ?_
    | (dsimp only; done) | dsimp only
    | split
    | (show ∀ _, SimS _ _ _; intro _))
theorem sim_carith (op : BinOp) (k : FloatKind) (x y : Nat) : SimS (PF P F) P (Op.Complex.arith op k x y) := by
  unfold Op.Complex.arith
  repeat' (first
    | with_reducible exact sims_pureM _ | with_reducible exact sims_stuck _ | with_reducible exact sims_unsup _ | with_reducible exact sims_goPanic _
    | with_reducible exact sims_load1 _
    | with_reducible exact sims_store1 _ _
    | with_reducible exact sims_new1 _ _
    | with_reducible exact sims_choose1 _
    | with_reducible exact sims_frozen1 _
    | with_reducible exact sims_noRoom1
    | with_reducible exact sims_mapM (sims_choose1 _)
    | with_reducible exact sim_typeInfo _
    | with_reducible exact sim_underlying _
    | with_reducible exact sim_sizeOf _
    | with_reducible exact sim_isAgg _
    | with_reducible exact sim_zeroValue _
    | with_reducible exact sim_elemOf _
    | with_reducible exact sim_newRow _ _
    | with_reducible exact sim_newVar _ _
    | with_reducible exact sim_askRoom _
    | with_reducible exact sim_part _ _ _
    | with_reducible exact sim_runtimePanic _
    | with_reducible exact sim_boundsPanic _ _ _ _
    | with_reducible exact sim_asIntOf _
    | with_reducible exact sim_asInt _
    | with_reducible exact sim_asBool _
    | with_reducible exact sim_asAgg _
    | with_reducible exact sim_asAddr _
    | with_reducible exact sim_sureAddr _
    | with_reducible exact sim_loadCellsFrom _ _ _ _
    | with_reducible exact sim_storeCells _ _ _
    | with_reducible exact sim_loadCells _ _
    | with_reducible exact sim_loadVar _ _
    | with_reducible exact sim_storeVar _ _ _
    | with_reducible exact sim_numberAt _
    | with_reducible exact sim_behindNumber _
    | with_reducible exact sim_noView _
    | with_reducible exact sim_mayBeOne _ _
    | with_reducible exact sim_sameAddr _ _
    | with_reducible exact sim_samePointer _ _
    | with_reducible exact sim_intArith _ _ _ _
    | with_reducible exact sim_intDiv _ _ _ _
    | with_reducible exact sim_intBits _ _ _ _
    | with_reducible exact sim_shift _ _ _ _ _
    | with_reducible exact sim_intCmp _ _ _
    | with_reducible exact sim_floatArith _ _ _ _
    | with_reducible exact sim_floatCmp _ _ _ _
    | with_reducible exact sim_floatToFloat _ _ _
    | with_reducible exact sim_floatToInt _ _ _
    | ((with_reducible refine sims_prog ?_ ?_); (next => rfl))
    | with_reducible refine sims_bindM ?_ (fun _ => ?_)
    | with_reducible refine sims_ite ?_ ?_
    | (dsimp only; done) | dsimp only
    | split
    | (show ∀ _, SimS _ _ _; intro _))
theorem sim_ccmp (op : BinOp) (k : FloatKind) (x y : Nat) : SimS (PF P F) P (Op.Complex.cmp op k x y) := by
  unfold Op.Complex.cmp
  repeat' (first
    | with_reducible exact sims_pureM _ | with_reducible exact sims_stuck _ | with_reducible exact sims_unsup _ | with_reducible exact sims_goPanic _
    | with_reducible exact sims_load1 _
    | with_reducible exact sims_store1 _ _
    | with_reducible exact sims_new1 _ _
    | with_reducible exact sims_choose1 _
    | with_reducible exact sims_frozen1 _
    | with_reducible exact sims_noRoom1
    | with_reducible exact sims_mapM (sims_choose1 _)
    | with_reducible exact sim_typeInfo _
    | with_reducible exact sim_underlying _
    | with_reducible exact sim_sizeOf _
    | with_reducible exact sim_isAgg _
    | with_reducible exact sim_zeroValue _
    | with_reducible exact sim_elemOf _
    | with_reducible exact sim_newRow _ _
    | with_reducible exact sim_newVar _ _
    | with_reducible exact sim_askRoom _
    | with_reducible exact sim_part _ _ _
    | with_reducible exact sim_runtimePanic _
    | with_reducible exact sim_boundsPanic _ _ _ _
    | with_reducible exact sim_asIntOf _
    | with_reducible exact sim_asInt _
    | with_reducible exact sim_asBool _
    | with_reducible exact sim_asAgg _
    | with_reducible exact sim_asAddr _
    | with_reducible exact sim_sureAddr _
    | with_reducible exact sim_loadCellsFrom _ _ _ _
    | with_reducible exact sim_storeCells _ _ _
    | with_reducible exact sim_loadCells _ _
    | with_reducible exact sim_loadVar _ _
    | with_reducible exact sim_storeVar _ _ _
    | with_reducible exact sim_numberAt _
    | with_reducible exact sim_behindNumber _
    | with_reducible exact sim_noView _
    | with_reducible exact sim_mayBeOne _ _
    | with_reducible exact sim_sameAddr _ _
    | with_reducible exact sim_samePointer _ _
    | with_reducible exact sim_intArith _ _ _ _
    | with_reducible exact sim_intDiv _ _ _ _
    | with_reducible exact sim_intBits _ _ _ _
    | with_reducible exact sim_shift _ _ _ _ _
    | with_reducible exact sim_intCmp _ _ _
    | with_reducible exact sim_floatArith _ _ _ _
    | with_reducible exact sim_floatCmp _ _ _ _
    | with_reducible exact sim_floatToFloat _ _ _
    | with_reducible exact sim_floatToInt _ _ _
    | with_reducible exact sim_carith _ _ _ _
    | ((with_reducible refine sims_prog ?_ ?_); (next => rfl))
    | with_reducible refine sims_bindM ?_ (fun _ => ?_)
    | with_reducible refine sims_ite ?_ ?_
    | (dsimp only; done) | dsimp only
    | split
    | (show ∀ _, SimS _ _ _; intro _))
theorem sim_cconv (s : FloatKind) (x : Nat) (d : FloatKind) : SimS (PF P F) P (Op.Complex.conv s x d) := by
  unfold Op.Complex.conv
  repeat' (first
    | with_reducible exact sims_pureM _ | with_reducible exact sims_stuck _ | with_reducible exact sims_unsup _ | with_reducible exact sims_goPanic _
    | with_reducible exact sims_load1 _
    | with_reducible exact sims_store1 _ _
    | with_reducible exact sims_new1 _ _
    | with_reducible exact sims_choose1 _
    | with_reducible exact sims_frozen1 _
    | with_reducible exact sims_noRoom1
    | with_reducible exact sims_mapM (sims_choose1 _)
    | with_reducible exact sim_typeInfo _
    | with_reducible exact sim_underlying _
    | with_reducible exact sim_sizeOf _
    | with_reducible exact sim_isAgg _
    | with_reducible exact sim_zeroValue _
    | with_reducible exact sim_elemOf _
    | with_reducible exact sim_newRow _ _
    | with_reducible exact sim_newVar _ _
    | with_reducible exact sim_askRoom _
    | with_reducible exact sim_part _ _ _
    | with_reducible exact sim_runtimePanic _
    | with_reducible exact sim_boundsPanic _ _ _ _
    | with_reducible exact sim_asIntOf _
    | with_reducible exact sim_asInt _
    | with_reducible exact sim_asBool _
    | with_reducible exact sim_asAgg _
    | with_reducible exact sim_asAddr _
    | with_reducible exact sim_sureAddr _
    | with_reducible exact sim_loadCellsFrom _ _ _ _
    | with_reducible exact sim_storeCells _ _ _
    | with_reducible exact sim_loadCells _ _
    | with_reducible exact sim_loadVar _ _
    | with_reducible exact sim_storeVar _ _ _
    | with_reducible exact sim_numberAt _
    | with_reducible exact sim_behindNumber _
    | with_reducible exact sim_noView _
    | with_reducible exact sim_mayBeOne _ _
    | with_reducible exact sim_sameAddr _ _
    | with_reducible exact sim_samePointer _ _
    | with_reducible exact sim_intArith _ _ _ _
    | with_reducible exact sim_intDiv _ _ _ _
    | with_reducible exact sim_intBits _ _ _ _
    | with_reducible exact sim_shift _ _ _ _ _
    | with_reducible exact sim_intCmp _ _ _
    | with_reducible exact sim_floatArith _ _ _ _
    | with_reducible exact sim_floatCmp _ _ _ _
    | with_reducible exact sim_floatToFloat _ _ _
    | with_reducible exact sim_floatToInt _ _ _
    | with_reducible exact sim_carith _ _ _ _
    | with_reducible exact sim_ccmp _ _ _ _
    | ((with_reducible refine sims_prog ?_ ?_); (next => rfl))
    | with_reducible refine sims_bindM ?_ (fun _ => ?_)
    | with_reducible refine sims_ite ?_ ?_
    | (dsimp only; done) | dsimp only
    | split
    | (show ∀ _, SimS _ _ _; intro _))
theorem sim_cadd (x y : Nat) : SimS (PF P F) P (Op.Complex.add x y) := sim_carith _ _ _ _
theorem sim_csub (x y : Nat) : SimS (PF P F) P (Op.Complex.sub x y) := sim_carith _ _ _ _
theorem sim_cmul (x y : Nat) : SimS (PF P F) P (Op.Complex.mul x y) := sim_carith _ _ _ _
theorem sim_cquo (x y : Nat) : SimS (PF P F) P (Op.Complex.quo x y) := sim_carith _ _ _ _
theorem sim_cproduct (a b c d : Nat) : SimS (PF P F) P (Op.Complex.product a b c d) := by
  unfold Op.Complex.product
  repeat' (first
    | with_reducible exact sims_pureM _ | with_reducible exact sims_stuck _ | with_reducible exact sims_unsup _ | with_reducible exact sims_goPanic _
    | with_reducible exact sims_load1 _
    | with_reducible exact sims_store1 _ _
    | with_reducible exact sims_new1 _ _
    | with_reducible exact sims_choose1 _
    | with_reducible exact sims_frozen1 _
    | with_reducible exact sims_noRoom1
    | with_reducible exact sims_mapM (sims_choose1 _)
    | with_reducible exact sim_typeInfo _
    | with_reducible exact sim_underlying _
    | with_reducible exact sim_sizeOf _
    | with_reducible exact sim_isAgg _
    | with_reducible exact sim_zeroValue _
    | with_reducible exact sim_elemOf _
    | with_reducible exact sim_newRow _ _
    | with_reducible exact sim_newVar _ _
    | with_reducible exact sim_askRoom _
    | with_reducible exact sim_part _ _ _
    | with_reducible exact sim_runtimePanic _
    | with_reducible exact sim_boundsPanic _ _ _ _
    | with_reducible exact sim_asIntOf _
    | with_reducible exact sim_asInt _
    | with_reducible exact sim_asBool _
    | with_reducible exact sim_asAgg _
    | with_reducible exact sim_asAddr _
    | with_reducible exact sim_sureAddr _
    | with_reducible exact sim_loadCellsFrom _ _ _ _
    | with_reducible exact sim_storeCells _ _ _
    | with_reducible exact sim_loadCells _ _
    | with_reducible exact sim_loadVar _ _
    | with_reducible exact sim_storeVar _ _ _
    | with_reducible exact sim_numberAt _
    | with_reducible exact sim_behindNumber _
    | with_reducible exact sim_noView _
    | with_reducible exact sim_mayBeOne _ _
    | with_reducible exact sim_sameAddr _ _
    | with_reducible exact sim_samePointer _ _
    | with_reducible exact sim_intArith _ _ _ _
    | with_reducible exact sim_intDiv _ _ _ _
    | with_reducible exact sim_intBits _ _ _ _
    | with_reducible exact sim_shift _ _ _ _ _
    | with_reducible exact sim_intCmp _ _ _
    | with_reducible exact sim_floatArith _ _ _ _
    | with_reducible exact sim_floatCmp _ _ _ _
    | with_reducible exact sim_floatToFloat _ _ _
    | with_reducible exact sim_floatToInt _ _ _
    | with_reducible exact sim_carith _ _ _ _
    | with_reducible exact sim_ccmp _ _ _ _
    | with_reducible exact sim_cconv _ _ _
    | with_reducible exact sim_cadd _ _
    | with_reducible exact sim_csub _ _
    | with_reducible exact sim_cmul _ _
    | with_reducible exact sim_cquo _ _
    | ((with_reducible refine sims_prog ?_ ?_); (next => rfl))
    | with_reducible refine sims_bindM ?_ (fun _ => ?_)
    | with_reducible refine sims_ite ?_ ?_
    | (dsimp only; done) | dsimp only
    | split
    | (show ∀ _, SimS _ _ _; intro _))
theorem sim_ccorrected (s a b c d : Nat) : SimS (PF P F) P (Op.Complex.corrected s a b c d) := by
  unfold Op.Complex.corrected
  repeat' (first
    | with_reducible exact sims_pureM _ | with_reducible exact sims_stuck _ | with_reducible exact sims_unsup _ | with_reducible exact sims_goPanic _
    | with_reducible exact sims_load1 _
    | with_reducible exact sims_store1 _ _
    | with_reducible exact sims_new1 _ _
    | with_reducible exact sims_choose1 _
    | with_reducible exact sims_frozen1 _
    | with_reducible exact sims_noRoom1
    | with_reducible exact sims_mapM (sims_choose1 _)
    | with_reducible exact sim_typeInfo _
    | with_reducible exact sim_underlying _
    | with_reducible exact sim_sizeOf _
    | with_reducible exact sim_isAgg _
    | with_reducible exact sim_zeroValue _
    | with_reducible exact sim_elemOf _
    | with_reducible exact sim_newRow _ _
    | with_reducible exact sim_newVar _ _
    | with_reducible exact sim_askRoom _
    | with_reducible exact sim_part _ _ _
    | with_reducible exact sim_runtimePanic _
    | with_reducible exact sim_boundsPanic _ _ _ _
    | with_reducible exact sim_asIntOf _
    | with_reducible exact sim_asInt _
    | with_reducible exact sim_asBool _
    | with_reducible exact sim_asAgg _
    | with_reducible exact sim_asAddr _
    | with_reducible exact sim_sureAddr _
    | with_reducible exact sim_loadCellsFrom _ _ _ _
    | with_reducible exact sim_storeCells _ _ _
    | with_reducible exact sim_loadCells _ _
    | with_reducible exact sim_loadVar _ _
    | with_reducible exact sim_storeVar _ _ _
    | with_reducible exact sim_numberAt _
    | with_reducible exact sim_behindNumber _
    | with_reducible exact sim_noView _
    | with_reducible exact sim_mayBeOne _ _
    | with_reducible exact sim_sameAddr _ _
    | with_reducible exact sim_samePointer _ _
    | with_reducible exact sim_intArith _ _ _ _
    | with_reducible exact sim_intDiv _ _ _ _
    | with_reducible exact sim_intBits _ _ _ _
    | with_reducible exact sim_shift _ _ _ _ _
    | with_reducible exact sim_intCmp _ _ _
    | with_reducible exact sim_floatArith _ _ _ _
    | with_reducible exact sim_floatCmp _ _ _ _
    | with_reducible exact sim_floatToFloat _ _ _
    | with_reducible exact sim_floatToInt _ _ _
    | with_reducible exact sim_carith _ _ _ _
    | with_reducible exact sim_ccmp _ _ _ _
    | with_reducible exact sim_cconv _ _ _
    | with_reducible exact sim_cadd _ _
    | with_reducible exact sim_csub _ _
    | with_reducible exact sim_cmul _ _
    | with_reducible exact sim_cquo _ _
    | with_reducible exact sim_cproduct _ _ _ _
    | ((with_reducible refine sims_prog ?_ ?_); (next => rfl))
    | with_reducible refine sims_bindM ?_ (fun _ => ?_)
    | with_reducible refine sims_ite ?_ ?_
    | (dsimp only; done) | dsimp only
    | split
    | (show ∀ _, SimS _ _ _; intro _))
theorem sim_cquotient (a b c d : Nat) : SimS (PF P F) P (Op.Complex.quotient a b c d) := by
  unfold Op.Complex.quotient
  repeat' (first
    | with_reducible exact sims_pureM _ | with_reducible exact sims_stuck _ | with_reducible exact sims_unsup _ | with_reducible exact sims_goPanic _
    | with_reducible exact sims_load1 _
    | with_reducible exact sims_store1 _ _
    | with_reducible exact sims_new1 _ _
    | with_reducible exact sims_choose1 _
    | with_reducible exact sims_frozen1 _
    | with_reducible exact sims_noRoom1
    | with_reducible exact sims_mapM (sims_choose1 _)
    | with_reducible exact sim_typeInfo _
    | with_reducible exact sim_underlying _
    | with_reducible exact sim_sizeOf _
    | with_reducible exact sim_isAgg _
    | with_reducible exact sim_zeroValue _
    | with_reducible exact sim_elemOf _
    | with_reducible exact sim_newRow _ _
    | with_reducible exact sim_newVar _ _
    | with_reducible exact sim_askRoom _
    | with_reducible exact sim_part _ _ _
    | with_reducible exact sim_runtimePanic _
    | with_reducible exact sim_boundsPanic _ _ _ _
    | with_reducible exact sim_asIntOf _
    | with_reducible exact sim_asInt _
    | with_reducible exact sim_asBool _
    | with_reducible exact sim_asAgg _
    | with_reducible exact sim_asAddr _
    | with_reducible exact sim_sureAddr _
    | with_reducible exact sim_loadCellsFrom _ _ _ _
    | with_reducible exact sim_storeCells _ _ _
    | with_reducible exact sim_loadCells _ _
    | with_reducible exact sim_loadVar _ _
    | with_reducible exact sim_storeVar _ _ _
    | with_reducible exact sim_numberAt _
    | with_reducible exact sim_behindNumber _
    | with_reducible exact sim_noView _
    | with_reducible exact sim_mayBeOne _ _
    | with_reducible exact sim_sameAddr _ _
    | with_reducible exact sim_samePointer _ _
    | with_reducible exact sim_intArith _ _ _ _
    | with_reducible exact sim_intDiv _ _ _ _
    | with_reducible exact sim_intBits _ _ _ _
    | with_reducible exact sim_shift _ _ _ _ _
    | with_reducible exact sim_intCmp _ _ _
    | with_reducible exact sim_floatArith _ _ _ _
    | with_reducible exact sim_floatCmp _ _ _ _
    | with_reducible exact sim_floatToFloat _ _ _
    | with_reducible exact sim_floatToInt _ _ _
    | with_reducible exact sim_carith _ _ _ _
    | with_reducible exact sim_ccmp _ _ _ _
    | with_reducible exact sim_cconv _ _ _
    | with_reducible exact sim_cadd _ _
    | with_reducible exact sim_csub _ _
    | with_reducible exact sim_cmul _ _
    | with_reducible exact sim_cquo _ _
    | with_reducible exact sim_cproduct _ _ _ _
    | with_reducible exact sim_ccorrected _ _ _ _ _
    | ((with_reducible refine sims_prog ?_ ?_); (next => rfl))
    | with_reducible refine sims_bindM ?_ (fun _ => ?_)
    | with_reducible refine sims_ite ?_ ?_
    | (dsimp only; done) | dsimp only
    | split
    | (show ∀ _, SimS _ _ _; intro _))
theorem sim_complexOp (op : BinOp) (k : FloatKind) (a b c d : Nat) : SimS (PF P F) P (Op.complexOp op k a b c d) := by
  unfold Op.complexOp
  repeat' (first
    | with_reducible exact sims_pureM _ | with_reducible exact sims_stuck _ | with_reducible exact sims_unsup _ | with_reducible exact sims_goPanic _
    | with_reducible exact sims_load1 _
    | with_reducible exact sims_store1 _ _
    | with_reducible exact sims_new1 _ _
    | with_reducible exact sims_choose1 _
    | with_reducible exact sims_frozen1 _
    | with_reducible exact sims_noRoom1
    | with_reducible exact sims_mapM (sims_choose1 _)
    | with_reducible exact sim_typeInfo _
    | with_reducible exact sim_underlying _
    | with_reducible exact sim_sizeOf _
    | with_reducible exact sim_isAgg _
    | with_reducible exact sim_zeroValue _
    | with_reducible exact sim_elemOf _
    | with_reducible exact sim_newRow _ _
    | with_reducible exact sim_newVar _ _
    | with_reducible exact sim_askRoom _
    | with_reducible exact sim_part _ _ _
    | with_reducible exact sim_runtimePanic _
    | with_reducible exact sim_boundsPanic _ _ _ _
    | with_reducible exact sim_asIntOf _
    | with_reducible exact sim_asInt _
    | with_reducible exact sim_asBool _
    | with_reducible exact sim_asAgg _
    | with_reducible exact sim_asAddr _
    | with_reducible exact sim_sureAddr _
    | with_reducible exact sim_loadCellsFrom _ _ _ _
    | with_reducible exact sim_storeCells _ _ _
    | with_reducible exact sim_loadCells _ _
    | with_reducible exact sim_loadVar _ _
    | with_reducible exact sim_storeVar _ _ _
    | with_reducible exact sim_numberAt _
    | with_reducible exact sim_behindNumber _
    | with_reducible exact sim_noView _
    | with_reducible exact sim_mayBeOne _ _
    | with_reducible exact sim_sameAddr _ _
    | with_reducible exact sim_samePointer _ _
    | with_reducible exact sim_intArith _ _ _ _
    | with_reducible exact sim_intDiv _ _ _ _
    | with_reducible exact sim_intBits _ _ _ _
    | with_reducible exact sim_shift _ _ _ _ _
    | with_reducible exact sim_intCmp _ _ _
    | with_reducible exact sim_floatArith _ _ _ _
    | with_reducible exact sim_floatCmp _ _ _ _
    | with_reducible exact sim_floatToFloat _ _ _
    | with_reducible exact sim_floatToInt _ _ _
    | with_reducible exact sim_carith _ _ _ _
    | with_reducible exact sim_ccmp _ _ _ _
    | with_reducible exact sim_cconv _ _ _
    | with_reducible exact sim_cadd _ _
    | with_reducible exact sim_csub _ _
    | with_reducible exact sim_cmul _ _
    | with_reducible exact sim_cquo _ _
    | with_reducible exact sim_cproduct _ _ _ _
    | with_reducible exact sim_ccorrected _ _ _ _ _
    | with_reducible exact sim_cquotient _ _ _ _
    | ((with_reducible refine sims_prog ?_ ?_); (next => rfl))
    | with_reducible refine sims_bindM ?_ (fun _ => ?_)
    | with_reducible refine sims_ite ?_ ?_
    | (dsimp only; done) | dsimp only
    | split
    | (show ∀ _, SimS _ _ _; intro _))
theorem sim_stringOp (op : BinOp) (x y : ByteArray) : SimS (PF P F) P (Op.stringOp op x y) := by
  unfold Op.stringOp
  simp only []
  repeat' (first
    | with_reducible exact sims_pureM _ | with_reducible exact sims_stuck _ | with_reducible exact sims_unsup _ | with_reducible exact sims_goPanic _
    | with_reducible exact sims_load1 _
    | with_reducible exact sims_store1 _ _
    | with_reducible exact sims_new1 _ _
    | with_reducible exact sims_choose1 _
    | with_reducible exact sims_frozen1 _
    | with_reducible exact sims_noRoom1
    | with_reducible exact sims_mapM (sims_choose1 _)
    | with_reducible exact sim_typeInfo _
    | with_reducible exact sim_underlying _
    | with_reducible exact sim_sizeOf _
    | with_reducible exact sim_isAgg _
    | with_reducible exact sim_zeroValue _
    | with_reducible exact sim_elemOf _
    | with_reducible exact sim_newRow _ _
    | with_reducible exact sim_newVar _ _
    | with_reducible exact sim_askRoom _
    | with_reducible exact sim_part _ _ _
    | with_reducible exact sim_runtimePanic _
    | with_reducible exact sim_boundsPanic _ _ _ _
    | with_reducible exact sim_asIntOf _
    | with_reducible exact sim_asInt _
    | with_reducible exact sim_asBool _
    | with_reducible exact sim_asAgg _
    | with_reducible exact sim_asAddr _
    | with_reducible exact sim_sureAddr _
    | with_reducible exact sim_loadCellsFrom _ _ _ _
    | with_reducible exact sim_storeCells _ _ _
    | with_reducible exact sim_loadCells _ _
    | with_reducible exact sim_loadVar _ _
    | with_reducible exact sim_storeVar _ _ _
    | with_reducible exact sim_numberAt _
    | with_reducible exact sim_behindNumber _
    | with_reducible exact sim_noView _
    | with_reducible exact sim_mayBeOne _ _
    | with_reducible exact sim_sameAddr _ _
    | with_reducible exact sim_samePointer _ _
    | with_reducible exact sim_intArith _ _ _ _
    | with_reducible exact sim_intDiv _ _ _ _
    | with_reducible exact sim_intBits _ _ _ _
    | with_reducible exact sim_shift _ _ _ _ _
    | with_reducible exact sim_intCmp _ _ _
    | with_reducible exact sim_floatArith _ _ _ _
    | with_reducible exact sim_floatCmp _ _ _ _
    | with_reducible exact sim_floatToFloat _ _ _
    | with_reducible exact sim_floatToInt _ _ _
    | with_reducible exact sim_carith _ _ _ _
    | with_reducible exact sim_ccmp _ _ _ _
    | with_reducible exact sim_cconv _ _ _
    | with_reducible exact sim_cadd _ _
    | with_reducible exact sim_csub _ _
    | with_reducible exact sim_cmul _ _
    | with_reducible exact sim_cquo _ _
    | with_reducible exact sim_cproduct _ _ _ _
    | with_reducible exact sim_ccorrected _ _ _ _ _
    | with_reducible exact sim_cquotient _ _ _ _
    | with_reducible exact sim_complexOp _ _ _ _ _ _
    | ((with_reducible refine sims_prog ?_ ?_); (next => rfl))
    | with_reducible refine sims_bindM ?_ (fun _ => ?_)
    | with_reducible refine sims_ite ?_ ?_
    | (dsimp only; done) | dsimp only
    | split
    | (show ∀ _, SimS _ _ _; intro _))
theorem sim_unary (op : UnOp) (x : Value) : SimS (PF P F) P (Op.unary op x) := by
  unfold Op.unary
  repeat' (first
    | with_reducible exact sims_pureM _ | with_reducible exact sims_stuck _ | with_reducible exact sims_unsup _ | with_reducible exact sims_goPanic _
    | with_reducible exact sims_load1 _
    | with_reducible exact sims_store1 _ _
    | with_reducible exact sims_new1 _ _
    | with_reducible exact sims_choose1 _
    | with_reducible exact sims_frozen1 _
    | with_reducible exact sims_noRoom1
    | with_reducible exact sims_mapM (sims_choose1 _)
    | with_reducible exact sim_typeInfo _
    | with_reducible exact sim_underlying _
    | with_reducible exact sim_sizeOf _
    | with_reducible exact sim_isAgg _
    | with_reducible exact sim_zeroValue _
    | with_reducible exact sim_elemOf _
    | with_reducible exact sim_newRow _ _
    | with_reducible exact sim_newVar _ _
    | with_reducible exact sim_askRoom _
    | with_reducible exact sim_part _ _ _
    | with_reducible exact sim_runtimePanic _
    | with_reducible exact sim_boundsPanic _ _ _ _
    | with_reducible exact sim_asIntOf _
    | with_reducible exact sim_asInt _
    | with_reducible exact sim_asBool _
    | with_reducible exact sim_asAgg _
    | with_reducible exact sim_asAddr _
    | with_reducible exact sim_sureAddr _
    | with_reducible exact sim_loadCellsFrom _ _ _ _
    | with_reducible exact sim_storeCells _ _ _
    | with_reducible exact sim_loadCells _ _
    | with_reducible exact sim_loadVar _ _
    | with_reducible exact sim_storeVar _ _ _
    | with_reducible exact sim_numberAt _
    | with_reducible exact sim_behindNumber _
    | with_reducible exact sim_noView _
    | with_reducible exact sim_mayBeOne _ _
    | with_reducible exact sim_sameAddr _ _
    | with_reducible exact sim_samePointer _ _
    | with_reducible exact sim_intArith _ _ _ _
    | with_reducible exact sim_intDiv _ _ _ _
    | with_reducible exact sim_intBits _ _ _ _
    | with_reducible exact sim_shift _ _ _ _ _
    | with_reducible exact sim_intCmp _ _ _
    | with_reducible exact sim_floatArith _ _ _ _
    | with_reducible exact sim_floatCmp _ _ _ _
    | with_reducible exact sim_floatToFloat _ _ _
    | with_reducible exact sim_floatToInt _ _ _
    | with_reducible exact sim_carith _ _ _ _
    | with_reducible exact sim_ccmp _ _ _ _
    | with_reducible exact sim_cconv _ _ _
    | with_reducible exact sim_cadd _ _
    | with_reducible exact sim_csub _ _
    | with_reducible exact sim_cmul _ _
    | with_reducible exact sim_cquo _ _
    | with_reducible exact sim_cproduct _ _ _ _
    | with_reducible exact sim_ccorrected _ _ _ _ _
    | with_reducible exact sim_cquotient _ _ _ _
    | with_reducible exact sim_complexOp _ _ _ _ _ _
    | with_reducible exact sim_stringOp _ _ _
    | ((with_reducible refine sims_prog ?_ ?_); (next => rfl))
    | with_reducible refine sims_bindM ?_ (fun _ => ?_)
    | with_reducible refine sims_ite ?_ ?_
    | (dsimp only; done) | dsimp only
    | split
    | (show ∀ _, SimS _ _ _; intro _))
theorem findSome_congr {γ δ : Type} (l : Array γ) (f g : γ → Option δ) (h : ∀ x, f x = g x) : l.findSome? f = l.findSome? g := by
  have : f = g := funext h
  rw [this]
theorem byteOfCell_pf : ∀ (d : Nat) (t : TypeId) (off : Nat), byteOfCell (PF P F) d t off = byteOfCell P d t off := by
  intro d
  induction d with
  | zero => intro t off; rfl
  | succ d ih =>
    intro t off
    unfold byteOfCell
    simp only [ih]
    rfl
theorem cellOfByte_pf : ∀ (d : Nat) (t : TypeId) (off : Nat), cellOfByte (PF P F) d t off = cellOfByte P d t off := by
  intro d
  induction d with
  | zero => intro t off; rfl
  | succ d ih =>
    intro t off
    unfold cellOfByte
    simp only [ih]
    rfl
theorem cellAtBytes_pf (d : Nat) (e : TypeId) (count off : Nat) (bytes : Int) : cellAtBytes (PF P F) d e count off bytes = cellAtBytes P d e count off bytes := by
  unfold cellAtBytes
  simp only [byteOfCell_pf, cellOfByte_pf]
  rfl
theorem sim_byteOf (a : Addr) : SimS (PF P F) P (byteOf a) := by
  unfold byteOf
  split
  · exact sims_pureM _
  · refine sims_prog ?_ ?_
    · simp only [byteOfCell_pf]; rfl
    · refine sims_bindM (sim_noView _) (fun _ => ?_)
      refine sim_shapeElem (fun x y h => ?_) (fun x => ?_) _
      · cases x with
        | none => cases y with
          | none => rfl
          | some y => cases h
        | some x => cases y with
          | none => cases h
          | some y => obtain ⟨e, n⟩ := x; obtain ⟨e', n'⟩ := y; injection h with h; subst h; rfl
      · repeat' (first
    | with_reducible exact sims_pureM _ | with_reducible exact sims_stuck _ | with_reducible exact sims_unsup _ | with_reducible exact sims_goPanic _
    | with_reducible exact sims_load1 _
    | with_reducible exact sims_store1 _ _
    | with_reducible exact sims_new1 _ _
    | with_reducible exact sims_choose1 _
    | with_reducible exact sims_frozen1 _
    | with_reducible exact sims_noRoom1
    | with_reducible exact sims_mapM (sims_choose1 _)
    | with_reducible exact sim_typeInfo _
    | with_reducible exact sim_underlying _
    | with_reducible exact sim_sizeOf _
    | with_reducible exact sim_isAgg _
    | with_reducible exact sim_zeroValue _
    | with_reducible exact sim_elemOf _
    | with_reducible exact sim_newRow _ _
    | with_reducible exact sim_newVar _ _
    | with_reducible exact sim_askRoom _
    | with_reducible exact sim_part _ _ _
    | with_reducible exact sim_runtimePanic _
    | with_reducible exact sim_boundsPanic _ _ _ _
    | with_reducible exact sim_asIntOf _
    | with_reducible exact sim_asInt _
    | with_reducible exact sim_asBool _
    | with_reducible exact sim_asAgg _
    | with_reducible exact sim_asAddr _
    | with_reducible exact sim_sureAddr _
    | with_reducible exact sim_loadCellsFrom _ _ _ _
    | with_reducible exact sim_storeCells _ _ _
    | with_reducible exact sim_loadCells _ _
    | with_reducible exact sim_loadVar _ _
    | with_reducible exact sim_storeVar _ _ _
    | with_reducible exact sim_numberAt _
    | with_reducible exact sim_behindNumber _
    | with_reducible exact sim_noView _
    | with_reducible exact sim_mayBeOne _ _
    | with_reducible exact sim_sameAddr _ _
    | with_reducible exact sim_samePointer _ _
    | with_reducible exact sim_intArith _ _ _ _
    | with_reducible exact sim_intDiv _ _ _ _
    | with_reducible exact sim_intBits _ _ _ _
    | with_reducible exact sim_shift _ _ _ _ _
    | with_reducible exact sim_intCmp _ _ _
    | with_reducible exact sim_floatArith _ _ _ _
    | with_reducible exact sim_floatCmp _ _ _ _
    | with_reducible exact sim_floatToFloat _ _ _
    | with_reducible exact sim_floatToInt _ _ _
    | with_reducible exact sim_carith _ _ _ _
    | with_reducible exact sim_ccmp _ _ _ _
    | with_reducible exact sim_cconv _ _ _
    | with_reducible exact sim_cadd _ _
    | with_reducible exact sim_csub _ _
    | with_reducible exact sim_cmul _ _
    | with_reducible exact sim_cquo _ _
    | with_reducible exact sim_cproduct _ _ _ _
    | with_reducible exact sim_ccorrected _ _ _ _ _
    | with_reducible exact sim_cquotient _ _ _ _
    | with_reducible exact sim_complexOp _ _ _ _ _ _
    | with_reducible exact sim_stringOp _ _ _
    | with_reducible exact sim_unary _ _
    | ((with_reducible refine sims_prog ?_ ?_); (next => rfl))
    | with_reducible refine sims_bindM ?_ (fun _ => ?_)
    | with_reducible refine sims_ite ?_ ?_
    | (dsimp only; done) | dsimp only
    | split
    | (show ∀ _, SimS _ _ _; intro _))
theorem sim_partAt (a : Addr) (c b : Nat) : SimS (PF P F) P (partAt a c b) := by
  unfold partAt
  repeat' (first
    | with_reducible exact sims_pureM _ | with_reducible exact sims_stuck _ | with_reducible exact sims_unsup _ | with_reducible exact sims_goPanic _
    | with_reducible exact sims_load1 _
    | with_reducible exact sims_store1 _ _
    | with_reducible exact sims_new1 _ _
    | with_reducible exact sims_choose1 _
    | with_reducible exact sims_frozen1 _
    | with_reducible exact sims_noRoom1
    | with_reducible exact sims_mapM (sims_choose1 _)
    | with_reducible exact sim_typeInfo _
    | with_reducible exact sim_underlying _
    | with_reducible exact sim_sizeOf _
    | with_reducible exact sim_isAgg _
    | with_reducible exact sim_zeroValue _
    | with_reducible exact sim_elemOf _
    | with_reducible exact sim_newRow _ _
    | with_reducible exact sim_newVar _ _
    | with_reducible exact sim_askRoom _
    | with_reducible exact sim_part _ _ _
    | with_reducible exact sim_runtimePanic _
    | with_reducible exact sim_boundsPanic _ _ _ _
    | with_reducible exact sim_asIntOf _
    | with_reducible exact sim_asInt _
    | with_reducible exact sim_asBool _
    | with_reducible exact sim_asAgg _
    | with_reducible exact sim_asAddr _
    | with_reducible exact sim_sureAddr _
    | with_reducible exact sim_loadCellsFrom _ _ _ _
    | with_reducible exact sim_storeCells _ _ _
    | with_reducible exact sim_loadCells _ _
    | with_reducible exact sim_loadVar _ _
    | with_reducible exact sim_storeVar _ _ _
    | with_reducible exact sim_numberAt _
    | with_reducible exact sim_behindNumber _
    | with_reducible exact sim_noView _
    | with_reducible exact sim_mayBeOne _ _
    | with_reducible exact sim_sameAddr _ _
    | with_reducible exact sim_samePointer _ _
    | with_reducible exact sim_intArith _ _ _ _
    | with_reducible exact sim_intDiv _ _ _ _
    | with_reducible exact sim_intBits _ _ _ _
    | with_reducible exact sim_shift _ _ _ _ _
    | with_reducible exact sim_intCmp _ _ _
    | with_reducible exact sim_floatArith _ _ _ _
    | with_reducible exact sim_floatCmp _ _ _ _
    | with_reducible exact sim_floatToFloat _ _ _
    | with_reducible exact sim_floatToInt _ _ _
    | with_reducible exact sim_carith _ _ _ _
    | with_reducible exact sim_ccmp _ _ _ _
    | with_reducible exact sim_cconv _ _ _
    | with_reducible exact sim_cadd _ _
    | with_reducible exact sim_csub _ _
    | with_reducible exact sim_cmul _ _
    | with_reducible exact sim_cquo _ _
    | with_reducible exact sim_cproduct _ _ _ _
    | with_reducible exact sim_ccorrected _ _ _ _ _
    | with_reducible exact sim_cquotient _ _ _ _
    | with_reducible exact sim_complexOp _ _ _ _ _ _
    | with_reducible exact sim_stringOp _ _ _
    | with_reducible exact sim_unary _ _
    | with_reducible exact sim_byteOf _
    | ((with_reducible refine sims_prog ?_ ?_); (next => rfl))
    | with_reducible refine sims_bindM ?_ (fun _ => ?_)
    | with_reducible refine sims_ite ?_ ?_
    | (dsimp only; done) | dsimp only
    | split
    | (show ∀ _, SimS _ _ _; intro _))
theorem sim_fieldPlace (a : Addr) (f : Field) : SimS (PF P F) P (fieldPlace a f) := by
  unfold fieldPlace
  repeat' (first
    | with_reducible exact sims_pureM _ | with_reducible exact sims_stuck _ | with_reducible exact sims_unsup _ | with_reducible exact sims_goPanic _
    | with_reducible exact sims_load1 _
    | with_reducible exact sims_store1 _ _
    | with_reducible exact sims_new1 _ _
    | with_reducible exact sims_choose1 _
    | with_reducible exact sims_frozen1 _
    | with_reducible exact sims_noRoom1
    | with_reducible exact sims_mapM (sims_choose1 _)
    | with_reducible exact sim_typeInfo _
    | with_reducible exact sim_underlying _
    | with_reducible exact sim_sizeOf _
    | with_reducible exact sim_isAgg _
    | with_reducible exact sim_zeroValue _
    | with_reducible exact sim_elemOf _
    | with_reducible exact sim_newRow _ _
    | with_reducible exact sim_newVar _ _
    | with_reducible exact sim_askRoom _
    | with_reducible exact sim_part _ _ _
    | with_reducible exact sim_runtimePanic _
    | with_reducible exact sim_boundsPanic _ _ _ _
    | with_reducible exact sim_asIntOf _
    | with_reducible exact sim_asInt _
    | with_reducible exact sim_asBool _
    | with_reducible exact sim_asAgg _
    | with_reducible exact sim_asAddr _
    | with_reducible exact sim_sureAddr _
    | with_reducible exact sim_loadCellsFrom _ _ _ _
    | with_reducible exact sim_storeCells _ _ _
    | with_reducible exact sim_loadCells _ _
    | with_reducible exact sim_loadVar _ _
    | with_reducible exact sim_storeVar _ _ _
    | with_reducible exact sim_numberAt _
    | with_reducible exact sim_behindNumber _
    | with_reducible exact sim_noView _
    | with_reducible exact sim_mayBeOne _ _
    | with_reducible exact sim_sameAddr _ _
    | with_reducible exact sim_samePointer _ _
    | with_reducible exact sim_intArith _ _ _ _
    | with_reducible exact sim_intDiv _ _ _ _
    | with_reducible exact sim_intBits _ _ _ _
    | with_reducible exact sim_shift _ _ _ _ _
    | with_reducible exact sim_intCmp _ _ _
    | with_reducible exact sim_floatArith _ _ _ _
    | with_reducible exact sim_floatCmp _ _ _ _
    | with_reducible exact sim_floatToFloat _ _ _
    | with_reducible exact sim_floatToInt _ _ _
    | with_reducible exact sim_carith _ _ _ _
    | with_reducible exact sim_ccmp _ _ _ _
    | with_reducible exact sim_cconv _ _ _
    | with_reducible exact sim_cadd _ _
    | with_reducible exact sim_csub _ _
    | with_reducible exact sim_cmul _ _
    | with_reducible exact sim_cquo _ _
    | with_reducible exact sim_cproduct _ _ _ _
    | with_reducible exact sim_ccorrected _ _ _ _ _
    | with_reducible exact sim_cquotient _ _ _ _
    | with_reducible exact sim_complexOp _ _ _ _ _ _
    | with_reducible exact sim_stringOp _ _ _
    | with_reducible exact sim_unary _ _
    | with_reducible exact sim_byteOf _
    | with_reducible exact sim_partAt _ _ _
    | ((with_reducible refine sims_prog ?_ ?_); (next => rfl))
    | with_reducible refine sims_bindM ?_ (fun _ => ?_)
    | with_reducible refine sims_ite ?_ ?_
    | (dsimp only; done) | dsimp only
    | split
    | (show ∀ _, SimS _ _ _; intro _))
theorem sim_twoPlaces (a b : Addr) : SimS (PF P F) P (Op.twoPlaces a b) := by
  unfold Op.twoPlaces
  repeat' (first
    | with_reducible exact sims_pureM _ | with_reducible exact sims_stuck _ | with_reducible exact sims_unsup _ | with_reducible exact sims_goPanic _
    | with_reducible exact sims_load1 _
    | with_reducible exact sims_store1 _ _
    | with_reducible exact sims_new1 _ _
    | with_reducible exact sims_choose1 _
    | with_reducible exact sims_frozen1 _
    | with_reducible exact sims_noRoom1
    | with_reducible exact sims_mapM (sims_choose1 _)
    | with_reducible exact sim_typeInfo _
    | with_reducible exact sim_underlying _
    | with_reducible exact sim_sizeOf _
    | with_reducible exact sim_isAgg _
    | with_reducible exact sim_zeroValue _
    | with_reducible exact sim_elemOf _
    | with_reducible exact sim_newRow _ _
    | with_reducible exact sim_newVar _ _
    | with_reducible exact sim_askRoom _
    | with_reducible exact sim_part _ _ _
    | with_reducible exact sim_runtimePanic _
    | with_reducible exact sim_boundsPanic _ _ _ _
    | with_reducible exact sim_asIntOf _
    | with_reducible exact sim_asInt _
    | with_reducible exact sim_asBool _
    | with_reducible exact sim_asAgg _
    | with_reducible exact sim_asAddr _
    | with_reducible exact sim_sureAddr _
    | with_reducible exact sim_loadCellsFrom _ _ _ _
    | with_reducible exact sim_storeCells _ _ _
    | with_reducible exact sim_loadCells _ _
    | with_reducible exact sim_loadVar _ _
    | with_reducible exact sim_storeVar _ _ _
    | with_reducible exact sim_numberAt _
    | with_reducible exact sim_behindNumber _
    | with_reducible exact sim_noView _
    | with_reducible exact sim_mayBeOne _ _
    | with_reducible exact sim_sameAddr _ _
    | with_reducible exact sim_samePointer _ _
    | with_reducible exact sim_intArith _ _ _ _
    | with_reducible exact sim_intDiv _ _ _ _
    | with_reducible exact sim_intBits _ _ _ _
    | with_reducible exact sim_shift _ _ _ _ _
    | with_reducible exact sim_intCmp _ _ _
    | with_reducible exact sim_floatArith _ _ _ _
    | with_reducible exact sim_floatCmp _ _ _ _
    | with_reducible exact sim_floatToFloat _ _ _
    | with_reducible exact sim_floatToInt _ _ _
    | with_reducible exact sim_carith _ _ _ _
    | with_reducible exact sim_ccmp _ _ _ _
    | with_reducible exact sim_cconv _ _ _
    | with_reducible exact sim_cadd _ _
    | with_reducible exact sim_csub _ _
    | with_reducible exact sim_cmul _ _
    | with_reducible exact sim_cquo _ _
    | with_reducible exact sim_cproduct _ _ _ _
    | with_reducible exact sim_ccorrected _ _ _ _ _
    | with_reducible exact sim_cquotient _ _ _ _
    | with_reducible exact sim_complexOp _ _ _ _ _ _
    | with_reducible exact sim_stringOp _ _ _
    | with_reducible exact sim_unary _ _
    | with_reducible exact sim_byteOf _
    | with_reducible exact sim_partAt _ _ _
    | with_reducible exact sim_fieldPlace _ _
    | ((with_reducible refine sims_prog ?_ ?_); (next => rfl))
    | with_reducible refine sims_bindM ?_ (fun _ => ?_)
    | with_reducible refine sims_ite ?_ ?_
    | (dsimp only; done) | dsimp only
    | split
    | (show ∀ _, SimS _ _ _; intro _))
theorem sim_addrSub (k : IntKind) (a b : Addr) : SimS (PF P F) P (Op.addrSub k a b) := by
  unfold Op.addrSub
  repeat' (first
    | with_reducible exact sims_pureM _ | with_reducible exact sims_stuck _ | with_reducible exact sims_unsup _ | with_reducible exact sims_goPanic _
    | with_reducible exact sims_load1 _
    | with_reducible exact sims_store1 _ _
    | with_reducible exact sims_new1 _ _
    | with_reducible exact sims_choose1 _
    | with_reducible exact sims_frozen1 _
    | with_reducible exact sims_noRoom1
    | with_reducible exact sims_mapM (sims_choose1 _)
    | with_reducible exact sim_typeInfo _
    | with_reducible exact sim_underlying _
    | with_reducible exact sim_sizeOf _
    | with_reducible exact sim_isAgg _
    | with_reducible exact sim_zeroValue _
    | with_reducible exact sim_elemOf _
    | with_reducible exact sim_newRow _ _
    | with_reducible exact sim_newVar _ _
    | with_reducible exact sim_askRoom _
    | with_reducible exact sim_part _ _ _
    | with_reducible exact sim_runtimePanic _
    | with_reducible exact sim_boundsPanic _ _ _ _
    | with_reducible exact sim_asIntOf _
    | with_reducible exact sim_asInt _
    | with_reducible exact sim_asBool _
    | with_reducible exact sim_asAgg _
    | with_reducible exact sim_asAddr _
    | with_reducible exact sim_sureAddr _
    | with_reducible exact sim_loadCellsFrom _ _ _ _
    | with_reducible exact sim_storeCells _ _ _
    | with_reducible exact sim_loadCells _ _
    | with_reducible exact sim_loadVar _ _
    | with_reducible exact sim_storeVar _ _ _
    | with_reducible exact sim_numberAt _
    | with_reducible exact sim_behindNumber _
    | with_reducible exact sim_noView _
    | with_reducible exact sim_mayBeOne _ _
    | with_reducible exact sim_sameAddr _ _
    | with_reducible exact sim_samePointer _ _
    | with_reducible exact sim_intArith _ _ _ _
    | with_reducible exact sim_intDiv _ _ _ _
    | with_reducible exact sim_intBits _ _ _ _
    | with_reducible exact sim_shift _ _ _ _ _
    | with_reducible exact sim_intCmp _ _ _
    | with_reducible exact sim_floatArith _ _ _ _
    | with_reducible exact sim_floatCmp _ _ _ _
    | with_reducible exact sim_floatToFloat _ _ _
    | with_reducible exact sim_floatToInt _ _ _
    | with_reducible exact sim_carith _ _ _ _
    | with_reducible exact sim_ccmp _ _ _ _
    | with_reducible exact sim_cconv _ _ _
    | with_reducible exact sim_cadd _ _
    | with_reducible exact sim_csub _ _
    | with_reducible exact sim_cmul _ _
    | with_reducible exact sim_cquo _ _
    | with_reducible exact sim_cproduct _ _ _ _
    | with_reducible exact sim_ccorrected _ _ _ _ _
    | with_reducible exact sim_cquotient _ _ _ _
    | with_reducible exact sim_complexOp _ _ _ _ _ _
    | with_reducible exact sim_stringOp _ _ _
    | with_reducible exact sim_unary _ _
    | with_reducible exact sim_byteOf _
    | with_reducible exact sim_partAt _ _ _
    | with_reducible exact sim_fieldPlace _ _
    | with_reducible exact sim_twoPlaces _ _
    | ((with_reducible refine sims_prog ?_ ?_); (next => rfl))
    | with_reducible refine sims_bindM ?_ (fun _ => ?_)
    | with_reducible refine sims_ite ?_ ?_
    | (dsimp only; done) | dsimp only
    | split
    | (show ∀ _, SimS _ _ _; intro _))
theorem sim_addrCmp (op : BinOp) (a b : Addr) : SimS (PF P F) P (Op.addrCmp op a b) := by
  unfold Op.addrCmp
  repeat' (first
    | with_reducible exact sims_pureM _ | with_reducible exact sims_stuck _ | with_reducible exact sims_unsup _ | with_reducible exact sims_goPanic _
    | with_reducible exact sims_load1 _
    | with_reducible exact sims_store1 _ _
    | with_reducible exact sims_new1 _ _
    | with_reducible exact sims_choose1 _
    | with_reducible exact sims_frozen1 _
    | with_reducible exact sims_noRoom1
    | with_reducible exact sims_mapM (sims_choose1 _)
    | with_reducible exact sim_typeInfo _
    | with_reducible exact sim_underlying _
    | with_reducible exact sim_sizeOf _
    | with_reducible exact sim_isAgg _
    | with_reducible exact sim_zeroValue _
    | with_reducible exact sim_elemOf _
    | with_reducible exact sim_newRow _ _
    | with_reducible exact sim_newVar _ _
    | with_reducible exact sim_askRoom _
    | with_reducible exact sim_part _ _ _
    | with_reducible exact sim_runtimePanic _
    | with_reducible exact sim_boundsPanic _ _ _ _
    | with_reducible exact sim_asIntOf _
    | with_reducible exact sim_asInt _
    | with_reducible exact sim_asBool _
    | with_reducible exact sim_asAgg _
    | with_reducible exact sim_asAddr _
    | with_reducible exact sim_sureAddr _
    | with_reducible exact sim_loadCellsFrom _ _ _ _
    | with_reducible exact sim_storeCells _ _ _
    | with_reducible exact sim_loadCells _ _
    | with_reducible exact sim_loadVar _ _
    | with_reducible exact sim_storeVar _ _ _
    | with_reducible exact sim_numberAt _
    | with_reducible exact sim_behindNumber _
    | with_reducible exact sim_noView _
    | with_reducible exact sim_mayBeOne _ _
    | with_reducible exact sim_sameAddr _ _
    | with_reducible exact sim_samePointer _ _
    | with_reducible exact sim_intArith _ _ _ _
    | with_reducible exact sim_intDiv _ _ _ _
    | with_reducible exact sim_intBits _ _ _ _
    | with_reducible exact sim_shift _ _ _ _ _
    | with_reducible exact sim_intCmp _ _ _
    | with_reducible exact sim_floatArith _ _ _ _
    | with_reducible exact sim_floatCmp _ _ _ _
    | with_reducible exact sim_floatToFloat _ _ _
    | with_reducible exact sim_floatToInt _ _ _
    | with_reducible exact sim_carith _ _ _ _
    | with_reducible exact sim_ccmp _ _ _ _
    | with_reducible exact sim_cconv _ _ _
    | with_reducible exact sim_cadd _ _
    | with_reducible exact sim_csub _ _
    | with_reducible exact sim_cmul _ _
    | with_reducible exact sim_cquo _ _
    | with_reducible exact sim_cproduct _ _ _ _
    | with_reducible exact sim_ccorrected _ _ _ _ _
    | with_reducible exact sim_cquotient _ _ _ _
    | with_reducible exact sim_complexOp _ _ _ _ _ _
    | with_reducible exact sim_stringOp _ _ _
    | with_reducible exact sim_unary _ _
    | with_reducible exact sim_byteOf _
    | with_reducible exact sim_partAt _ _ _
    | with_reducible exact sim_fieldPlace _ _
    | with_reducible exact sim_twoPlaces _ _
    | with_reducible exact sim_addrSub _ _ _
    | ((with_reducible refine sims_prog ?_ ?_); (next => rfl))
    | with_reducible refine sims_bindM ?_ (fun _ => ?_)
    | with_reducible refine sims_ite ?_ ?_
    | (dsimp only; done) | dsimp only
    | split
    | (show ∀ _, SimS _ _ _; intro _))
theorem sim_addrMod (k : IntKind) (a : Addr) (n : Int) : SimS (PF P F) P (Op.addrMod k a n) := by
  unfold Op.addrMod
  refine sim_shapeElem (fun x y h => ?_) (fun x => ?_) _
  · cases x with
    | none => cases y with
      | none => rfl
      | some y => cases h
    | some x => cases y with
      | none => cases h
      | some y => obtain ⟨e, n⟩ := x; obtain ⟨e', n'⟩ := y; injection h with h; subst h; rfl
  · repeat' (first
    | with_reducible exact sims_pureM _ | with_reducible exact sims_stuck _ | with_reducible exact sims_unsup _ | with_reducible exact sims_goPanic _
    | with_reducible exact sims_load1 _
    | with_reducible exact sims_store1 _ _
    | with_reducible exact sims_new1 _ _
    | with_reducible exact sims_choose1 _
    | with_reducible exact sims_frozen1 _
    | with_reducible exact sims_noRoom1
    | with_reducible exact sims_mapM (sims_choose1 _)
    | with_reducible exact sim_typeInfo _
    | with_reducible exact sim_underlying _
    | with_reducible exact sim_sizeOf _
    | with_reducible exact sim_isAgg _
    | with_reducible exact sim_zeroValue _
    | with_reducible exact sim_elemOf _
    | with_reducible exact sim_newRow _ _
    | with_reducible exact sim_newVar _ _
    | with_reducible exact sim_askRoom _
    | with_reducible exact sim_part _ _ _
    | with_reducible exact sim_runtimePanic _
    | with_reducible exact sim_boundsPanic _ _ _ _
    | with_reducible exact sim_asIntOf _
    | with_reducible exact sim_asInt _
    | with_reducible exact sim_asBool _
    | with_reducible exact sim_asAgg _
    | with_reducible exact sim_asAddr _
    | with_reducible exact sim_sureAddr _
    | with_reducible exact sim_loadCellsFrom _ _ _ _
    | with_reducible exact sim_storeCells _ _ _
    | with_reducible exact sim_loadCells _ _
    | with_reducible exact sim_loadVar _ _
    | with_reducible exact sim_storeVar _ _ _
    | with_reducible exact sim_numberAt _
    | with_reducible exact sim_behindNumber _
    | with_reducible exact sim_noView _
    | with_reducible exact sim_mayBeOne _ _
    | with_reducible exact sim_sameAddr _ _
    | with_reducible exact sim_samePointer _ _
    | with_reducible exact sim_intArith _ _ _ _
    | with_reducible exact sim_intDiv _ _ _ _
    | with_reducible exact sim_intBits _ _ _ _
    | with_reducible exact sim_shift _ _ _ _ _
    | with_reducible exact sim_intCmp _ _ _
    | with_reducible exact sim_floatArith _ _ _ _
    | with_reducible exact sim_floatCmp _ _ _ _
    | with_reducible exact sim_floatToFloat _ _ _
    | with_reducible exact sim_floatToInt _ _ _
    | with_reducible exact sim_carith _ _ _ _
    | with_reducible exact sim_ccmp _ _ _ _
    | with_reducible exact sim_cconv _ _ _
    | with_reducible exact sim_cadd _ _
    | with_reducible exact sim_csub _ _
    | with_reducible exact sim_cmul _ _
    | with_reducible exact sim_cquo _ _
    | with_reducible exact sim_cproduct _ _ _ _
    | with_reducible exact sim_ccorrected _ _ _ _ _
    | with_reducible exact sim_cquotient _ _ _ _
    | with_reducible exact sim_complexOp _ _ _ _ _ _
    | with_reducible exact sim_stringOp _ _ _
    | with_reducible exact sim_unary _ _
    | with_reducible exact sim_byteOf _
    | with_reducible exact sim_partAt _ _ _
    | with_reducible exact sim_fieldPlace _ _
    | with_reducible exact sim_twoPlaces _ _
    | with_reducible exact sim_addrSub _ _ _
    | with_reducible exact sim_addrCmp _ _ _
    | ((with_reducible refine sims_prog ?_ ?_); (next => rfl))
    | with_reducible refine sims_bindM ?_ (fun _ => ?_)
    | with_reducible refine sims_ite ?_ ?_
    | (dsimp only; done) | dsimp only
    | split
    | (show ∀ _, SimS _ _ _; intro _))
theorem sims_viewIf (r : Nat) {A B : Sem β} (hA : SimS (PF P F) P A) (hB : SimS (PF P F) P B) : SimS (PF P F) P ((viewAt r).bind fun x => if x.isSome = true then A else B) :=
  sim_viewAtIs (f := fun b => if b = true then A else B) r (fun b => by cases b <;> assumption)
theorem sims_shapeFail {r : Nat} {k : Option (TypeId × Nat) → Sem α} (hk : ∀ x, SimS (PF P F) P (k x)) (h0 : ∀ e u, ∃ x u', (k (some (e, 0))).run (PF P F) u = .halt x u' ∧ Halt.fails x) : SimS (PF P F) P (.shape r k) := by
  intro S u w es h
  simp only [Sem.run, Sem.runT]
  by_cases hS : S r
  · obtain ⟨o, o', h1, h2, h3⟩ := h.ins r hS
    cases h3 with
    | hid e cs =>
      have : u.shape? r = some (e, 0) := by simp [World.shape?, h1]
      rw [this]
      obtain ⟨x, u', hx, hf⟩ := h0 e u
      rw [hx]; exact fun _ => .inl hf
    | chan =>
      have e1 : u.shape? r = none := by simp [World.shape?, h1]
      have e2 : w.shape? r = none := by simp [World.shape?, h2]
      rw [e1, e2]; exact hk _ S u w es h
    | view =>
      have e1 : u.shape? r = none := by simp [World.shape?, h1]
      have e2 : w.shape? r = none := by simp [World.shape?, h2]
      rw [e1, e2]; exact hk _ S u w es h
  · rw [h.shape_out hS]; exact hk _ S u w es h
theorem cellAtBytes_none (p : Program) (d : Nat) (e : TypeId) (off : Nat) (n : Int) (s : Nat) : cellAtBytes p d e (0 / s) off n = none := by
  unfold cellAtBytes
  simp only [Nat.zero_div, Nat.zero_mul]
  split
  · rfl
  · cases byteOfCell p d e (off % p.cellsOf e) with
    | none => rfl
    | some x =>
      show (if _ then none else _) = none
      rw [if_pos]
      simp; omega
theorem sim_unsafeAdd (ts : Array TypeId) (t : TypeId) (args : Array Value) : SimS (PF P F) P (Builtin.unsafeAdd_ ts t args) := by
  obtain ⟨l⟩ := args
  rcases l with _ | ⟨v, _ | ⟨x, _ | _⟩⟩
  · exact sims_stuck _
  · cases v <;> exact sims_stuck _
  · cases v
    case pointer ptr =>
      unfold Builtin.unsafeAdd_
      refine sims_bindM (sim_asInt _) (fun n => ?_)
      dsimp only
      split
      · cases ptr with
        | none => exact sims_bindM (sims_unsup _) (fun _ => by
            dsimp only
            split
            · exact sims_bindM (sims_unsup _) (fun _ => sims_unsup _)
            · exact sims_unsup _)
        | some a =>
          dsimp only
          exact sims_viewIf _ (sims_bindM (sims_unsup _) (fun _ => sims_pureM _)) (sims_pureM _)
      · cases ptr with
        | none =>
          dsimp only
          split
          · exact sims_bindM (sims_unsup _) (fun _ => sims_unsup _)
          · exact sims_unsup _
        | some a =>
          have key : SimS (PF P F) P (do
              let __x ← shape a.block
              match __x with
                | some (e, cells) => do
                  let p ← program
                  match cellAtBytes p p.depth e (cells / p.cellsOf e) a.off n with
                    | some off => pure (Value.pointer (some { block := a.block, off := off, spot := a.spot }))
                    | none => unsupported (Unsupported.unsafePointer "Add")
                | x => unsupported (Unsupported.unsafePointer "Add")) := by
            refine sims_shapeFail (fun y => ?_) (fun e u => ?_)
            · cases y with
              | none => exact sims_unsup _
              | some y =>
                obtain ⟨e, cells⟩ := y
                refine sims_prog ?_ ?_
                · simp only [cellAtBytes_pf]; rfl
                · split
                  · exact sims_pureM _
                  · exact sims_unsup _
            · refine ⟨.unsupported (.unsafePointer "Add"), u, ?_, trivial⟩
              show Sem.run _ (match cellAtBytes _ _ e (0 / _) a.off n with | some off => _ | none => _) u = _
              rw [cellAtBytes_none]; rfl
          dsimp only
          split
          · exact sims_bindM (sims_unsup _) (fun _ => key)
          · exact key
    all_goals exact sims_stuck _
  · cases v <;> exact sims_stuck _
theorem sim_asNumber (a : Addr) (l : Bool) : SimS (PF P F) P (asNumber a l) := by
  unfold asNumber
  exact sims_bindM (SimS.new (by simp) (fun v => SimS.pure v)) (fun _ => sims_pureM _)
theorem sim_movedNumber (t : TypeId) (x y : Value) : SimS (PF P F) P (movedNumber t x y) := by
  unfold movedNumber
  repeat' (first
    | with_reducible exact sims_pureM _ | with_reducible exact sims_stuck _ | with_reducible exact sims_unsup _ | with_reducible exact sims_goPanic _
    | with_reducible exact sims_load1 _
    | with_reducible exact sims_store1 _ _
    | with_reducible exact sims_new1 _ _
    | with_reducible exact sims_choose1 _
    | with_reducible exact sims_frozen1 _
    | with_reducible exact sims_noRoom1
    | with_reducible exact sims_mapM (sims_choose1 _)
    | with_reducible exact sim_typeInfo _
    | with_reducible exact sim_underlying _
    | with_reducible exact sim_sizeOf _
    | with_reducible exact sim_isAgg _
    | with_reducible exact sim_zeroValue _
    | with_reducible exact sim_elemOf _
    | with_reducible exact sim_newRow _ _
    | with_reducible exact sim_newVar _ _
    | with_reducible exact sim_askRoom _
    | with_reducible exact sim_part _ _ _
    | with_reducible exact sim_runtimePanic _
    | with_reducible exact sim_boundsPanic _ _ _ _
    | with_reducible exact sim_asIntOf _
    | with_reducible exact sim_asInt _
    | with_reducible exact sim_asBool _
    | with_reducible exact sim_asAgg _
    | with_reducible exact sim_asAddr _
    | with_reducible exact sim_sureAddr _
    | with_reducible exact sim_loadCellsFrom _ _ _ _
    | with_reducible exact sim_storeCells _ _ _
    | with_reducible exact sim_loadCells _ _
    | with_reducible exact sim_loadVar _ _
    | with_reducible exact sim_storeVar _ _ _
    | with_reducible exact sim_numberAt _
    | with_reducible exact sim_behindNumber _
    | with_reducible exact sim_noView _
    | with_reducible exact sim_mayBeOne _ _
    | with_reducible exact sim_sameAddr _ _
    | with_reducible exact sim_samePointer _ _
    | with_reducible exact sim_intArith _ _ _ _
    | with_reducible exact sim_intDiv _ _ _ _
    | with_reducible exact sim_intBits _ _ _ _
    | with_reducible exact sim_shift _ _ _ _ _
    | with_reducible exact sim_intCmp _ _ _
    | with_reducible exact sim_floatArith _ _ _ _
    | with_reducible exact sim_floatCmp _ _ _ _
    | with_reducible exact sim_floatToFloat _ _ _
    | with_reducible exact sim_floatToInt _ _ _
    | with_reducible exact sim_carith _ _ _ _
    | with_reducible exact sim_ccmp _ _ _ _
    | with_reducible exact sim_cconv _ _ _
    | with_reducible exact sim_cadd _ _
    | with_reducible exact sim_csub _ _
    | with_reducible exact sim_cmul _ _
    | with_reducible exact sim_cquo _ _
    | with_reducible exact sim_cproduct _ _ _ _
    | with_reducible exact sim_ccorrected _ _ _ _ _
    | with_reducible exact sim_cquotient _ _ _ _
    | with_reducible exact sim_complexOp _ _ _ _ _ _
    | with_reducible exact sim_stringOp _ _ _
    | with_reducible exact sim_unary _ _
    | with_reducible exact sim_byteOf _
    | with_reducible exact sim_partAt _ _ _
    | with_reducible exact sim_fieldPlace _ _
    | with_reducible exact sim_twoPlaces _ _
    | with_reducible exact sim_addrSub _ _ _
    | with_reducible exact sim_addrCmp _ _ _
    | with_reducible exact sim_addrMod _ _ _
    | with_reducible exact sim_unsafeAdd _ _ _
    | with_reducible exact sim_asNumber _ _
    | ((with_reducible refine sims_prog ?_ ?_); (next => rfl))
    | with_reducible refine sims_bindM ?_ (fun _ => ?_)
    | with_reducible refine sims_ite ?_ ?_
    | (dsimp only; done) | dsimp only
    | split
    | (show ∀ _, SimS _ _ _; intro _))
theorem sim_movedPointer (t : TypeId) (x y : Value) : SimS (PF P F) P (movedPointer t x y) := by
  unfold movedPointer
  repeat' (first
    | with_reducible exact sims_pureM _ | with_reducible exact sims_stuck _ | with_reducible exact sims_unsup _ | with_reducible exact sims_goPanic _
    | with_reducible exact sims_load1 _
    | with_reducible exact sims_store1 _ _
    | with_reducible exact sims_new1 _ _
    | with_reducible exact sims_choose1 _
    | with_reducible exact sims_frozen1 _
    | with_reducible exact sims_noRoom1
    | with_reducible exact sims_mapM (sims_choose1 _)
    | with_reducible exact sim_typeInfo _
    | with_reducible exact sim_underlying _
    | with_reducible exact sim_sizeOf _
    | with_reducible exact sim_isAgg _
    | with_reducible exact sim_zeroValue _
    | with_reducible exact sim_elemOf _
    | with_reducible exact sim_newRow _ _
    | with_reducible exact sim_newVar _ _
    | with_reducible exact sim_askRoom _
    | with_reducible exact sim_part _ _ _
    | with_reducible exact sim_runtimePanic _
    | with_reducible exact sim_boundsPanic _ _ _ _
    | with_reducible exact sim_asIntOf _
    | with_reducible exact sim_asInt _
    | with_reducible exact sim_asBool _
    | with_reducible exact sim_asAgg _
    | with_reducible exact sim_asAddr _
    | with_reducible exact sim_sureAddr _
    | with_reducible exact sim_loadCellsFrom _ _ _ _
    | with_reducible exact sim_storeCells _ _ _
    | with_reducible exact sim_loadCells _ _
    | with_reducible exact sim_loadVar _ _
    | with_reducible exact sim_storeVar _ _ _
    | with_reducible exact sim_numberAt _
    | with_reducible exact sim_behindNumber _
    | with_reducible exact sim_noView _
    | with_reducible exact sim_mayBeOne _ _
    | with_reducible exact sim_sameAddr _ _
    | with_reducible exact sim_samePointer _ _
    | with_reducible exact sim_intArith _ _ _ _
    | with_reducible exact sim_intDiv _ _ _ _
    | with_reducible exact sim_intBits _ _ _ _
    | with_reducible exact sim_shift _ _ _ _ _
    | with_reducible exact sim_intCmp _ _ _
    | with_reducible exact sim_floatArith _ _ _ _
    | with_reducible exact sim_floatCmp _ _ _ _
    | with_reducible exact sim_floatToFloat _ _ _
    | with_reducible exact sim_floatToInt _ _ _
    | with_reducible exact sim_carith _ _ _ _
    | with_reducible exact sim_ccmp _ _ _ _
    | with_reducible exact sim_cconv _ _ _
    | with_reducible exact sim_cadd _ _
    | with_reducible exact sim_csub _ _
    | with_reducible exact sim_cmul _ _
    | with_reducible exact sim_cquo _ _
    | with_reducible exact sim_cproduct _ _ _ _
    | with_reducible exact sim_ccorrected _ _ _ _ _
    | with_reducible exact sim_cquotient _ _ _ _
    | with_reducible exact sim_complexOp _ _ _ _ _ _
    | with_reducible exact sim_stringOp _ _ _
    | with_reducible exact sim_unary _ _
    | with_reducible exact sim_byteOf _
    | with_reducible exact sim_partAt _ _ _
    | with_reducible exact sim_fieldPlace _ _
    | with_reducible exact sim_twoPlaces _ _
    | with_reducible exact sim_addrSub _ _ _
    | with_reducible exact sim_addrCmp _ _ _
    | with_reducible exact sim_addrMod _ _ _
    | with_reducible exact sim_unsafeAdd _ _ _
    | with_reducible exact sim_asNumber _ _
    | with_reducible exact sim_movedNumber _ _ _
    | ((with_reducible refine sims_prog ?_ ?_); (next => rfl))
    | with_reducible refine sims_bindM ?_ (fun _ => ?_)
    | with_reducible refine sims_ite ?_ ?_
    | (dsimp only; done) | dsimp only
    | split
    | (show ∀ _, SimS _ _ _; intro _))
theorem sim_forIn_list {γ σ : Type} (l : List γ) (f : γ → σ → Sem (ForInStep σ)) (hf : ∀ x s, SimS (PF P F) P (f x s)) : ∀ s, SimS (PF P F) P (forIn l s f) := by
  induction l with
  | nil => intro s; simp only [List.forIn_nil]; exact sims_pureM _
  | cons x l ih =>
    intro s
    simp only [List.forIn_cons]
    refine sims_bindM (hf x s) (fun r => ?_)
    cases r with
    | done a => exact sims_pureM _
    | yield a => exact ih a
theorem sim_forIn_array {γ σ : Type} (l : Array γ) (f : γ → σ → Sem (ForInStep σ)) (hf : ∀ x s, SimS (PF P F) P (f x s)) (s : σ) : SimS (PF P F) P (forIn l s f) := by
  rw [← Array.forIn_toList]
  exact sim_forIn_list _ f hf s
theorem sim_forIn_range {σ : Type} (n : Nat) (f : Nat → σ → Sem (ForInStep σ)) (hf : ∀ x s, SimS (PF P F) P (f x s)) (s : σ) : SimS (PF P F) P (forIn [0:n] s f) := by
  simp only [Std.Legacy.Range.forIn_eq_forIn_range']
  exact sim_forIn_list _ f hf s
theorem alikeButTags_pf : ∀ (d : Nat) (a b : TypeId), (PF P F).alikeButTags d a b = P.alikeButTags d a b := by
  intro d
  induction d with
  | zero => intro a b; rfl
  | succ d ih =>
    intro a b
    unfold Program.alikeButTags
    simp only [ih]
    try rfl
theorem stoodInAs_pf (t : TypeId) : (PF P F).stoodInAs t = P.stoodInAs t := by
  unfold Program.stoodInAs
  simp only [alikeButTags_pf]
  try rfl
theorem stoodInHeld_pf (t : TypeId) : (PF P F).stoodInHeld t = P.stoodInHeld t := by
  unfold Program.stoodInHeld
  rw [stoodInAs_pf]
  try rfl
theorem packedAs_pf (t : TypeId) : (PF P F).packedAs t = P.packedAs t := by
  unfold Program.packedAs
  simp only [alikeButTags_pf]
  try rfl
theorem packed_pf (t : TypeId) : (PF P F).packed t = P.packed t := by
  unfold Program.packed
  rw [packedAs_pf]
theorem holdsPacked_pf : ∀ (d : Nat) (t : TypeId), (PF P F).holdsPacked d t = P.holdsPacked d t := by
  intro d
  induction d with
  | zero => intro t; rfl
  | succ d ih =>
    intro t
    unfold Program.holdsPacked
    simp only [ih, packed_pf]
    try rfl
theorem eqGuardType_pf : ∀ (d : Nat) (t : TypeId), (PF P F).eqGuardType d t = P.eqGuardType d t := by
  intro d
  induction d with
  | zero => intro t; rfl
  | succ d ih =>
    intro t
    unfold Program.eqGuardType
    simp only [ih]
    try rfl
theorem sim_typeStr (t : TypeId) : SimS (PF P F) P (typeStr t) := by
  unfold typeStr
  repeat' (first
    | with_reducible exact sims_pureM _ | with_reducible exact sims_stuck _ | with_reducible exact sims_unsup _ | with_reducible exact sims_goPanic _
    | with_reducible exact sims_load1 _
    | with_reducible exact sims_store1 _ _
    | with_reducible exact sims_new1 _ _
    | with_reducible exact sims_choose1 _
    | with_reducible exact sims_frozen1 _
    | with_reducible exact sims_noRoom1
    | with_reducible exact sims_mapM (sims_choose1 _)
    | with_reducible exact sim_typeInfo _
    | with_reducible exact sim_underlying _
    | with_reducible exact sim_sizeOf _
    | with_reducible exact sim_isAgg _
    | with_reducible exact sim_zeroValue _
    | with_reducible exact sim_elemOf _
    | with_reducible exact sim_newRow _ _
    | with_reducible exact sim_newVar _ _
    | with_reducible exact sim_askRoom _
    | with_reducible exact sim_part _ _ _
    | with_reducible exact sim_runtimePanic _
    | with_reducible exact sim_boundsPanic _ _ _ _
    | with_reducible exact sim_asIntOf _
    | with_reducible exact sim_asInt _
    | with_reducible exact sim_asBool _
    | with_reducible exact sim_asAgg _
    | with_reducible exact sim_asAddr _
    | with_reducible exact sim_sureAddr _
    | with_reducible exact sim_loadCellsFrom _ _ _ _
    | with_reducible exact sim_storeCells _ _ _
    | with_reducible exact sim_loadCells _ _
    | with_reducible exact sim_loadVar _ _
    | with_reducible exact sim_storeVar _ _ _
    | with_reducible exact sim_numberAt _
    | with_reducible exact sim_behindNumber _
    | with_reducible exact sim_noView _
    | with_reducible exact sim_mayBeOne _ _
    | with_reducible exact sim_sameAddr _ _
    | with_reducible exact sim_samePointer _ _
    | with_reducible exact sim_intArith _ _ _ _
    | with_reducible exact sim_intDiv _ _ _ _
    | with_reducible exact sim_intBits _ _ _ _
    | with_reducible exact sim_shift _ _ _ _ _
    | with_reducible exact sim_intCmp _ _ _
    | with_reducible exact sim_floatArith _ _ _ _
    | with_reducible exact sim_floatCmp _ _ _ _
    | with_reducible exact sim_floatToFloat _ _ _
    | with_reducible exact sim_floatToInt _ _ _
    | with_reducible exact sim_carith _ _ _ _
    | with_reducible exact sim_ccmp _ _ _ _
    | with_reducible exact sim_cconv _ _ _
    | with_reducible exact sim_cadd _ _
    | with_reducible exact sim_csub _ _
    | with_reducible exact sim_cmul _ _
    | with_reducible exact sim_cquo _ _
    | with_reducible exact sim_cproduct _ _ _ _
    | with_reducible exact sim_ccorrected _ _ _ _ _
    | with_reducible exact sim_cquotient _ _ _ _
    | with_reducible exact sim_complexOp _ _ _ _ _ _
    | with_reducible exact sim_stringOp _ _ _
    | with_reducible exact sim_unary _ _
    | with_reducible exact sim_byteOf _
    | with_reducible exact sim_partAt _ _ _
    | with_reducible exact sim_fieldPlace _ _
    | with_reducible exact sim_twoPlaces _ _
    | with_reducible exact sim_addrSub _ _ _
    | with_reducible exact sim_addrCmp _ _ _
    | with_reducible exact sim_addrMod _ _ _
    | with_reducible exact sim_unsafeAdd _ _ _
    | with_reducible exact sim_asNumber _ _
    | with_reducible exact sim_movedNumber _ _ _
    | with_reducible exact sim_movedPointer _ _ _
    | ((with_reducible refine sims_prog ?_ ?_); (next => rfl))
    | with_reducible refine sims_bindM ?_ (fun _ => ?_)
    | with_reducible refine sims_ite ?_ ?_
    | (dsimp only; done) | dsimp only
    | split
    | (show ∀ _, SimS _ _ _; intro _))
theorem sim_equalIn : ∀ (d : Nat) (t : TypeId) (x y : Value), SimS (PF P F) P (Op.equalIn d t x y) := by
  intro d
  induction d with
  | zero => intro t x y; exact sims_unsup _
  | succ d ih =>
    intro t x y
    unfold Op.equalIn
    refine sims_bindM (sim_underlying _) (fun dt => ?_)
    repeat' (first
    | with_reducible exact sims_pureM _ | with_reducible exact sims_stuck _ | with_reducible exact sims_unsup _ | with_reducible exact sims_goPanic _
    | with_reducible exact ih _ _ _
    | with_reducible exact sims_load1 _
    | with_reducible exact sims_store1 _ _
    | with_reducible exact sims_new1 _ _
    | with_reducible exact sims_choose1 _
    | with_reducible exact sims_frozen1 _
    | with_reducible exact sims_noRoom1
    | with_reducible exact sims_mapM (sims_choose1 _)
    | with_reducible exact sim_typeInfo _
    | with_reducible exact sim_underlying _
    | with_reducible exact sim_sizeOf _
    | with_reducible exact sim_isAgg _
    | with_reducible exact sim_zeroValue _
    | with_reducible exact sim_elemOf _
    | with_reducible exact sim_newRow _ _
    | with_reducible exact sim_newVar _ _
    | with_reducible exact sim_askRoom _
    | with_reducible exact sim_part _ _ _
    | with_reducible exact sim_runtimePanic _
    | with_reducible exact sim_boundsPanic _ _ _ _
    | with_reducible exact sim_asIntOf _
    | with_reducible exact sim_asInt _
    | with_reducible exact sim_asBool _
    | with_reducible exact sim_asAgg _
    | with_reducible exact sim_asAddr _
    | with_reducible exact sim_sureAddr _
    | with_reducible exact sim_loadCellsFrom _ _ _ _
    | with_reducible exact sim_storeCells _ _ _
    | with_reducible exact sim_loadCells _ _
    | with_reducible exact sim_loadVar _ _
    | with_reducible exact sim_storeVar _ _ _
    | with_reducible exact sim_numberAt _
    | with_reducible exact sim_behindNumber _
    | with_reducible exact sim_noView _
    | with_reducible exact sim_mayBeOne _ _
    | with_reducible exact sim_sameAddr _ _
    | with_reducible exact sim_samePointer _ _
    | with_reducible exact sim_intArith _ _ _ _
    | with_reducible exact sim_intDiv _ _ _ _
    | with_reducible exact sim_intBits _ _ _ _
    | with_reducible exact sim_shift _ _ _ _ _
    | with_reducible exact sim_intCmp _ _ _
    | with_reducible exact sim_floatArith _ _ _ _
    | with_reducible exact sim_floatCmp _ _ _ _
    | with_reducible exact sim_floatToFloat _ _ _
    | with_reducible exact sim_floatToInt _ _ _
    | with_reducible exact sim_carith _ _ _ _
    | with_reducible exact sim_ccmp _ _ _ _
    | with_reducible exact sim_cconv _ _ _
    | with_reducible exact sim_cadd _ _
    | with_reducible exact sim_csub _ _
    | with_reducible exact sim_cmul _ _
    | with_reducible exact sim_cquo _ _
    | with_reducible exact sim_cproduct _ _ _ _
    | with_reducible exact sim_ccorrected _ _ _ _ _
    | with_reducible exact sim_cquotient _ _ _ _
    | with_reducible exact sim_complexOp _ _ _ _ _ _
    | with_reducible exact sim_stringOp _ _ _
    | with_reducible exact sim_unary _ _
    | with_reducible exact sim_byteOf _
    | with_reducible exact sim_partAt _ _ _
    | with_reducible exact sim_fieldPlace _ _
    | with_reducible exact sim_twoPlaces _ _
    | with_reducible exact sim_addrSub _ _ _
    | with_reducible exact sim_addrCmp _ _ _
    | with_reducible exact sim_addrMod _ _ _
    | with_reducible exact sim_unsafeAdd _ _ _
    | with_reducible exact sim_asNumber _ _
    | with_reducible exact sim_movedNumber _ _ _
    | with_reducible exact sim_movedPointer _ _ _
    | with_reducible exact sim_typeStr _
    | with_reducible refine sim_forIn_array _ _ (fun _ _ => ?_) _
    | with_reducible refine sim_forIn_range _ _ (fun _ _ => ?_) _
    | ((with_reducible refine sims_prog ?_ ?_); (next => (simp only [holdsPacked_pf, stoodInHeld_pf, eqGuardType_pf]; done)))
    | ((with_reducible refine sims_prog ?_ ?_); (next => rfl))
    | with_reducible refine sims_bindM ?_ (fun _ => ?_)
    | with_reducible refine sims_ite ?_ ?_
    | (dsimp only; done) | dsimp only
    | split
    | (show ∀ _, SimS _ _ _; intro _))
theorem sim_equal (t : TypeId) (x y : Value) : SimS (PF P F) P (Op.equal t x y) := by
  unfold Op.equal
  repeat' (first
    | with_reducible exact sims_pureM _ | with_reducible exact sims_stuck _ | with_reducible exact sims_unsup _ | with_reducible exact sims_goPanic _
    | with_reducible exact sims_load1 _
    | with_reducible exact sims_store1 _ _
    | with_reducible exact sims_new1 _ _
    | with_reducible exact sims_choose1 _
    | with_reducible exact sims_frozen1 _
    | with_reducible exact sims_noRoom1
    | with_reducible exact sims_mapM (sims_choose1 _)
    | with_reducible exact sim_typeInfo _
    | with_reducible exact sim_underlying _
    | with_reducible exact sim_sizeOf _
    | with_reducible exact sim_isAgg _
    | with_reducible exact sim_zeroValue _
    | with_reducible exact sim_elemOf _
    | with_reducible exact sim_newRow _ _
    | with_reducible exact sim_newVar _ _
    | with_reducible exact sim_askRoom _
    | with_reducible exact sim_part _ _ _
    | with_reducible exact sim_runtimePanic _
    | with_reducible exact sim_boundsPanic _ _ _ _
    | with_reducible exact sim_asIntOf _
    | with_reducible exact sim_asInt _
    | with_reducible exact sim_asBool _
    | with_reducible exact sim_asAgg _
    | with_reducible exact sim_asAddr _
    | with_reducible exact sim_sureAddr _
    | with_reducible exact sim_loadCellsFrom _ _ _ _
    | with_reducible exact sim_storeCells _ _ _
    | with_reducible exact sim_loadCells _ _
    | with_reducible exact sim_loadVar _ _
    | with_reducible exact sim_storeVar _ _ _
    | with_reducible exact sim_numberAt _
    | with_reducible exact sim_behindNumber _
    | with_reducible exact sim_noView _
    | with_reducible exact sim_mayBeOne _ _
    | with_reducible exact sim_sameAddr _ _
    | with_reducible exact sim_samePointer _ _
    | with_reducible exact sim_intArith _ _ _ _
    | with_reducible exact sim_intDiv _ _ _ _
    | with_reducible exact sim_intBits _ _ _ _
    | with_reducible exact sim_shift _ _ _ _ _
    | with_reducible exact sim_intCmp _ _ _
    | with_reducible exact sim_floatArith _ _ _ _
    | with_reducible exact sim_floatCmp _ _ _ _
    | with_reducible exact sim_floatToFloat _ _ _
    | with_reducible exact sim_floatToInt _ _ _
    | with_reducible exact sim_carith _ _ _ _
    | with_reducible exact sim_ccmp _ _ _ _
    | with_reducible exact sim_cconv _ _ _
    | with_reducible exact sim_cadd _ _
    | with_reducible exact sim_csub _ _
    | with_reducible exact sim_cmul _ _
    | with_reducible exact sim_cquo _ _
    | with_reducible exact sim_cproduct _ _ _ _
    | with_reducible exact sim_ccorrected _ _ _ _ _
    | with_reducible exact sim_cquotient _ _ _ _
    | with_reducible exact sim_complexOp _ _ _ _ _ _
    | with_reducible exact sim_stringOp _ _ _
    | with_reducible exact sim_unary _ _
    | with_reducible exact sim_byteOf _
    | with_reducible exact sim_partAt _ _ _
    | with_reducible exact sim_fieldPlace _ _
    | with_reducible exact sim_twoPlaces _ _
    | with_reducible exact sim_addrSub _ _ _
    | with_reducible exact sim_addrCmp _ _ _
    | with_reducible exact sim_addrMod _ _ _
    | with_reducible exact sim_unsafeAdd _ _ _
    | with_reducible exact sim_asNumber _ _
    | with_reducible exact sim_movedNumber _ _ _
    | with_reducible exact sim_movedPointer _ _ _
    | with_reducible exact sim_typeStr _
    | with_reducible exact sim_equalIn _ _ _ _
    | with_reducible refine sim_forIn_array _ _ (fun _ _ => ?_) _
    | with_reducible refine sim_forIn_range _ _ (fun _ _ => ?_) _
    | ((with_reducible refine sims_prog ?_ ?_); (next => (simp only [holdsPacked_pf, stoodInHeld_pf, eqGuardType_pf]; done)))
    | ((with_reducible refine sims_prog ?_ ?_); (next => rfl))
    | with_reducible refine sims_bindM ?_ (fun _ => ?_)
    | with_reducible refine sims_ite ?_ ?_
    | (dsimp only; done) | dsimp only
    | split
    | (show ∀ _, SimS _ _ _; intro _))
theorem sim_eqGuardIn : ∀ (d : Nat) (t : TypeId) (x y : Value), SimS (PF P F) P (Op.eqGuardIn d t x y) := by
  intro d
  induction d with
  | zero => intro t x y; exact sims_unsup _
  | succ d ih =>
    intro t x y
    unfold Op.eqGuardIn
    refine sims_bindM (sim_underlying _) (fun dt => ?_)
    repeat' (first
    | with_reducible exact sims_pureM _ | with_reducible exact sims_stuck _ | with_reducible exact sims_unsup _ | with_reducible exact sims_goPanic _
    | with_reducible exact ih _ _ _
    | with_reducible exact sims_load1 _
    | with_reducible exact sims_store1 _ _
    | with_reducible exact sims_new1 _ _
    | with_reducible exact sims_choose1 _
    | with_reducible exact sims_frozen1 _
    | with_reducible exact sims_noRoom1
    | with_reducible exact sims_mapM (sims_choose1 _)
    | with_reducible exact sim_typeInfo _
    | with_reducible exact sim_underlying _
    | with_reducible exact sim_sizeOf _
    | with_reducible exact sim_isAgg _
    | with_reducible exact sim_zeroValue _
    | with_reducible exact sim_elemOf _
    | with_reducible exact sim_newRow _ _
    | with_reducible exact sim_newVar _ _
    | with_reducible exact sim_askRoom _
    | with_reducible exact sim_part _ _ _
    | with_reducible exact sim_runtimePanic _
    | with_reducible exact sim_boundsPanic _ _ _ _
    | with_reducible exact sim_asIntOf _
    | with_reducible exact sim_asInt _
    | with_reducible exact sim_asBool _
    | with_reducible exact sim_asAgg _
    | with_reducible exact sim_asAddr _
    | with_reducible exact sim_sureAddr _
    | with_reducible exact sim_loadCellsFrom _ _ _ _
    | with_reducible exact sim_storeCells _ _ _
    | with_reducible exact sim_loadCells _ _
    | with_reducible exact sim_loadVar _ _
    | with_reducible exact sim_storeVar _ _ _
    | with_reducible exact sim_numberAt _
    | with_reducible exact sim_behindNumber _
    | with_reducible exact sim_noView _
    | with_reducible exact sim_mayBeOne _ _
    | with_reducible exact sim_sameAddr _ _
    | with_reducible exact sim_samePointer _ _
    | with_reducible exact sim_intArith _ _ _ _
    | with_reducible exact sim_intDiv _ _ _ _
    | with_reducible exact sim_intBits _ _ _ _
    | with_reducible exact sim_shift _ _ _ _ _
    | with_reducible exact sim_intCmp _ _ _
    | with_reducible exact sim_floatArith _ _ _ _
    | with_reducible exact sim_floatCmp _ _ _ _
    | with_reducible exact sim_floatToFloat _ _ _
    | with_reducible exact sim_floatToInt _ _ _
    | with_reducible exact sim_carith _ _ _ _
    | with_reducible exact sim_ccmp _ _ _ _
    | with_reducible exact sim_cconv _ _ _
    | with_reducible exact sim_cadd _ _
    | with_reducible exact sim_csub _ _
    | with_reducible exact sim_cmul _ _
    | with_reducible exact sim_cquo _ _
    | with_reducible exact sim_cproduct _ _ _ _
    | with_reducible exact sim_ccorrected _ _ _ _ _
    | with_reducible exact sim_cquotient _ _ _ _
    | with_reducible exact sim_complexOp _ _ _ _ _ _
    | with_reducible exact sim_stringOp _ _ _
    | with_reducible exact sim_unary _ _
    | with_reducible exact sim_byteOf _
    | with_reducible exact sim_partAt _ _ _
    | with_reducible exact sim_fieldPlace _ _
    | with_reducible exact sim_twoPlaces _ _
    | with_reducible exact sim_addrSub _ _ _
    | with_reducible exact sim_addrCmp _ _ _
    | with_reducible exact sim_addrMod _ _ _
    | with_reducible exact sim_unsafeAdd _ _ _
    | with_reducible exact sim_asNumber _ _
    | with_reducible exact sim_movedNumber _ _ _
    | with_reducible exact sim_movedPointer _ _ _
    | with_reducible exact sim_typeStr _
    | with_reducible exact sim_equalIn _ _ _ _
    | with_reducible exact sim_equal _ _ _
    | with_reducible refine sim_forIn_array _ _ (fun _ _ => ?_) _
    | with_reducible refine sim_forIn_range _ _ (fun _ _ => ?_) _
    | ((with_reducible refine sims_prog ?_ ?_); (next => (simp only [holdsPacked_pf, stoodInHeld_pf, eqGuardType_pf]; done)))
    | ((with_reducible refine sims_prog ?_ ?_); (next => rfl))
    | with_reducible refine sims_bindM ?_ (fun _ => ?_)
    | with_reducible refine sims_ite ?_ ?_
    | (dsimp only; done) | dsimp only
    | split
    | (show ∀ _, SimS _ _ _; intro _))
theorem sim_eqGuard (op : BinOp) (t : TypeId) (x y : Operand) (a b : Value) : SimS (PF P F) P (eqGuard op t x y a b) := by
  unfold eqGuard
  repeat' (first
    | with_reducible exact sims_pureM _ | with_reducible exact sims_stuck _ | with_reducible exact sims_unsup _ | with_reducible exact sims_goPanic _
    | with_reducible exact sims_load1 _
    | with_reducible exact sims_store1 _ _
    | with_reducible exact sims_new1 _ _
    | with_reducible exact sims_choose1 _
    | with_reducible exact sims_frozen1 _
    | with_reducible exact sims_noRoom1
    | with_reducible exact sims_mapM (sims_choose1 _)
    | with_reducible exact sim_typeInfo _
    | with_reducible exact sim_underlying _
    | with_reducible exact sim_sizeOf _
    | with_reducible exact sim_isAgg _
    | with_reducible exact sim_zeroValue _
    | with_reducible exact sim_elemOf _
    | with_reducible exact sim_newRow _ _
    | with_reducible exact sim_newVar _ _
    | with_reducible exact sim_askRoom _
    | with_reducible exact sim_part _ _ _
    | with_reducible exact sim_runtimePanic _
    | with_reducible exact sim_boundsPanic _ _ _ _
    | with_reducible exact sim_asIntOf _
    | with_reducible exact sim_asInt _
    | with_reducible exact sim_asBool _
    | with_reducible exact sim_asAgg _
    | with_reducible exact sim_asAddr _
    | with_reducible exact sim_sureAddr _
    | with_reducible exact sim_loadCellsFrom _ _ _ _
    | with_reducible exact sim_storeCells _ _ _
    | with_reducible exact sim_loadCells _ _
    | with_reducible exact sim_loadVar _ _
    | with_reducible exact sim_storeVar _ _ _
    | with_reducible exact sim_numberAt _
    | with_reducible exact sim_behindNumber _
    | with_reducible exact sim_noView _
    | with_reducible exact sim_mayBeOne _ _
    | with_reducible exact sim_sameAddr _ _
    | with_reducible exact sim_samePointer _ _
    | with_reducible exact sim_intArith _ _ _ _
    | with_reducible exact sim_intDiv _ _ _ _
    | with_reducible exact sim_intBits _ _ _ _
    | with_reducible exact sim_shift _ _ _ _ _
    | with_reducible exact sim_intCmp _ _ _
    | with_reducible exact sim_floatArith _ _ _ _
    | with_reducible exact sim_floatCmp _ _ _ _
    | with_reducible exact sim_floatToFloat _ _ _
    | with_reducible exact sim_floatToInt _ _ _
    | with_reducible exact sim_carith _ _ _ _
    | with_reducible exact sim_ccmp _ _ _ _
    | with_reducible exact sim_cconv _ _ _
    | with_reducible exact sim_cadd _ _
    | with_reducible exact sim_csub _ _
    | with_reducible exact sim_cmul _ _
    | with_reducible exact sim_cquo _ _
    | with_reducible exact sim_cproduct _ _ _ _
    | with_reducible exact sim_ccorrected _ _ _ _ _
    | with_reducible exact sim_cquotient _ _ _ _
    | with_reducible exact sim_complexOp _ _ _ _ _ _
    | with_reducible exact sim_stringOp _ _ _
    | with_reducible exact sim_unary _ _
    | with_reducible exact sim_byteOf _
    | with_reducible exact sim_partAt _ _ _
    | with_reducible exact sim_fieldPlace _ _
    | with_reducible exact sim_twoPlaces _ _
    | with_reducible exact sim_addrSub _ _ _
    | with_reducible exact sim_addrCmp _ _ _
    | with_reducible exact sim_addrMod _ _ _
    | with_reducible exact sim_unsafeAdd _ _ _
    | with_reducible exact sim_asNumber _ _
    | with_reducible exact sim_movedNumber _ _ _
    | with_reducible exact sim_movedPointer _ _ _
    | with_reducible exact sim_typeStr _
    | with_reducible exact sim_equalIn _ _ _ _
    | with_reducible exact sim_equal _ _ _
    | with_reducible exact sim_eqGuardIn _ _ _ _
    | with_reducible refine sim_forIn_array _ _ (fun _ _ => ?_) _
    | with_reducible refine sim_forIn_range _ _ (fun _ _ => ?_) _
    | ((with_reducible refine sims_prog ?_ ?_); (next => (simp only [holdsPacked_pf, stoodInHeld_pf, eqGuardType_pf]; done)))
    | ((with_reducible refine sims_prog ?_ ?_); (next => rfl))
    | with_reducible refine sims_bindM ?_ (fun _ => ?_)
    | with_reducible refine sims_ite ?_ ?_
    | (dsimp only; done) | dsimp only
    | split
    | (show ∀ _, SimS _ _ _; intro _))
theorem sim_binOp (op : BinOp) (t : TypeId) (x y : Value) : SimS (PF P F) P (binOp op t x y) := by
  unfold binOp
  repeat' (first
    | with_reducible exact sims_pureM _ | with_reducible exact sims_stuck _ | with_reducible exact sims_unsup _ | with_reducible exact sims_goPanic _
    | with_reducible exact sims_load1 _
    | with_reducible exact sims_store1 _ _
    | with_reducible exact sims_new1 _ _
    | with_reducible exact sims_choose1 _
    | with_reducible exact sims_frozen1 _
    | with_reducible exact sims_noRoom1
    | with_reducible exact sims_mapM (sims_choose1 _)
    | with_reducible exact sim_typeInfo _
    | with_reducible exact sim_underlying _
    | with_reducible exact sim_sizeOf _
    | with_reducible exact sim_isAgg _
    | with_reducible exact sim_zeroValue _
    | with_reducible exact sim_elemOf _
    | with_reducible exact sim_newRow _ _
    | with_reducible exact sim_newVar _ _
    | with_reducible exact sim_askRoom _
    | with_reducible exact sim_part _ _ _
    | with_reducible exact sim_runtimePanic _
    | with_reducible exact sim_boundsPanic _ _ _ _
    | with_reducible exact sim_asIntOf _
    | with_reducible exact sim_asInt _
    | with_reducible exact sim_asBool _
    | with_reducible exact sim_asAgg _
    | with_reducible exact sim_asAddr _
    | with_reducible exact sim_sureAddr _
    | with_reducible exact sim_loadCellsFrom _ _ _ _
    | with_reducible exact sim_storeCells _ _ _
    | with_reducible exact sim_loadCells _ _
    | with_reducible exact sim_loadVar _ _
    | with_reducible exact sim_storeVar _ _ _
    | with_reducible exact sim_numberAt _
    | with_reducible exact sim_behindNumber _
    | with_reducible exact sim_noView _
    | with_reducible exact sim_mayBeOne _ _
    | with_reducible exact sim_sameAddr _ _
    | with_reducible exact sim_samePointer _ _
    | with_reducible exact sim_intArith _ _ _ _
    | with_reducible exact sim_intDiv _ _ _ _
    | with_reducible exact sim_intBits _ _ _ _
    | with_reducible exact sim_shift _ _ _ _ _
    | with_reducible exact sim_intCmp _ _ _
    | with_reducible exact sim_floatArith _ _ _ _
    | with_reducible exact sim_floatCmp _ _ _ _
    | with_reducible exact sim_floatToFloat _ _ _
    | with_reducible exact sim_floatToInt _ _ _
    | with_reducible exact sim_carith _ _ _ _
    | with_reducible exact sim_ccmp _ _ _ _
    | with_reducible exact sim_cconv _ _ _
    | with_reducible exact sim_cadd _ _
    | with_reducible exact sim_csub _ _
    | with_reducible exact sim_cmul _ _
    | with_reducible exact sim_cquo _ _
    | with_reducible exact sim_cproduct _ _ _ _
    | with_reducible exact sim_ccorrected _ _ _ _ _
    | with_reducible exact sim_cquotient _ _ _ _
    | with_reducible exact sim_complexOp _ _ _ _ _ _
    | with_reducible exact sim_stringOp _ _ _
    | with_reducible exact sim_unary _ _
    | with_reducible exact sim_byteOf _
    | with_reducible exact sim_partAt _ _ _
    | with_reducible exact sim_fieldPlace _ _
    | with_reducible exact sim_twoPlaces _ _
    | with_reducible exact sim_addrSub _ _ _
    | with_reducible exact sim_addrCmp _ _ _
    | with_reducible exact sim_addrMod _ _ _
    | with_reducible exact sim_unsafeAdd _ _ _
    | with_reducible exact sim_asNumber _ _
    | with_reducible exact sim_movedNumber _ _ _
    | with_reducible exact sim_movedPointer _ _ _
    | with_reducible exact sim_typeStr _
    | with_reducible exact sim_equalIn _ _ _ _
    | with_reducible exact sim_equal _ _ _
    | with_reducible exact sim_eqGuardIn _ _ _ _
    | with_reducible exact sim_eqGuard _ _ _ _ _ _
    | with_reducible refine sim_forIn_array _ _ (fun _ _ => ?_) _
    | with_reducible refine sim_forIn_range _ _ (fun _ _ => ?_) _
    | ((with_reducible refine sims_prog ?_ ?_); (next => (simp only [holdsPacked_pf, stoodInHeld_pf, eqGuardType_pf]; done)))
    | ((with_reducible refine sims_prog ?_ ?_); (next => rfl))
    | with_reducible refine sims_bindM ?_ (fun _ => ?_)
    | with_reducible refine sims_ite ?_ ?_
    | (dsimp only; done) | dsimp only
    | split
    | (show ∀ _, SimS _ _ _; intro _))
theorem sim_lenOf (v : Value) : SimS (PF P F) P (Builtin.lenOf v) := by
  unfold Builtin.lenOf
  repeat' (first
    | with_reducible exact sims_pureM _ | with_reducible exact sims_stuck _ | with_reducible exact sims_unsup _ | with_reducible exact sims_goPanic _
    | with_reducible exact sims_load1 _
    | with_reducible exact sims_store1 _ _
    | with_reducible exact sims_new1 _ _
    | with_reducible exact sims_choose1 _
    | with_reducible exact sims_frozen1 _
    | with_reducible exact sims_noRoom1
    | with_reducible exact sims_mapM (sims_choose1 _)
    | with_reducible exact sim_typeInfo _
    | with_reducible exact sim_underlying _
    | with_reducible exact sim_sizeOf _
    | with_reducible exact sim_isAgg _
    | with_reducible exact sim_zeroValue _
    | with_reducible exact sim_elemOf _
    | with_reducible exact sim_newRow _ _
    | with_reducible exact sim_newVar _ _
    | with_reducible exact sim_askRoom _
    | with_reducible exact sim_part _ _ _
    | with_reducible exact sim_runtimePanic _
    | with_reducible exact sim_boundsPanic _ _ _ _
    | with_reducible exact sim_asIntOf _
    | with_reducible exact sim_asInt _
    | with_reducible exact sim_asBool _
    | with_reducible exact sim_asAgg _
    | with_reducible exact sim_asAddr _
    | with_reducible exact sim_sureAddr _
    | with_reducible exact sim_loadCellsFrom _ _ _ _
    | with_reducible exact sim_storeCells _ _ _
    | with_reducible exact sim_loadCells _ _
    | with_reducible exact sim_loadVar _ _
    | with_reducible exact sim_storeVar _ _ _
    | with_reducible exact sim_numberAt _
    | with_reducible exact sim_behindNumber _
    | with_reducible exact sim_noView _
    | with_reducible exact sim_mayBeOne _ _
    | with_reducible exact sim_sameAddr _ _
    | with_reducible exact sim_samePointer _ _
    | with_reducible exact sim_intArith _ _ _ _
    | with_reducible exact sim_intDiv _ _ _ _
    | with_reducible exact sim_intBits _ _ _ _
    | with_reducible exact sim_shift _ _ _ _ _
    | with_reducible exact sim_intCmp _ _ _
    | with_reducible exact sim_floatArith _ _ _ _
    | with_reducible exact sim_floatCmp _ _ _ _
    | with_reducible exact sim_floatToFloat _ _ _
    | with_reducible exact sim_floatToInt _ _ _
    | with_reducible exact sim_carith _ _ _ _
    | with_reducible exact sim_ccmp _ _ _ _
    | with_reducible exact sim_cconv _ _ _
    | with_reducible exact sim_cadd _ _
    | with_reducible exact sim_csub _ _
    | with_reducible exact sim_cmul _ _
    | with_reducible exact sim_cquo _ _
    | with_reducible exact sim_cproduct _ _ _ _
    | with_reducible exact sim_ccorrected _ _ _ _ _
    | with_reducible exact sim_cquotient _ _ _ _
    | with_reducible exact sim_complexOp _ _ _ _ _ _
    | with_reducible exact sim_stringOp _ _ _
    | with_reducible exact sim_unary _ _
    | with_reducible exact sim_byteOf _
    | with_reducible exact sim_partAt _ _ _
    | with_reducible exact sim_fieldPlace _ _
    | with_reducible exact sim_twoPlaces _ _
    | with_reducible exact sim_addrSub _ _ _
    | with_reducible exact sim_addrCmp _ _ _
    | with_reducible exact sim_addrMod _ _ _
    | with_reducible exact sim_unsafeAdd _ _ _
    | with_reducible exact sim_asNumber _ _
    | with_reducible exact sim_movedNumber _ _ _
    | with_reducible exact sim_movedPointer _ _ _
    | with_reducible exact sim_typeStr _
    | with_reducible exact sim_equalIn _ _ _ _
    | with_reducible exact sim_equal _ _ _
    | with_reducible exact sim_eqGuardIn _ _ _ _
    | with_reducible exact sim_eqGuard _ _ _ _ _ _
    | with_reducible exact sim_binOp _ _ _ _
    | with_reducible refine sim_forIn_array _ _ (fun _ _ => ?_) _
    | with_reducible refine sim_forIn_range _ _ (fun _ _ => ?_) _
    | ((with_reducible refine sims_prog ?_ ?_); (next => (simp only [holdsPacked_pf, stoodInHeld_pf, eqGuardType_pf]; done)))
    | ((with_reducible refine sims_prog ?_ ?_); (next => rfl))
    | with_reducible refine sims_bindM ?_ (fun _ => ?_)
    | with_reducible refine sims_ite ?_ ?_
    | (dsimp only; done) | dsimp only
    | split
    | (show ∀ _, SimS _ _ _; intro _))
theorem sim_firstCells (s n : Nat) (v : Value) : SimS (PF P F) P (Builtin.firstCells s n v) := by
  unfold Builtin.firstCells
  repeat' (first
    | with_reducible exact sims_pureM _ | with_reducible exact sims_stuck _ | with_reducible exact sims_unsup _ | with_reducible exact sims_goPanic _
    | with_reducible exact sims_load1 _
    | with_reducible exact sims_store1 _ _
    | with_reducible exact sims_new1 _ _
    | with_reducible exact sims_choose1 _
    | with_reducible exact sims_frozen1 _
    | with_reducible exact sims_noRoom1
    | with_reducible exact sims_mapM (sims_choose1 _)
    | with_reducible exact sim_typeInfo _
    | with_reducible exact sim_underlying _
    | with_reducible exact sim_sizeOf _
    | with_reducible exact sim_isAgg _
    | with_reducible exact sim_zeroValue _
    | with_reducible exact sim_elemOf _
    | with_reducible exact sim_newRow _ _
    | with_reducible exact sim_newVar _ _
    | with_reducible exact sim_askRoom _
    | with_reducible exact sim_part _ _ _
    | with_reducible exact sim_runtimePanic _
    | with_reducible exact sim_boundsPanic _ _ _ _
    | with_reducible exact sim_asIntOf _
    | with_reducible exact sim_asInt _
    | with_reducible exact sim_asBool _
    | with_reducible exact sim_asAgg _
    | with_reducible exact sim_asAddr _
    | with_reducible exact sim_sureAddr _
    | with_reducible exact sim_loadCellsFrom _ _ _ _
    | with_reducible exact sim_storeCells _ _ _
    | with_reducible exact sim_loadCells _ _
    | with_reducible exact sim_loadVar _ _
    | with_reducible exact sim_storeVar _ _ _
    | with_reducible exact sim_numberAt _
    | with_reducible exact sim_behindNumber _
    | with_reducible exact sim_noView _
    | with_reducible exact sim_mayBeOne _ _
    | with_reducible exact sim_sameAddr _ _
    | with_reducible exact sim_samePointer _ _
    | with_reducible exact sim_intArith _ _ _ _
    | with_reducible exact sim_intDiv _ _ _ _
    | with_reducible exact sim_intBits _ _ _ _
    | with_reducible exact sim_shift _ _ _ _ _
    | with_reducible exact sim_intCmp _ _ _
    | with_reducible exact sim_floatArith _ _ _ _
    | with_reducible exact sim_floatCmp _ _ _ _
    | with_reducible exact sim_floatToFloat _ _ _
    | with_reducible exact sim_floatToInt _ _ _
    | with_reducible exact sim_carith _ _ _ _
    | with_reducible exact sim_ccmp _ _ _ _
    | with_reducible exact sim_cconv _ _ _
    | with_reducible exact sim_cadd _ _
    | with_reducible exact sim_csub _ _
    | with_reducible exact sim_cmul _ _
    | with_reducible exact sim_cquo _ _
    | with_reducible exact sim_cproduct _ _ _ _
    | with_reducible exact sim_ccorrected _ _ _ _ _
    | with_reducible exact sim_cquotient _ _ _ _
    | with_reducible exact sim_complexOp _ _ _ _ _ _
    | with_reducible exact sim_stringOp _ _ _
    | with_reducible exact sim_unary _ _
    | with_reducible exact sim_byteOf _
    | with_reducible exact sim_partAt _ _ _
    | with_reducible exact sim_fieldPlace _ _
    | with_reducible exact sim_twoPlaces _ _
    | with_reducible exact sim_addrSub _ _ _
    | with_reducible exact sim_addrCmp _ _ _
    | with_reducible exact sim_addrMod _ _ _
    | with_reducible exact sim_unsafeAdd _ _ _
    | with_reducible exact sim_asNumber _ _
    | with_reducible exact sim_movedNumber _ _ _
    | with_reducible exact sim_movedPointer _ _ _
    | with_reducible exact sim_typeStr _
    | with_reducible exact sim_equalIn _ _ _ _
    | with_reducible exact sim_equal _ _ _
    | with_reducible exact sim_eqGuardIn _ _ _ _
    | with_reducible exact sim_eqGuard _ _ _ _ _ _
    | with_reducible exact sim_binOp _ _ _ _
    | with_reducible exact sim_lenOf _
    | with_reducible refine sim_forIn_array _ _ (fun _ _ => ?_) _
    | with_reducible refine sim_forIn_range _ _ (fun _ _ => ?_) _
    | ((with_reducible refine sims_prog ?_ ?_); (next => (simp only [holdsPacked_pf, stoodInHeld_pf, eqGuardType_pf]; done)))
    | ((with_reducible refine sims_prog ?_ ?_); (next => rfl))
    | with_reducible refine sims_bindM ?_ (fun _ => ?_)
    | with_reducible refine sims_ite ?_ ?_
    | (dsimp only; done) | dsimp only
    | split
    | (show ∀ _, SimS _ _ _; intro _))
end
end Go.Proofs.YtcomppiglhibkaaGreatDoor
