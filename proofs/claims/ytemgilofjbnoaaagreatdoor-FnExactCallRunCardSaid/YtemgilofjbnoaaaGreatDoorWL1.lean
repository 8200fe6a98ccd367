/- Texts of this claim, joined: Laid Tied. -/
import Derived.Test.YtemgilofjbnoaaaGreatDoorRows
import Derived.Conc.LeavingOf
import Derived.Stop.LaidErr
import Derived.Stop.Joined
import Derived.Handed
import Derived.LaidLaws
import Derived.OpenVars
import Derived.Test.YtemgilofjbnoaaaGreatDoorCards
import Derived.Test.YtemgilofjbnoaaaGreatDoorTie
import Derived.SevenTiedAt
import Derived.Test.YtemgilofjbnoaaaGreatDoorWB4
import Derived.Test.YtemgilofjbnoaaaGreatDoorWB1
import Derived.Test.YtemgilofjbnoaaaGreatDoorWP1
set_option linter.unusedSimpArgs false
set_option linter.unusedVariables false
namespace Go.Proofs.YtemgilofjbnoaaaGreatDoor
open Go Go.Conc Go.ChangeShapes Go.WideShapes Go.ChangeAt Go.RowKit
set_option linter.unusedVariables false
theorem leaving_and {H : Type} {enc : TypeId × Value → H} {a : Assume} {C : Checked} {os : Os} {f : FuncId} {fn : Func} {s : ChangeSpec} {conds : List PathCond} {apart fresh handsOn again : Bool} {X : World → Array Value → Prop}
    (hX : ∀ (w w' : World) (args : Array Value), w.heap = w'.heap → X w args → X w' args)
    (own : ownKnob C.prog.godebug = none) (started : os.Started) (hfn : C.prog.funcs[f]? = some fn)
    (witness : ∃ (w : World) (tape : Tape) (i : Input), w.os = os ∧ (w.forCall tape i).Shaped C.prog ∧ i.vars = [] ∧ Input.okWide C.prog (w.forCall tape i) .any w.heap.size f i ∧
      ((s.pre enc C.prog fn conds apart (w.forCall tape i).memory i.args ∧ X (w.forCall tape i).memory i.args) ∧ sizedMet enc C.prog fn (OpenSpec.ofChange s) apart (w.forCall tape i).memory i.args) ∧ a.holds C.prog (lone (Frame.enter C.prog f i.args .normal) [] (w.forCall tape i)))
    (runs : ∀ (W : World) (base : Nat) (args : Array Value) (ds gs : List (DataW H)) (before : List MemPlace),
      (∀ (j : Nat) t v, fn.params[j]? = some t → args[j]? = some v → Value.okWide C.prog W .any base t v) →
      DataW.Whole enc C.prog fn.params.toList s.vars apart W args.toList ds gs before → X W args →
      ∃ M last o w' t', runNT C.prog (M + 1) (solo (G (Frame.enter C.prog f args .normal) []) W) #[] = (.ended o w', t') ∧ runN C.prog M (solo (G (Frame.enter C.prog f args .normal) []) W) = .next last ∧
        step C.prog last = .ended o w' ∧ Conc.Good C.prog (fun v W' => s.post enc C.prog fn apart fresh handsOn again W args v W') last o w' t') :
    ReturnsInLeavingWide a C os f .any (fun w args => (s.pre enc C.prog fn conds apart w args ∧ X w args) ∧ sizedMet enc C.prog fn (OpenSpec.ofChange s) apart w args) (s.post enc C.prog fn apart fresh handsOn again) := by
  refine returnsInLeavingWide_of_good own started witness ?_
  intro w tape i _ _ _ hok hpre hholds
  obtain ⟨_, _, _, fn', hfn', _, _, _, _, hval⟩ := hok
  have e : fn' = fn := Option.some.inj (hfn'.symm.trans hfn)
  subst e
  obtain ⟨⟨⟨ds, gs, before, hw, hc⟩, hx⟩, hz⟩ := hpre
  have hw' := DataW.Whole.of_heap (w' := w.forCall tape i) (by rfl) hw
  obtain ⟨M, last, o, w', t', h1, h2, h3, h4⟩ := runs (w.forCall tape i) w.heap.size i.args ds gs before hval hw' (hX _ _ _ (by rfl) hx)
  exact ⟨M, last, o, w', t', h1, h2, h3, h4.mono fun v hp => ChangeSpec.post_blind hp⟩
def laidList : List (String × DataW Unit) := [("loop.example/chainfiles/impl.errTake", Rows.laid_loop_example_chainfiles_impl_errTake)]
def errS : ByteArray := ⟨#[116, 104, 101, 32, 110, 111, 100, 101, 32, 99, 97, 110, 32, 110, 111, 116, 32, 116, 97, 107, 101, 32, 116, 104, 101, 32, 117, 112, 100, 97, 116, 101]⟩
noncomputable def low : Nat := (World.holding Tryz.prog default ⟨#[], #[], []⟩).heap.size
noncomputable def laidWorld (os : Os) : World :=
  let w0 := World.holding Tryz.prog os ⟨#[.cells #[.string errS] 235], #[], []⟩
  { w0 with heap := w0.heap.modify 0 fun
      | .cells _ t frozen => .cells #[.iface 210 (.pointer (some ⟨low, 0, none⟩))] t frozen
      | o => o }
theorem laid_met (os : Os) (args : Array Value) : laidMet Tryz.prog laidList ((laidWorld os).forCall (fun _ _ => 0) ⟨#[], args, []⟩).memory :=
  laidMet_of_run (ps := [.cell 0 0, .cell low 0]) 8 (by kernel_rfl) (by kernel_rfl) (by kernel_rfl)
theorem laid_metH {os : Os} {args : Array Value} : laidMetH Tryz.prog laidList ((laidWorld os).forCall (fun _ _ => 0) ⟨#[], args, []⟩).memory := laid_met os args
theorem star : "*" ++ "errors.errorString" = "*errors.errorString" := by decide
theorem errOnly (u : TypeId) (h : Tryz.prog.typeName? 3 u = some "*errors.errorString") : u = 210 :=
  typeName_ptr_named (nm := "errors.errorString") (by rw [star]; kernel_rfl) (by kernel_rfl) (by decide) u (by rw [star]; exact h)
theorem err_of_laid {W : World} (h : laidMetH Tryz.prog laidList W) : ∃ a, ErrAt a W := by
  have h' : laidMet Tryz.prog laidList W := h
  have hg : Tryz.prog.globalNamed "loop.example/chainfiles/impl.errTake" = some 0 := by kernel_rfl
  obtain ⟨a, s, hv, _⟩ := laid_sentinel h' hg (ti := 132) (by kernel_rfl) Tryz.underlying132 (tp := 210) (te := 235) (ts := 9) errOnly Tryz.underlying210 Tryz.underlying235 rfl rfl Tryz.underlying9 (by kernel_rfl) (by kernel_rfl)
  have hc := World.var?_cell hg hv 0
  refine ⟨a, by simpa using hc, ?_⟩
  by_cases hlt : 0 < W.heap.size
  · exact hlt
  · unfold World.var? at hv
    rw [hg] at hv
    simp [Array.getElem?_eq_none (Nat.le_of_not_lt hlt)] at hv
theorem ErrAt.brk {a : Addr} {W w : World} (hw : w.heap = (brk W).heap) (h : ErrAt a W) : ErrAt a w := ⟨brk_cell hw h.1, by rw [brk_size hw]; exact h.2⟩
theorem BelowT.trodVars {H : Type} {enc : TypeId × Value → H} {W W' : World} (h : BelowT W W') {gs : List (DataW H)} {ps : List MemPlace} (hV : DataW.TrodVars enc Tryz.prog W (fun _ => true) ["loop.example/chainfiles/impl.errTake"] gs ps) :
    DataW.TrodVars enc Tryz.prog W' (fun b => decide (b < W.heap.size)) ["loop.example/chainfiles/impl.errTake"] gs ps :=
  DataW.TrodVars.of_heap (w := { W' with tape := W.tape }) (w' := W') rfl (Below.trodVars laidOut h.below (by kernel_rfl) hV)
theorem trodVars_len {H : Type} {enc : TypeId × Value → H} {W : World} {gs : List (DataW H)} {ps : List MemPlace} {n : String} (hV : DataW.TrodVars enc Tryz.prog W (fun _ => true) [n] gs ps) : ∃ g, gs = [g] := by
  obtain ⟨_, _, _, _, d, _, e, _⟩ := trodVars_one hV
  exact ⟨d, e⟩
end Go.Proofs.YtemgilofjbnoaaaGreatDoor
namespace Go.Proofs.YtemgilofjbnoaaaGreatDoor
open Go
theorem tied_goes (Lk : Looks) {p : Pinned} {s : OpenSpec} {c : OpenClaim} (kinds : List LaidKind) (tests : Bool) (har : Bool × String) (lk : Bool)
    (hc : c.holds p s) (hw : c.wfByText s = true) (htie : c.laidByTextAt Lk p kinds tests)
    (hst : c.start = .entering) (hnb : c.noBlocks = false ∧ c.again = false) (hm : p.checked.prog.mainIs = some (har.1, har.2.toList)) (hn : (!har.1 && har.2.isEmpty && !lk) = false)
    (hl : ∀ f fn, p.checked.prog.funcNamed c.func = some f → p.checked.prog.funcs[f]? = some fn → lk = p.checked.prog.looks [] ∧ ∀ (j : Nat) t, fn.params[j]? = some t → p.checked.prog.wantsStandIn t = false)
    (hg : true = c.goesBy p.checked.prog) :
    Claim7.holds p (.plain s) { stood := { row := c, standIns := [], harness := har, looks := lk }, kinds := [], alts := [], goes := true, laidByText := true, laidKinds := kinds, laidTests := tests, laidLooks := Lk } := by
  have h6 : ∀ r : OpenClaim, Claim7.isSixth { stood := { row := r, standIns := [], harness := har, looks := lk }, kinds := [] } = false := fun r => by simpa [Claim7.isSixth] using hn
  exact ⟨Claim7.tied_new_at Lk kinds tests (Claim7.new_of_sixth hc har lk hst hnb hm (h6 c) hl) hw, fun D hD => (by cases hD), htie, (fun h => by cases h), hg⟩
end Go.Proofs.YtemgilofjbnoaaaGreatDoor
