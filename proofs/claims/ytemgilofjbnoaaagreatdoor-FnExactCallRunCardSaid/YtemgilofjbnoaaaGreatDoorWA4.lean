/- Texts of this claim, joined: Mo. -/
import Derived.Test.YtemgilofjbnoaaaGreatDoorWA3
namespace Go.Proofs.YtemgilofjbnoaaaGreatDoor
open Go Go.Conc
set_option linter.unusedVariables false
set_option linter.unusedSimpArgs false
noncomputable def Mo.prog : Program := PF Tryz.prog FM
section
variable {P : Program} {F : Array Func} {α : Type}
theorem pf_und (t : TypeId) (w : World) : (underlying t).run (PF P F) w = (underlying t).run P w := by
  unfold underlying
  simp
  show Sem.run (PF P F) (match P.underlying t with | some d => pure d | none => stuck "no such type") w = _
  cases P.underlying t <;> simp
theorem pf_typeInfo_ (t : TypeId) (w : World) : (typeInfo t).run (PF P F) w = (typeInfo t).run P w := by
  unfold typeInfo
  simp
  show Sem.run (PF P F) (match P.info? t with | some d => pure d | none => stuck "no such type") w = _
  cases P.info? t <;> simp
theorem pf_isAgg_ (t : TypeId) (w : World) : (isAgg t).run (PF P F) w = (isAgg t).run P w := by
  unfold isAgg
  rw [Sem.run_bind, Sem.run_bind, pf_und]
  cases (underlying t).run P w with
  | ok d w' => cases d <;> simp
  | halt x w' => simp
theorem pf_sizeOf_ (t : TypeId) (w : World) : (sizeOf t).run (PF P F) w = (sizeOf t).run P w := by
  unfold sizeOf
  rw [Sem.run_bind, Sem.run_bind, pf_typeInfo_]
  cases (typeInfo t).run P w <;> simp
theorem pf_zeroValue_ (t : TypeId) (w : World) : (zeroValue t).run (PF P F) w = (zeroValue t).run P w := by
  unfold zeroValue
  rw [Sem.run_bind, Sem.run_bind, pf_typeInfo_]
  cases (typeInfo t).run P w with
  | ok d w' => simp; cases d.zero <;> simp
  | halt x w' => simp
theorem pv_underlying (P : Program) (F : Array Func) (t : TypeId) : (PF P F).underlying t = P.underlying t := rfl
theorem pv_info (P : Program) (F : Array Func) (t : TypeId) : (PF P F).info? t = P.info? t := rfl
theorem pv_types (P : Program) (F : Array Func) : (PF P F).types = P.types := rfl
theorem pv_depth (P : Program) (F : Array Func) : (PF P F).depth = P.depth := rfl
theorem pv_rt (P : Program) (F : Array Func) : (PF P F).rt = P.rt := rfl
theorem pf_eqGuard (d : Nat) : ∀ t : TypeId, (PF P F).eqGuardType d t = P.eqGuardType d t := by
  induction d with
  | zero => intro t; rfl
  | succ d ih =>
    intro t
    unfold Program.eqGuardType
    have e : (PF P F).underlying t = P.underlying t := rfl
    rw [e]
    cases P.underlying t with
    | none => rfl
    | some x => cases x <;> simp [ih]
theorem pf_alike (n : Nat) : ∀ t u : TypeId, (PF P F).alikeButTags n t u = P.alikeButTags n t u := by
  induction n with
  | zero => intro t u; rfl
  | succ n ih =>
    intro t u
    have e : ∀ t, (PF P F).info? t = P.info? t := fun _ => rfl
    unfold Program.alikeButTags
    simp only [e, ih]
theorem pf_undId (t : TypeId) : (PF P F).underlyingId t = P.underlyingId t := rfl
theorem pf_stood (t : TypeId) : (PF P F).stoodInHeld t = P.stoodInHeld t := by
  have e : (PF P F).stoodInAs t = P.stoodInAs t := by
    unfold Program.stoodInAs
    have e1 : (PF P F).cutTypes = P.cutTypes := rfl
    simp only [pv_underlying, pv_depth, pf_undId, pf_alike, e1]
  unfold Program.stoodInHeld
  rw [e, pv_info]
theorem pf_call {f : FuncId} {g : Func} (h : F[f]? = some g) (hn : (g.name == "runtime.NumGoroutine") = false) (hb : g.body.isNone = false) (args : Array Value) (w : World) : (callFunc f args).run (PF P F) w = .ok (.enter f args) w := by
  have h2 : ¬ g.body = none := by cases hx : g.body <;> simp_all
  have h1 : ¬ g.name = "runtime.NumGoroutine" := by simpa using hn
  unfold callFunc
  simp [show (PF P F).funcs = F from rfl, h, h1, h2]
end
@[go_sem] theorem mo_und (t : TypeId) (w : World) : (underlying t).run Mo.prog w = (underlying t).run Tryz.prog w := pf_und t w
@[go_sem] theorem mo_typeInfo (t : TypeId) (w : World) : (typeInfo t).run Mo.prog w = (typeInfo t).run Tryz.prog w := pf_typeInfo_ t w
@[go_sem] theorem mo_isAgg (t : TypeId) (w : World) : (isAgg t).run Mo.prog w = (isAgg t).run Tryz.prog w := pf_isAgg_ t w
@[go_sem] theorem mo_sizeOf (t : TypeId) (w : World) : (Go.sizeOf t).run Mo.prog w = (Go.sizeOf t).run Tryz.prog w := pf_sizeOf_ t w
@[go_sem] theorem mo_zeroValue (t : TypeId) (w : World) : (zeroValue t).run Mo.prog w = (zeroValue t).run Tryz.prog w := pf_zeroValue_ t w
@[go_sem] theorem mo_underlying (t : TypeId) : Mo.prog.underlying t = Tryz.prog.underlying t := pv_underlying _ _ t
@[go_sem] theorem mo_info (t : TypeId) : Mo.prog.info? t = Tryz.prog.info? t := pv_info _ _ t
@[go_sem] theorem mo_types : Mo.prog.types = Tryz.prog.types := pv_types _ _
@[go_sem] theorem mo_depth : Mo.prog.depth = Tryz.prog.depth := pv_depth _ _
@[go_sem] theorem mo_rt : Mo.prog.rt = Tryz.prog.rt := pv_rt _ _
@[go_sem] theorem mo_eqGuard (d : Nat) (t : TypeId) : Mo.prog.eqGuardType d t = Tryz.prog.eqGuardType d t := pf_eqGuard d t
@[go_sem] theorem mo_stoodIn (t : TypeId) : Mo.prog.stoodInHeld t = Tryz.prog.stoodInHeld t := pf_stood t
theorem Mo.underlying23 : Mo.prog.underlying 23 = some (.slice 78) := (mo_underlying _).trans Tryz.underlying23
theorem Mo.underlying76 : Mo.prog.underlying 76 = some (.slice 28) := (mo_underlying _).trans Tryz.underlying76
theorem Mo.underlying74 : Mo.prog.underlying 74 = some (.slice 3) := (mo_underlying _).trans Tryz.underlying74
theorem Mo.underlying4 : Mo.prog.underlying 4 = some (.bool) := (mo_underlying _).trans Tryz.underlying4
theorem Mo.underlying3 : Mo.prog.underlying 3 = some (.int .i64) := (mo_underlying _).trans Tryz.underlying3
theorem Mo.underlying42 : Mo.prog.underlying 42 = some (.slice 109) := (mo_underlying _).trans Tryz.underlying42
theorem Mo.underlying107 : Mo.prog.underlying 107 = some (.slice 46) := (mo_underlying _).trans Tryz.underlying107
theorem Mo.underlying115 : Mo.prog.underlying 115 = some (.slice 118) := (mo_underlying _).trans Tryz.underlying115
theorem Mo.underlying26 : Mo.prog.underlying 26 = some (.slice 30) := (mo_underlying _).trans Tryz.underlying26
theorem Mo.underlying45 : Mo.prog.underlying 45 = some (.slice 48) := (mo_underlying _).trans Tryz.underlying45
theorem mo_funcs : Mo.prog.funcs = FM := pf_funcs _ _
theorem mo_fn {f : FuncId} {g : Func} (h : FM[f]? = some g) : Mo.prog.funcs[f]? = some g := by rw [mo_funcs]; exact h
theorem fmo3 : FM[3]? = some Tryz.f3 := fm_of Tryz.func3 (by decide) (by kernel_rfl)
theorem Mo.func3 : Mo.prog.funcs[3]? = some Tryz.f3 := mo_fn fmo3
@[go_sem] theorem Mo.call3 (args : Array Value) (w : World) : (callFunc 3 args).run Mo.prog w = .ok (.enter 3 args) w := pf_call fmo3 (by kernel_rfl) (by kernel_rfl) args w
theorem fmo4 : FM[4]? = some Tryz.f4 := fm_of Tryz.func4 (by decide) (by kernel_rfl)
theorem Mo.func4 : Mo.prog.funcs[4]? = some Tryz.f4 := mo_fn fmo4
@[go_sem] theorem Mo.call4 (args : Array Value) (w : World) : (callFunc 4 args).run Mo.prog w = .ok (.enter 4 args) w := pf_call fmo4 (by kernel_rfl) (by kernel_rfl) args w
theorem fmo5 : FM[5]? = some Tryz.f5 := fm_of Tryz.func5 (by decide) (by kernel_rfl)
theorem Mo.func5 : Mo.prog.funcs[5]? = some Tryz.f5 := mo_fn fmo5
@[go_sem] theorem Mo.call5 (args : Array Value) (w : World) : (callFunc 5 args).run Mo.prog w = .ok (.enter 5 args) w := pf_call fmo5 (by kernel_rfl) (by kernel_rfl) args w
theorem fmo6 : FM[6]? = some Tryz.f6 := fm_of Tryz.func6 (by decide) (by kernel_rfl)
theorem Mo.func6 : Mo.prog.funcs[6]? = some Tryz.f6 := mo_fn fmo6
@[go_sem] theorem Mo.call6 (args : Array Value) (w : World) : (callFunc 6 args).run Mo.prog w = .ok (.enter 6 args) w := pf_call fmo6 (by kernel_rfl) (by kernel_rfl) args w
theorem fmo7 : FM[7]? = some Tryz.f7 := fm_of Tryz.func7 (by decide) (by kernel_rfl)
theorem Mo.func7 : Mo.prog.funcs[7]? = some Tryz.f7 := mo_fn fmo7
@[go_sem] theorem Mo.call7 (args : Array Value) (w : World) : (callFunc 7 args).run Mo.prog w = .ok (.enter 7 args) w := pf_call fmo7 (by kernel_rfl) (by kernel_rfl) args w
theorem fmo8 : FM[8]? = some Tryz.f8 := fm_of Tryz.func8 (by decide) (by kernel_rfl)
theorem Mo.func8 : Mo.prog.funcs[8]? = some Tryz.f8 := mo_fn fmo8
@[go_sem] theorem Mo.call8 (args : Array Value) (w : World) : (callFunc 8 args).run Mo.prog w = .ok (.enter 8 args) w := pf_call fmo8 (by kernel_rfl) (by kernel_rfl) args w
theorem fmo9 : FM[9]? = some Tryz.f9 := fm_of Tryz.func9 (by decide) (by kernel_rfl)
theorem Mo.func9 : Mo.prog.funcs[9]? = some Tryz.f9 := mo_fn fmo9
@[go_sem] theorem Mo.call9 (args : Array Value) (w : World) : (callFunc 9 args).run Mo.prog w = .ok (.enter 9 args) w := pf_call fmo9 (by kernel_rfl) (by kernel_rfl) args w
theorem fmo10 : FM[10]? = some Tryz.f10 := fm_of Tryz.func10 (by decide) (by kernel_rfl)
theorem Mo.func10 : Mo.prog.funcs[10]? = some Tryz.f10 := mo_fn fmo10
@[go_sem] theorem Mo.call10 (args : Array Value) (w : World) : (callFunc 10 args).run Mo.prog w = .ok (.enter 10 args) w := pf_call fmo10 (by kernel_rfl) (by kernel_rfl) args w
theorem fmo11 : FM[11]? = some Tryz.f11 := fm_of Tryz.func11 (by decide) (by kernel_rfl)
theorem Mo.func11 : Mo.prog.funcs[11]? = some Tryz.f11 := mo_fn fmo11
@[go_sem] theorem Mo.call11 (args : Array Value) (w : World) : (callFunc 11 args).run Mo.prog w = .ok (.enter 11 args) w := pf_call fmo11 (by kernel_rfl) (by kernel_rfl) args w
theorem fmo12 : FM[12]? = some Tryz.f12 := fm_of Tryz.func12 (by decide) (by kernel_rfl)
theorem Mo.func12 : Mo.prog.funcs[12]? = some Tryz.f12 := mo_fn fmo12
@[go_sem] theorem Mo.call12 (args : Array Value) (w : World) : (callFunc 12 args).run Mo.prog w = .ok (.enter 12 args) w := pf_call fmo12 (by kernel_rfl) (by kernel_rfl) args w
theorem fmo13 : FM[13]? = some Tryz.f13 := fm_of Tryz.func13 (by decide) (by kernel_rfl)
theorem Mo.func13 : Mo.prog.funcs[13]? = some Tryz.f13 := mo_fn fmo13
@[go_sem] theorem Mo.call13 (args : Array Value) (w : World) : (callFunc 13 args).run Mo.prog w = .ok (.enter 13 args) w := pf_call fmo13 (by kernel_rfl) (by kernel_rfl) args w
theorem fmo14 : FM[14]? = some Tryz.f14 := fm_of Tryz.func14 (by decide) (by kernel_rfl)
theorem Mo.func14 : Mo.prog.funcs[14]? = some Tryz.f14 := mo_fn fmo14
@[go_sem] theorem Mo.call14 (args : Array Value) (w : World) : (callFunc 14 args).run Mo.prog w = .ok (.enter 14 args) w := pf_call fmo14 (by kernel_rfl) (by kernel_rfl) args w
theorem fmo15 : FM[15]? = some Tryz.f15 := fm_of Tryz.func15 (by decide) (by kernel_rfl)
theorem Mo.func15 : Mo.prog.funcs[15]? = some Tryz.f15 := mo_fn fmo15
@[go_sem] theorem Mo.call15 (args : Array Value) (w : World) : (callFunc 15 args).run Mo.prog w = .ok (.enter 15 args) w := pf_call fmo15 (by kernel_rfl) (by kernel_rfl) args w
theorem fmo16 : FM[16]? = some Tryz.f16 := fm_of Tryz.func16 (by decide) (by kernel_rfl)
theorem Mo.func16 : Mo.prog.funcs[16]? = some Tryz.f16 := mo_fn fmo16
@[go_sem] theorem Mo.call16 (args : Array Value) (w : World) : (callFunc 16 args).run Mo.prog w = .ok (.enter 16 args) w := pf_call fmo16 (by kernel_rfl) (by kernel_rfl) args w
theorem fmo17 : FM[17]? = some Tryz.f17 := fm_of Tryz.func17 (by decide) (by kernel_rfl)
theorem Mo.func17 : Mo.prog.funcs[17]? = some Tryz.f17 := mo_fn fmo17
@[go_sem] theorem Mo.call17 (args : Array Value) (w : World) : (callFunc 17 args).run Mo.prog w = .ok (.enter 17 args) w := pf_call fmo17 (by kernel_rfl) (by kernel_rfl) args w
theorem fmo18 : FM[18]? = some Tryz.f18 := fm_of Tryz.func18 (by decide) (by kernel_rfl)
theorem Mo.func18 : Mo.prog.funcs[18]? = some Tryz.f18 := mo_fn fmo18
@[go_sem] theorem Mo.call18 (args : Array Value) (w : World) : (callFunc 18 args).run Mo.prog w = .ok (.enter 18 args) w := pf_call fmo18 (by kernel_rfl) (by kernel_rfl) args w
theorem fmo19 : FM[19]? = some Tryz.f19 := fm_of Tryz.func19 (by decide) (by kernel_rfl)
theorem Mo.func19 : Mo.prog.funcs[19]? = some Tryz.f19 := mo_fn fmo19
@[go_sem] theorem Mo.call19 (args : Array Value) (w : World) : (callFunc 19 args).run Mo.prog w = .ok (.enter 19 args) w := pf_call fmo19 (by kernel_rfl) (by kernel_rfl) args w
theorem fmo20 : FM[20]? = some Tryz.f20 := fm_of Tryz.func20 (by decide) (by kernel_rfl)
theorem Mo.func20 : Mo.prog.funcs[20]? = some Tryz.f20 := mo_fn fmo20
@[go_sem] theorem Mo.call20 (args : Array Value) (w : World) : (callFunc 20 args).run Mo.prog w = .ok (.enter 20 args) w := pf_call fmo20 (by kernel_rfl) (by kernel_rfl) args w
theorem fmo21 : FM[21]? = some Tryz.f21 := fm_of Tryz.func21 (by decide) (by kernel_rfl)
theorem Mo.func21 : Mo.prog.funcs[21]? = some Tryz.f21 := mo_fn fmo21
@[go_sem] theorem Mo.call21 (args : Array Value) (w : World) : (callFunc 21 args).run Mo.prog w = .ok (.enter 21 args) w := pf_call fmo21 (by kernel_rfl) (by kernel_rfl) args w
theorem fmo22 : FM[22]? = some Tryz.f22 := fm_of Tryz.func22 (by decide) (by kernel_rfl)
theorem Mo.func22 : Mo.prog.funcs[22]? = some Tryz.f22 := mo_fn fmo22
@[go_sem] theorem Mo.call22 (args : Array Value) (w : World) : (callFunc 22 args).run Mo.prog w = .ok (.enter 22 args) w := pf_call fmo22 (by kernel_rfl) (by kernel_rfl) args w
theorem fmo23 : FM[23]? = some Tryz.f23 := fm_of Tryz.func23 (by decide) (by kernel_rfl)
theorem Mo.func23 : Mo.prog.funcs[23]? = some Tryz.f23 := mo_fn fmo23
@[go_sem] theorem Mo.call23 (args : Array Value) (w : World) : (callFunc 23 args).run Mo.prog w = .ok (.enter 23 args) w := pf_call fmo23 (by kernel_rfl) (by kernel_rfl) args w
theorem fmo24 : FM[24]? = some Tryz.f24 := fm_of Tryz.func24 (by decide) (by kernel_rfl)
theorem Mo.func24 : Mo.prog.funcs[24]? = some Tryz.f24 := mo_fn fmo24
@[go_sem] theorem Mo.call24 (args : Array Value) (w : World) : (callFunc 24 args).run Mo.prog w = .ok (.enter 24 args) w := pf_call fmo24 (by kernel_rfl) (by kernel_rfl) args w
theorem fmo25 : FM[25]? = some Tryz.f25 := fm_of Tryz.func25 (by decide) (by kernel_rfl)
theorem Mo.func25 : Mo.prog.funcs[25]? = some Tryz.f25 := mo_fn fmo25
@[go_sem] theorem Mo.call25 (args : Array Value) (w : World) : (callFunc 25 args).run Mo.prog w = .ok (.enter 25 args) w := pf_call fmo25 (by kernel_rfl) (by kernel_rfl) args w
theorem fmo26 : FM[26]? = some Tryz.f26 := fm_of Tryz.func26 (by decide) (by kernel_rfl)
theorem Mo.func26 : Mo.prog.funcs[26]? = some Tryz.f26 := mo_fn fmo26
@[go_sem] theorem Mo.call26 (args : Array Value) (w : World) : (callFunc 26 args).run Mo.prog w = .ok (.enter 26 args) w := pf_call fmo26 (by kernel_rfl) (by kernel_rfl) args w
theorem fmo27 : FM[27]? = some Tryz.f27 := fm_of Tryz.func27 (by decide) (by kernel_rfl)
theorem Mo.func27 : Mo.prog.funcs[27]? = some Tryz.f27 := mo_fn fmo27
@[go_sem] theorem Mo.call27 (args : Array Value) (w : World) : (callFunc 27 args).run Mo.prog w = .ok (.enter 27 args) w := pf_call fmo27 (by kernel_rfl) (by kernel_rfl) args w
theorem fmo28 : FM[28]? = some Tryz.f28 := fm_of Tryz.func28 (by decide) (by kernel_rfl)
theorem Mo.func28 : Mo.prog.funcs[28]? = some Tryz.f28 := mo_fn fmo28
@[go_sem] theorem Mo.call28 (args : Array Value) (w : World) : (callFunc 28 args).run Mo.prog w = .ok (.enter 28 args) w := pf_call fmo28 (by kernel_rfl) (by kernel_rfl) args w
theorem fmo29 : FM[29]? = some Tryz.f29 := fm_of Tryz.func29 (by decide) (by kernel_rfl)
theorem Mo.func29 : Mo.prog.funcs[29]? = some Tryz.f29 := mo_fn fmo29
@[go_sem] theorem Mo.call29 (args : Array Value) (w : World) : (callFunc 29 args).run Mo.prog w = .ok (.enter 29 args) w := pf_call fmo29 (by kernel_rfl) (by kernel_rfl) args w
theorem fmo30 : FM[30]? = some Tryz.f30 := fm_of Tryz.func30 (by decide) (by kernel_rfl)
theorem Mo.func30 : Mo.prog.funcs[30]? = some Tryz.f30 := mo_fn fmo30
@[go_sem] theorem Mo.call30 (args : Array Value) (w : World) : (callFunc 30 args).run Mo.prog w = .ok (.enter 30 args) w := pf_call fmo30 (by kernel_rfl) (by kernel_rfl) args w
theorem fmo31 : FM[31]? = some Tryz.f31 := fm_of Tryz.func31 (by decide) (by kernel_rfl)
theorem Mo.func31 : Mo.prog.funcs[31]? = some Tryz.f31 := mo_fn fmo31
@[go_sem] theorem Mo.call31 (args : Array Value) (w : World) : (callFunc 31 args).run Mo.prog w = .ok (.enter 31 args) w := pf_call fmo31 (by kernel_rfl) (by kernel_rfl) args w
theorem fmo32 : FM[32]? = some Tryz.f32 := fm_of Tryz.func32 (by decide) (by kernel_rfl)
theorem Mo.func32 : Mo.prog.funcs[32]? = some Tryz.f32 := mo_fn fmo32
@[go_sem] theorem Mo.call32 (args : Array Value) (w : World) : (callFunc 32 args).run Mo.prog w = .ok (.enter 32 args) w := pf_call fmo32 (by kernel_rfl) (by kernel_rfl) args w
theorem fmo33 : FM[33]? = some Tryz.f33 := fm_of Tryz.func33 (by decide) (by kernel_rfl)
theorem Mo.func33 : Mo.prog.funcs[33]? = some Tryz.f33 := mo_fn fmo33
@[go_sem] theorem Mo.call33 (args : Array Value) (w : World) : (callFunc 33 args).run Mo.prog w = .ok (.enter 33 args) w := pf_call fmo33 (by kernel_rfl) (by kernel_rfl) args w
theorem fmo34 : FM[34]? = some Tryz.f34 := fm_of Tryz.func34 (by decide) (by kernel_rfl)
theorem Mo.func34 : Mo.prog.funcs[34]? = some Tryz.f34 := mo_fn fmo34
@[go_sem] theorem Mo.call34 (args : Array Value) (w : World) : (callFunc 34 args).run Mo.prog w = .ok (.enter 34 args) w := pf_call fmo34 (by kernel_rfl) (by kernel_rfl) args w
theorem fmo35 : FM[35]? = some Tryz.f35 := fm_of Tryz.func35 (by decide) (by kernel_rfl)
theorem Mo.func35 : Mo.prog.funcs[35]? = some Tryz.f35 := mo_fn fmo35
@[go_sem] theorem Mo.call35 (args : Array Value) (w : World) : (callFunc 35 args).run Mo.prog w = .ok (.enter 35 args) w := pf_call fmo35 (by kernel_rfl) (by kernel_rfl) args w
theorem fmo36 : FM[36]? = some Tryz.f36 := fm_of Tryz.func36 (by decide) (by kernel_rfl)
theorem Mo.func36 : Mo.prog.funcs[36]? = some Tryz.f36 := mo_fn fmo36
@[go_sem] theorem Mo.call36 (args : Array Value) (w : World) : (callFunc 36 args).run Mo.prog w = .ok (.enter 36 args) w := pf_call fmo36 (by kernel_rfl) (by kernel_rfl) args w
theorem fmo37 : FM[37]? = some Tryz.f37 := fm_of Tryz.func37 (by decide) (by kernel_rfl)
theorem Mo.func37 : Mo.prog.funcs[37]? = some Tryz.f37 := mo_fn fmo37
@[go_sem] theorem Mo.call37 (args : Array Value) (w : World) : (callFunc 37 args).run Mo.prog w = .ok (.enter 37 args) w := pf_call fmo37 (by kernel_rfl) (by kernel_rfl) args w
theorem fmo38 : FM[38]? = some Tryz.f38 := fm_of Tryz.func38 (by decide) (by kernel_rfl)
theorem Mo.func38 : Mo.prog.funcs[38]? = some Tryz.f38 := mo_fn fmo38
@[go_sem] theorem Mo.call38 (args : Array Value) (w : World) : (callFunc 38 args).run Mo.prog w = .ok (.enter 38 args) w := pf_call fmo38 (by kernel_rfl) (by kernel_rfl) args w
theorem fmo39 : FM[39]? = some Tryz.f39 := fm_of Tryz.func39 (by decide) (by kernel_rfl)
theorem Mo.func39 : Mo.prog.funcs[39]? = some Tryz.f39 := mo_fn fmo39
@[go_sem] theorem Mo.call39 (args : Array Value) (w : World) : (callFunc 39 args).run Mo.prog w = .ok (.enter 39 args) w := pf_call fmo39 (by kernel_rfl) (by kernel_rfl) args w
theorem fmo40 : FM[40]? = some Tryz.f40 := fm_of Tryz.func40 (by decide) (by kernel_rfl)
theorem Mo.func40 : Mo.prog.funcs[40]? = some Tryz.f40 := mo_fn fmo40
@[go_sem] theorem Mo.call40 (args : Array Value) (w : World) : (callFunc 40 args).run Mo.prog w = .ok (.enter 40 args) w := pf_call fmo40 (by kernel_rfl) (by kernel_rfl) args w
theorem fmo41 : FM[41]? = some Tryz.f41 := fm_of Tryz.func41 (by decide) (by kernel_rfl)
theorem Mo.func41 : Mo.prog.funcs[41]? = some Tryz.f41 := mo_fn fmo41
@[go_sem] theorem Mo.call41 (args : Array Value) (w : World) : (callFunc 41 args).run Mo.prog w = .ok (.enter 41 args) w := pf_call fmo41 (by kernel_rfl) (by kernel_rfl) args w
theorem fmo42 : FM[42]? = some Tryz.f42 := fm_of Tryz.func42 (by decide) (by kernel_rfl)
theorem Mo.func42 : Mo.prog.funcs[42]? = some Tryz.f42 := mo_fn fmo42
@[go_sem] theorem Mo.call42 (args : Array Value) (w : World) : (callFunc 42 args).run Mo.prog w = .ok (.enter 42 args) w := pf_call fmo42 (by kernel_rfl) (by kernel_rfl) args w
theorem fmo43 : FM[43]? = some Tryz.f43 := fm_of Tryz.func43 (by decide) (by kernel_rfl)
theorem Mo.func43 : Mo.prog.funcs[43]? = some Tryz.f43 := mo_fn fmo43
@[go_sem] theorem Mo.call43 (args : Array Value) (w : World) : (callFunc 43 args).run Mo.prog w = .ok (.enter 43 args) w := pf_call fmo43 (by kernel_rfl) (by kernel_rfl) args w
theorem fmo44 : FM[44]? = some Tryz.f44 := fm_of Tryz.func44 (by decide) (by kernel_rfl)
theorem Mo.func44 : Mo.prog.funcs[44]? = some Tryz.f44 := mo_fn fmo44
@[go_sem] theorem Mo.call44 (args : Array Value) (w : World) : (callFunc 44 args).run Mo.prog w = .ok (.enter 44 args) w := pf_call fmo44 (by kernel_rfl) (by kernel_rfl) args w
theorem fmo45 : FM[45]? = some Tryz.f45 := fm_of Tryz.func45 (by decide) (by kernel_rfl)
theorem Mo.func45 : Mo.prog.funcs[45]? = some Tryz.f45 := mo_fn fmo45
@[go_sem] theorem Mo.call45 (args : Array Value) (w : World) : (callFunc 45 args).run Mo.prog w = .ok (.enter 45 args) w := pf_call fmo45 (by kernel_rfl) (by kernel_rfl) args w
theorem fmo46 : FM[46]? = some Tryz.f46 := fm_of Tryz.func46 (by decide) (by kernel_rfl)
theorem Mo.func46 : Mo.prog.funcs[46]? = some Tryz.f46 := mo_fn fmo46
@[go_sem] theorem Mo.call46 (args : Array Value) (w : World) : (callFunc 46 args).run Mo.prog w = .ok (.enter 46 args) w := pf_call fmo46 (by kernel_rfl) (by kernel_rfl) args w
theorem fmo47 : FM[47]? = some Tryz.f47 := fm_of Tryz.func47 (by decide) (by kernel_rfl)
theorem Mo.func47 : Mo.prog.funcs[47]? = some Tryz.f47 := mo_fn fmo47
@[go_sem] theorem Mo.call47 (args : Array Value) (w : World) : (callFunc 47 args).run Mo.prog w = .ok (.enter 47 args) w := pf_call fmo47 (by kernel_rfl) (by kernel_rfl) args w
theorem fmo48 : FM[48]? = some Tryz.f48 := fm_of Tryz.func48 (by decide) (by kernel_rfl)
theorem Mo.func48 : Mo.prog.funcs[48]? = some Tryz.f48 := mo_fn fmo48
@[go_sem] theorem Mo.call48 (args : Array Value) (w : World) : (callFunc 48 args).run Mo.prog w = .ok (.enter 48 args) w := pf_call fmo48 (by kernel_rfl) (by kernel_rfl) args w
theorem fmo49 : FM[49]? = some Tryz.f49 := fm_of Tryz.func49 (by decide) (by kernel_rfl)
theorem Mo.func49 : Mo.prog.funcs[49]? = some Tryz.f49 := mo_fn fmo49
@[go_sem] theorem Mo.call49 (args : Array Value) (w : World) : (callFunc 49 args).run Mo.prog w = .ok (.enter 49 args) w := pf_call fmo49 (by kernel_rfl) (by kernel_rfl) args w
theorem fmo50 : FM[50]? = some Tryz.f50 := fm_of Tryz.func50 (by decide) (by kernel_rfl)
theorem Mo.func50 : Mo.prog.funcs[50]? = some Tryz.f50 := mo_fn fmo50
@[go_sem] theorem Mo.call50 (args : Array Value) (w : World) : (callFunc 50 args).run Mo.prog w = .ok (.enter 50 args) w := pf_call fmo50 (by kernel_rfl) (by kernel_rfl) args w
theorem fmo51 : FM[51]? = some Tryz.f51 := fm_of Tryz.func51 (by decide) (by kernel_rfl)
theorem Mo.func51 : Mo.prog.funcs[51]? = some Tryz.f51 := mo_fn fmo51
@[go_sem] theorem Mo.call51 (args : Array Value) (w : World) : (callFunc 51 args).run Mo.prog w = .ok (.enter 51 args) w := pf_call fmo51 (by kernel_rfl) (by kernel_rfl) args w
theorem fmo52 : FM[52]? = some Tryz.f52 := fm_of Tryz.func52 (by decide) (by kernel_rfl)
theorem Mo.func52 : Mo.prog.funcs[52]? = some Tryz.f52 := mo_fn fmo52
@[go_sem] theorem Mo.call52 (args : Array Value) (w : World) : (callFunc 52 args).run Mo.prog w = .ok (.enter 52 args) w := pf_call fmo52 (by kernel_rfl) (by kernel_rfl) args w
theorem fmo53 : FM[53]? = some Tryz.f53 := fm_of Tryz.func53 (by decide) (by kernel_rfl)
theorem Mo.func53 : Mo.prog.funcs[53]? = some Tryz.f53 := mo_fn fmo53
@[go_sem] theorem Mo.call53 (args : Array Value) (w : World) : (callFunc 53 args).run Mo.prog w = .ok (.enter 53 args) w := pf_call fmo53 (by kernel_rfl) (by kernel_rfl) args w
theorem fmo54 : FM[54]? = some Tryz.f54 := fm_of Tryz.func54 (by decide) (by kernel_rfl)
theorem Mo.func54 : Mo.prog.funcs[54]? = some Tryz.f54 := mo_fn fmo54
@[go_sem] theorem Mo.call54 (args : Array Value) (w : World) : (callFunc 54 args).run Mo.prog w = .ok (.enter 54 args) w := pf_call fmo54 (by kernel_rfl) (by kernel_rfl) args w
theorem fmo55 : FM[55]? = some Tryz.f55 := fm_of Tryz.func55 (by decide) (by kernel_rfl)
theorem Mo.func55 : Mo.prog.funcs[55]? = some Tryz.f55 := mo_fn fmo55
@[go_sem] theorem Mo.call55 (args : Array Value) (w : World) : (callFunc 55 args).run Mo.prog w = .ok (.enter 55 args) w := pf_call fmo55 (by kernel_rfl) (by kernel_rfl) args w
theorem fmo56 : FM[56]? = some Tryz.f56 := fm_of Tryz.func56 (by decide) (by kernel_rfl)
theorem Mo.func56 : Mo.prog.funcs[56]? = some Tryz.f56 := mo_fn fmo56
@[go_sem] theorem Mo.call56 (args : Array Value) (w : World) : (callFunc 56 args).run Mo.prog w = .ok (.enter 56 args) w := pf_call fmo56 (by kernel_rfl) (by kernel_rfl) args w
theorem fmo57 : FM[57]? = some Tryz.f57 := fm_of Tryz.func57 (by decide) (by kernel_rfl)
theorem Mo.func57 : Mo.prog.funcs[57]? = some Tryz.f57 := mo_fn fmo57
@[go_sem] theorem Mo.call57 (args : Array Value) (w : World) : (callFunc 57 args).run Mo.prog w = .ok (.enter 57 args) w := pf_call fmo57 (by kernel_rfl) (by kernel_rfl) args w
theorem fmo58 : FM[58]? = some Tryz.f58 := fm_of Tryz.func58 (by decide) (by kernel_rfl)
theorem Mo.func58 : Mo.prog.funcs[58]? = some Tryz.f58 := mo_fn fmo58
@[go_sem] theorem Mo.call58 (args : Array Value) (w : World) : (callFunc 58 args).run Mo.prog w = .ok (.enter 58 args) w := pf_call fmo58 (by kernel_rfl) (by kernel_rfl) args w
theorem fmo59 : FM[59]? = some Tryz.f59 := fm_of Tryz.func59 (by decide) (by kernel_rfl)
theorem Mo.func59 : Mo.prog.funcs[59]? = some Tryz.f59 := mo_fn fmo59
@[go_sem] theorem Mo.call59 (args : Array Value) (w : World) : (callFunc 59 args).run Mo.prog w = .ok (.enter 59 args) w := pf_call fmo59 (by kernel_rfl) (by kernel_rfl) args w
theorem fmo60 : FM[60]? = some Tryz.f60 := fm_of Tryz.func60 (by decide) (by kernel_rfl)
theorem Mo.func60 : Mo.prog.funcs[60]? = some Tryz.f60 := mo_fn fmo60
@[go_sem] theorem Mo.call60 (args : Array Value) (w : World) : (callFunc 60 args).run Mo.prog w = .ok (.enter 60 args) w := pf_call fmo60 (by kernel_rfl) (by kernel_rfl) args w
theorem fmo61 : FM[61]? = some Tryz.f61 := fm_of Tryz.func61 (by decide) (by kernel_rfl)
theorem Mo.func61 : Mo.prog.funcs[61]? = some Tryz.f61 := mo_fn fmo61
@[go_sem] theorem Mo.call61 (args : Array Value) (w : World) : (callFunc 61 args).run Mo.prog w = .ok (.enter 61 args) w := pf_call fmo61 (by kernel_rfl) (by kernel_rfl) args w
theorem fmo62 : FM[62]? = some Tryz.f62 := fm_of Tryz.func62 (by decide) (by kernel_rfl)
theorem Mo.func62 : Mo.prog.funcs[62]? = some Tryz.f62 := mo_fn fmo62
@[go_sem] theorem Mo.call62 (args : Array Value) (w : World) : (callFunc 62 args).run Mo.prog w = .ok (.enter 62 args) w := pf_call fmo62 (by kernel_rfl) (by kernel_rfl) args w
theorem fmo63 : FM[63]? = some Tryz.f63 := fm_of Tryz.func63 (by decide) (by kernel_rfl)
theorem Mo.func63 : Mo.prog.funcs[63]? = some Tryz.f63 := mo_fn fmo63
@[go_sem] theorem Mo.call63 (args : Array Value) (w : World) : (callFunc 63 args).run Mo.prog w = .ok (.enter 63 args) w := pf_call fmo63 (by kernel_rfl) (by kernel_rfl) args w
theorem fmo64 : FM[64]? = some Tryz.f64 := fm_of Tryz.func64 (by decide) (by kernel_rfl)
theorem Mo.func64 : Mo.prog.funcs[64]? = some Tryz.f64 := mo_fn fmo64
@[go_sem] theorem Mo.call64 (args : Array Value) (w : World) : (callFunc 64 args).run Mo.prog w = .ok (.enter 64 args) w := pf_call fmo64 (by kernel_rfl) (by kernel_rfl) args w
theorem fmo65 : FM[65]? = some Tryz.f65 := fm_of Tryz.func65 (by decide) (by kernel_rfl)
theorem Mo.func65 : Mo.prog.funcs[65]? = some Tryz.f65 := mo_fn fmo65
@[go_sem] theorem Mo.call65 (args : Array Value) (w : World) : (callFunc 65 args).run Mo.prog w = .ok (.enter 65 args) w := pf_call fmo65 (by kernel_rfl) (by kernel_rfl) args w
theorem fmo66 : FM[66]? = some Tryz.f66 := fm_of Tryz.func66 (by decide) (by kernel_rfl)
theorem Mo.func66 : Mo.prog.funcs[66]? = some Tryz.f66 := mo_fn fmo66
@[go_sem] theorem Mo.call66 (args : Array Value) (w : World) : (callFunc 66 args).run Mo.prog w = .ok (.enter 66 args) w := pf_call fmo66 (by kernel_rfl) (by kernel_rfl) args w
theorem fmo67 : FM[67]? = some Tryz.f67 := fm_of Tryz.func67 (by decide) (by kernel_rfl)
theorem Mo.func67 : Mo.prog.funcs[67]? = some Tryz.f67 := mo_fn fmo67
@[go_sem] theorem Mo.call67 (args : Array Value) (w : World) : (callFunc 67 args).run Mo.prog w = .ok (.enter 67 args) w := pf_call fmo67 (by kernel_rfl) (by kernel_rfl) args w
theorem fmo68 : FM[68]? = some Tryz.f68 := fm_of Tryz.func68 (by decide) (by kernel_rfl)
theorem Mo.func68 : Mo.prog.funcs[68]? = some Tryz.f68 := mo_fn fmo68
@[go_sem] theorem Mo.call68 (args : Array Value) (w : World) : (callFunc 68 args).run Mo.prog w = .ok (.enter 68 args) w := pf_call fmo68 (by kernel_rfl) (by kernel_rfl) args w
theorem fmo69 : FM[69]? = some Tryz.f69 := fm_of Tryz.func69 (by decide) (by kernel_rfl)
theorem Mo.func69 : Mo.prog.funcs[69]? = some Tryz.f69 := mo_fn fmo69
@[go_sem] theorem Mo.call69 (args : Array Value) (w : World) : (callFunc 69 args).run Mo.prog w = .ok (.enter 69 args) w := pf_call fmo69 (by kernel_rfl) (by kernel_rfl) args w
theorem fmo70 : FM[70]? = some Tryz.f70 := fm_of Tryz.func70 (by decide) (by kernel_rfl)
theorem Mo.func70 : Mo.prog.funcs[70]? = some Tryz.f70 := mo_fn fmo70
@[go_sem] theorem Mo.call70 (args : Array Value) (w : World) : (callFunc 70 args).run Mo.prog w = .ok (.enter 70 args) w := pf_call fmo70 (by kernel_rfl) (by kernel_rfl) args w
theorem fmo71 : FM[71]? = some Tryz.f71 := fm_of Tryz.func71 (by decide) (by kernel_rfl)
theorem Mo.func71 : Mo.prog.funcs[71]? = some Tryz.f71 := mo_fn fmo71
@[go_sem] theorem Mo.call71 (args : Array Value) (w : World) : (callFunc 71 args).run Mo.prog w = .ok (.enter 71 args) w := pf_call fmo71 (by kernel_rfl) (by kernel_rfl) args w
theorem fmo72 : FM[72]? = some Tryz.f72 := fm_of Tryz.func72 (by decide) (by kernel_rfl)
theorem Mo.func72 : Mo.prog.funcs[72]? = some Tryz.f72 := mo_fn fmo72
@[go_sem] theorem Mo.call72 (args : Array Value) (w : World) : (callFunc 72 args).run Mo.prog w = .ok (.enter 72 args) w := pf_call fmo72 (by kernel_rfl) (by kernel_rfl) args w
theorem fmo73 : FM[73]? = some Tryz.f73 := fm_of Tryz.func73 (by decide) (by kernel_rfl)
theorem Mo.func73 : Mo.prog.funcs[73]? = some Tryz.f73 := mo_fn fmo73
@[go_sem] theorem Mo.call73 (args : Array Value) (w : World) : (callFunc 73 args).run Mo.prog w = .ok (.enter 73 args) w := pf_call fmo73 (by kernel_rfl) (by kernel_rfl) args w
theorem fmo74 : FM[74]? = some Tryz.f74 := fm_of Tryz.func74 (by decide) (by kernel_rfl)
theorem Mo.func74 : Mo.prog.funcs[74]? = some Tryz.f74 := mo_fn fmo74
@[go_sem] theorem Mo.call74 (args : Array Value) (w : World) : (callFunc 74 args).run Mo.prog w = .ok (.enter 74 args) w := pf_call fmo74 (by kernel_rfl) (by kernel_rfl) args w
theorem fmo75 : FM[75]? = some Tryz.f75 := fm_of Tryz.func75 (by decide) (by kernel_rfl)
theorem Mo.func75 : Mo.prog.funcs[75]? = some Tryz.f75 := mo_fn fmo75
@[go_sem] theorem Mo.call75 (args : Array Value) (w : World) : (callFunc 75 args).run Mo.prog w = .ok (.enter 75 args) w := pf_call fmo75 (by kernel_rfl) (by kernel_rfl) args w
theorem fmo76 : FM[76]? = some Tryz.f76 := fm_of Tryz.func76 (by decide) (by kernel_rfl)
theorem Mo.func76 : Mo.prog.funcs[76]? = some Tryz.f76 := mo_fn fmo76
@[go_sem] theorem Mo.call76 (args : Array Value) (w : World) : (callFunc 76 args).run Mo.prog w = .ok (.enter 76 args) w := pf_call fmo76 (by kernel_rfl) (by kernel_rfl) args w
theorem fmo77 : FM[77]? = some Tryz.f77 := fm_of Tryz.func77 (by decide) (by kernel_rfl)
theorem Mo.func77 : Mo.prog.funcs[77]? = some Tryz.f77 := mo_fn fmo77
@[go_sem] theorem Mo.call77 (args : Array Value) (w : World) : (callFunc 77 args).run Mo.prog w = .ok (.enter 77 args) w := pf_call fmo77 (by kernel_rfl) (by kernel_rfl) args w
theorem fmo78 : FM[78]? = some Tryz.f78 := fm_of Tryz.func78 (by decide) (by kernel_rfl)
theorem Mo.func78 : Mo.prog.funcs[78]? = some Tryz.f78 := mo_fn fmo78
@[go_sem] theorem Mo.call78 (args : Array Value) (w : World) : (callFunc 78 args).run Mo.prog w = .ok (.enter 78 args) w := pf_call fmo78 (by kernel_rfl) (by kernel_rfl) args w
theorem fmo79 : FM[79]? = some Tryz.f79 := fm_of Tryz.func79 (by decide) (by kernel_rfl)
theorem Mo.func79 : Mo.prog.funcs[79]? = some Tryz.f79 := mo_fn fmo79
@[go_sem] theorem Mo.call79 (args : Array Value) (w : World) : (callFunc 79 args).run Mo.prog w = .ok (.enter 79 args) w := pf_call fmo79 (by kernel_rfl) (by kernel_rfl) args w
theorem fmo80 : FM[80]? = some Tryz.f80 := fm_of Tryz.func80 (by decide) (by kernel_rfl)
theorem Mo.func80 : Mo.prog.funcs[80]? = some Tryz.f80 := mo_fn fmo80
@[go_sem] theorem Mo.call80 (args : Array Value) (w : World) : (callFunc 80 args).run Mo.prog w = .ok (.enter 80 args) w := pf_call fmo80 (by kernel_rfl) (by kernel_rfl) args w
theorem fmo81 : FM[81]? = some Tryz.f81 := fm_of Tryz.func81 (by decide) (by kernel_rfl)
theorem Mo.func81 : Mo.prog.funcs[81]? = some Tryz.f81 := mo_fn fmo81
@[go_sem] theorem Mo.call81 (args : Array Value) (w : World) : (callFunc 81 args).run Mo.prog w = .ok (.enter 81 args) w := pf_call fmo81 (by kernel_rfl) (by kernel_rfl) args w
theorem fmo82 : FM[82]? = some Tryz.f82 := fm_of Tryz.func82 (by decide) (by kernel_rfl)
theorem Mo.func82 : Mo.prog.funcs[82]? = some Tryz.f82 := mo_fn fmo82
@[go_sem] theorem Mo.call82 (args : Array Value) (w : World) : (callFunc 82 args).run Mo.prog w = .ok (.enter 82 args) w := pf_call fmo82 (by kernel_rfl) (by kernel_rfl) args w
theorem fmo83 : FM[83]? = some Tryz.f83 := fm_of Tryz.func83 (by decide) (by kernel_rfl)
theorem Mo.func83 : Mo.prog.funcs[83]? = some Tryz.f83 := mo_fn fmo83
@[go_sem] theorem Mo.call83 (args : Array Value) (w : World) : (callFunc 83 args).run Mo.prog w = .ok (.enter 83 args) w := pf_call fmo83 (by kernel_rfl) (by kernel_rfl) args w
theorem fmo84 : FM[84]? = some Tryz.f84 := fm_of Tryz.func84 (by decide) (by kernel_rfl)
theorem Mo.func84 : Mo.prog.funcs[84]? = some Tryz.f84 := mo_fn fmo84
@[go_sem] theorem Mo.call84 (args : Array Value) (w : World) : (callFunc 84 args).run Mo.prog w = .ok (.enter 84 args) w := pf_call fmo84 (by kernel_rfl) (by kernel_rfl) args w
theorem fmo85 : FM[85]? = some Tryz.f85 := fm_of Tryz.func85 (by decide) (by kernel_rfl)
theorem Mo.func85 : Mo.prog.funcs[85]? = some Tryz.f85 := mo_fn fmo85
@[go_sem] theorem Mo.call85 (args : Array Value) (w : World) : (callFunc 85 args).run Mo.prog w = .ok (.enter 85 args) w := pf_call fmo85 (by kernel_rfl) (by kernel_rfl) args w
theorem fmo86 : FM[86]? = some Tryz.f86 := fm_of Tryz.func86 (by decide) (by kernel_rfl)
theorem Mo.func86 : Mo.prog.funcs[86]? = some Tryz.f86 := mo_fn fmo86
@[go_sem] theorem Mo.call86 (args : Array Value) (w : World) : (callFunc 86 args).run Mo.prog w = .ok (.enter 86 args) w := pf_call fmo86 (by kernel_rfl) (by kernel_rfl) args w
theorem fmo87 : FM[87]? = some Tryz.f87 := fm_of Tryz.func87 (by decide) (by kernel_rfl)
theorem Mo.func87 : Mo.prog.funcs[87]? = some Tryz.f87 := mo_fn fmo87
@[go_sem] theorem Mo.call87 (args : Array Value) (w : World) : (callFunc 87 args).run Mo.prog w = .ok (.enter 87 args) w := pf_call fmo87 (by kernel_rfl) (by kernel_rfl) args w
theorem fmo88 : FM[88]? = some Tryz.f88 := fm_of Tryz.func88 (by decide) (by kernel_rfl)
theorem Mo.func88 : Mo.prog.funcs[88]? = some Tryz.f88 := mo_fn fmo88
@[go_sem] theorem Mo.call88 (args : Array Value) (w : World) : (callFunc 88 args).run Mo.prog w = .ok (.enter 88 args) w := pf_call fmo88 (by kernel_rfl) (by kernel_rfl) args w
theorem fmo89 : FM[89]? = some Tryz.f89 := fm_of Tryz.func89 (by decide) (by kernel_rfl)
theorem Mo.func89 : Mo.prog.funcs[89]? = some Tryz.f89 := mo_fn fmo89
@[go_sem] theorem Mo.call89 (args : Array Value) (w : World) : (callFunc 89 args).run Mo.prog w = .ok (.enter 89 args) w := pf_call fmo89 (by kernel_rfl) (by kernel_rfl) args w
theorem fmo90 : FM[90]? = some Tryz.f90 := fm_of Tryz.func90 (by decide) (by kernel_rfl)
theorem Mo.func90 : Mo.prog.funcs[90]? = some Tryz.f90 := mo_fn fmo90
@[go_sem] theorem Mo.call90 (args : Array Value) (w : World) : (callFunc 90 args).run Mo.prog w = .ok (.enter 90 args) w := pf_call fmo90 (by kernel_rfl) (by kernel_rfl) args w
theorem fmo91 : FM[91]? = some Tryz.f91 := fm_of Tryz.func91 (by decide) (by kernel_rfl)
theorem Mo.func91 : Mo.prog.funcs[91]? = some Tryz.f91 := mo_fn fmo91
@[go_sem] theorem Mo.call91 (args : Array Value) (w : World) : (callFunc 91 args).run Mo.prog w = .ok (.enter 91 args) w := pf_call fmo91 (by kernel_rfl) (by kernel_rfl) args w
theorem fmo92 : FM[92]? = some Tryz.f92 := fm_of Tryz.func92 (by decide) (by kernel_rfl)
theorem Mo.func92 : Mo.prog.funcs[92]? = some Tryz.f92 := mo_fn fmo92
@[go_sem] theorem Mo.call92 (args : Array Value) (w : World) : (callFunc 92 args).run Mo.prog w = .ok (.enter 92 args) w := pf_call fmo92 (by kernel_rfl) (by kernel_rfl) args w
theorem fmo93 : FM[93]? = some Tryz.f93 := fm_of Tryz.func93 (by decide) (by kernel_rfl)
theorem Mo.func93 : Mo.prog.funcs[93]? = some Tryz.f93 := mo_fn fmo93
@[go_sem] theorem Mo.call93 (args : Array Value) (w : World) : (callFunc 93 args).run Mo.prog w = .ok (.enter 93 args) w := pf_call fmo93 (by kernel_rfl) (by kernel_rfl) args w
theorem fmo94 : FM[94]? = some Tryz.f94 := fm_of Tryz.func94 (by decide) (by kernel_rfl)
theorem Mo.func94 : Mo.prog.funcs[94]? = some Tryz.f94 := mo_fn fmo94
@[go_sem] theorem Mo.call94 (args : Array Value) (w : World) : (callFunc 94 args).run Mo.prog w = .ok (.enter 94 args) w := pf_call fmo94 (by kernel_rfl) (by kernel_rfl) args w
theorem fmo95 : FM[95]? = some Tryz.f95 := fm_of Tryz.func95 (by decide) (by kernel_rfl)
theorem Mo.func95 : Mo.prog.funcs[95]? = some Tryz.f95 := mo_fn fmo95
@[go_sem] theorem Mo.call95 (args : Array Value) (w : World) : (callFunc 95 args).run Mo.prog w = .ok (.enter 95 args) w := pf_call fmo95 (by kernel_rfl) (by kernel_rfl) args w
theorem fmo96 : FM[96]? = some Tryz.f96 := fm_of Tryz.func96 (by decide) (by kernel_rfl)
theorem Mo.func96 : Mo.prog.funcs[96]? = some Tryz.f96 := mo_fn fmo96
@[go_sem] theorem Mo.call96 (args : Array Value) (w : World) : (callFunc 96 args).run Mo.prog w = .ok (.enter 96 args) w := pf_call fmo96 (by kernel_rfl) (by kernel_rfl) args w
theorem fmo97 : FM[97]? = some Tryz.f97 := fm_of Tryz.func97 (by decide) (by kernel_rfl)
theorem Mo.func97 : Mo.prog.funcs[97]? = some Tryz.f97 := mo_fn fmo97
@[go_sem] theorem Mo.call97 (args : Array Value) (w : World) : (callFunc 97 args).run Mo.prog w = .ok (.enter 97 args) w := pf_call fmo97 (by kernel_rfl) (by kernel_rfl) args w
theorem fmo98 : FM[98]? = some Tryz.f98 := fm_of Tryz.func98 (by decide) (by kernel_rfl)
theorem Mo.func98 : Mo.prog.funcs[98]? = some Tryz.f98 := mo_fn fmo98
@[go_sem] theorem Mo.call98 (args : Array Value) (w : World) : (callFunc 98 args).run Mo.prog w = .ok (.enter 98 args) w := pf_call fmo98 (by kernel_rfl) (by kernel_rfl) args w
theorem fmo99 : FM[99]? = some Tryz.f99 := fm_of Tryz.func99 (by decide) (by kernel_rfl)
theorem Mo.func99 : Mo.prog.funcs[99]? = some Tryz.f99 := mo_fn fmo99
@[go_sem] theorem Mo.call99 (args : Array Value) (w : World) : (callFunc 99 args).run Mo.prog w = .ok (.enter 99 args) w := pf_call fmo99 (by kernel_rfl) (by kernel_rfl) args w
theorem fmo100 : FM[100]? = some Tryz.f100 := fm_of Tryz.func100 (by decide) (by kernel_rfl)
theorem Mo.func100 : Mo.prog.funcs[100]? = some Tryz.f100 := mo_fn fmo100
@[go_sem] theorem Mo.call100 (args : Array Value) (w : World) : (callFunc 100 args).run Mo.prog w = .ok (.enter 100 args) w := pf_call fmo100 (by kernel_rfl) (by kernel_rfl) args w
theorem fmo101 : FM[101]? = some Tryz.f101 := fm_of Tryz.func101 (by decide) (by kernel_rfl)
theorem Mo.func101 : Mo.prog.funcs[101]? = some Tryz.f101 := mo_fn fmo101
@[go_sem] theorem Mo.call101 (args : Array Value) (w : World) : (callFunc 101 args).run Mo.prog w = .ok (.enter 101 args) w := pf_call fmo101 (by kernel_rfl) (by kernel_rfl) args w
theorem fmo102 : FM[102]? = some Tryz.f102 := fm_of Tryz.func102 (by decide) (by kernel_rfl)
theorem Mo.func102 : Mo.prog.funcs[102]? = some Tryz.f102 := mo_fn fmo102
@[go_sem] theorem Mo.call102 (args : Array Value) (w : World) : (callFunc 102 args).run Mo.prog w = .ok (.enter 102 args) w := pf_call fmo102 (by kernel_rfl) (by kernel_rfl) args w
theorem fmo103 : FM[103]? = some Tryz.f103 := fm_of Tryz.func103 (by decide) (by kernel_rfl)
theorem Mo.func103 : Mo.prog.funcs[103]? = some Tryz.f103 := mo_fn fmo103
@[go_sem] theorem Mo.call103 (args : Array Value) (w : World) : (callFunc 103 args).run Mo.prog w = .ok (.enter 103 args) w := pf_call fmo103 (by kernel_rfl) (by kernel_rfl) args w
theorem fmo104 : FM[104]? = some Tryz.f104 := fm_of Tryz.func104 (by decide) (by kernel_rfl)
theorem Mo.func104 : Mo.prog.funcs[104]? = some Tryz.f104 := mo_fn fmo104
@[go_sem] theorem Mo.call104 (args : Array Value) (w : World) : (callFunc 104 args).run Mo.prog w = .ok (.enter 104 args) w := pf_call fmo104 (by kernel_rfl) (by kernel_rfl) args w
theorem fmo105 : FM[105]? = some Tryz.f105 := fm_of Tryz.func105 (by decide) (by kernel_rfl)
theorem Mo.func105 : Mo.prog.funcs[105]? = some Tryz.f105 := mo_fn fmo105
@[go_sem] theorem Mo.call105 (args : Array Value) (w : World) : (callFunc 105 args).run Mo.prog w = .ok (.enter 105 args) w := pf_call fmo105 (by kernel_rfl) (by kernel_rfl) args w
theorem fmo106 : FM[106]? = some Tryz.f106 := fm_of Tryz.func106 (by decide) (by kernel_rfl)
theorem Mo.func106 : Mo.prog.funcs[106]? = some Tryz.f106 := mo_fn fmo106
@[go_sem] theorem Mo.call106 (args : Array Value) (w : World) : (callFunc 106 args).run Mo.prog w = .ok (.enter 106 args) w := pf_call fmo106 (by kernel_rfl) (by kernel_rfl) args w
theorem fmo107 : FM[107]? = some Tryz.f107 := fm_of Tryz.func107 (by decide) (by kernel_rfl)
theorem Mo.func107 : Mo.prog.funcs[107]? = some Tryz.f107 := mo_fn fmo107
@[go_sem] theorem Mo.call107 (args : Array Value) (w : World) : (callFunc 107 args).run Mo.prog w = .ok (.enter 107 args) w := pf_call fmo107 (by kernel_rfl) (by kernel_rfl) args w
theorem fmo108 : FM[108]? = some Tryz.f108 := fm_of Tryz.func108 (by decide) (by kernel_rfl)
theorem Mo.func108 : Mo.prog.funcs[108]? = some Tryz.f108 := mo_fn fmo108
@[go_sem] theorem Mo.call108 (args : Array Value) (w : World) : (callFunc 108 args).run Mo.prog w = .ok (.enter 108 args) w := pf_call fmo108 (by kernel_rfl) (by kernel_rfl) args w
theorem fmo109 : FM[109]? = some Tryz.f109 := fm_of Tryz.func109 (by decide) (by kernel_rfl)
theorem Mo.func109 : Mo.prog.funcs[109]? = some Tryz.f109 := mo_fn fmo109
@[go_sem] theorem Mo.call109 (args : Array Value) (w : World) : (callFunc 109 args).run Mo.prog w = .ok (.enter 109 args) w := pf_call fmo109 (by kernel_rfl) (by kernel_rfl) args w
theorem fmo110 : FM[110]? = some Tryz.f110 := fm_of Tryz.func110 (by decide) (by kernel_rfl)
theorem Mo.func110 : Mo.prog.funcs[110]? = some Tryz.f110 := mo_fn fmo110
@[go_sem] theorem Mo.call110 (args : Array Value) (w : World) : (callFunc 110 args).run Mo.prog w = .ok (.enter 110 args) w := pf_call fmo110 (by kernel_rfl) (by kernel_rfl) args w
theorem fmo111 : FM[111]? = some Tryz.f111 := fm_of Tryz.func111 (by decide) (by kernel_rfl)
theorem Mo.func111 : Mo.prog.funcs[111]? = some Tryz.f111 := mo_fn fmo111
@[go_sem] theorem Mo.call111 (args : Array Value) (w : World) : (callFunc 111 args).run Mo.prog w = .ok (.enter 111 args) w := pf_call fmo111 (by kernel_rfl) (by kernel_rfl) args w
theorem fmo112 : FM[112]? = some Tryz.f112 := fm_of Tryz.func112 (by decide) (by kernel_rfl)
theorem Mo.func112 : Mo.prog.funcs[112]? = some Tryz.f112 := mo_fn fmo112
@[go_sem] theorem Mo.call112 (args : Array Value) (w : World) : (callFunc 112 args).run Mo.prog w = .ok (.enter 112 args) w := pf_call fmo112 (by kernel_rfl) (by kernel_rfl) args w
theorem fmo113 : FM[113]? = some Tryz.f113 := fm_of Tryz.func113 (by decide) (by kernel_rfl)
theorem Mo.func113 : Mo.prog.funcs[113]? = some Tryz.f113 := mo_fn fmo113
@[go_sem] theorem Mo.call113 (args : Array Value) (w : World) : (callFunc 113 args).run Mo.prog w = .ok (.enter 113 args) w := pf_call fmo113 (by kernel_rfl) (by kernel_rfl) args w
theorem fmo114 : FM[114]? = some Tryz.f114 := fm_of Tryz.func114 (by decide) (by kernel_rfl)
theorem Mo.func114 : Mo.prog.funcs[114]? = some Tryz.f114 := mo_fn fmo114
@[go_sem] theorem Mo.call114 (args : Array Value) (w : World) : (callFunc 114 args).run Mo.prog w = .ok (.enter 114 args) w := pf_call fmo114 (by kernel_rfl) (by kernel_rfl) args w
theorem fmo115 : FM[115]? = some Tryz.f115 := fm_of Tryz.func115 (by decide) (by kernel_rfl)
theorem Mo.func115 : Mo.prog.funcs[115]? = some Tryz.f115 := mo_fn fmo115
@[go_sem] theorem Mo.call115 (args : Array Value) (w : World) : (callFunc 115 args).run Mo.prog w = .ok (.enter 115 args) w := pf_call fmo115 (by kernel_rfl) (by kernel_rfl) args w
theorem fmo116 : FM[116]? = some Tryz.f116 := fm_of Tryz.func116 (by decide) (by kernel_rfl)
theorem Mo.func116 : Mo.prog.funcs[116]? = some Tryz.f116 := mo_fn fmo116
@[go_sem] theorem Mo.call116 (args : Array Value) (w : World) : (callFunc 116 args).run Mo.prog w = .ok (.enter 116 args) w := pf_call fmo116 (by kernel_rfl) (by kernel_rfl) args w
theorem fmo118 : FM[118]? = some Tryz.f118 := fm_of Tryz.func118 (by decide) (by kernel_rfl)
theorem Mo.func118 : Mo.prog.funcs[118]? = some Tryz.f118 := mo_fn fmo118
@[go_sem] theorem Mo.call118 (args : Array Value) (w : World) : (callFunc 118 args).run Mo.prog w = .ok (.enter 118 args) w := pf_call fmo118 (by kernel_rfl) (by kernel_rfl) args w
theorem fmo119 : FM[119]? = some Tryz.f119 := fm_of Tryz.func119 (by decide) (by kernel_rfl)
theorem Mo.func119 : Mo.prog.funcs[119]? = some Tryz.f119 := mo_fn fmo119
@[go_sem] theorem Mo.call119 (args : Array Value) (w : World) : (callFunc 119 args).run Mo.prog w = .ok (.enter 119 args) w := pf_call fmo119 (by kernel_rfl) (by kernel_rfl) args w
theorem fmo121 : FM[121]? = some Tryz.f121 := fm_of Tryz.func121 (by decide) (by kernel_rfl)
theorem Mo.func121 : Mo.prog.funcs[121]? = some Tryz.f121 := mo_fn fmo121
@[go_sem] theorem Mo.call121 (args : Array Value) (w : World) : (callFunc 121 args).run Mo.prog w = .ok (.enter 121 args) w := pf_call fmo121 (by kernel_rfl) (by kernel_rfl) args w
theorem fmo122 : FM[122]? = some Tryz.f122 := fm_of Tryz.func122 (by decide) (by kernel_rfl)
theorem Mo.func122 : Mo.prog.funcs[122]? = some Tryz.f122 := mo_fn fmo122
@[go_sem] theorem Mo.call122 (args : Array Value) (w : World) : (callFunc 122 args).run Mo.prog w = .ok (.enter 122 args) w := pf_call fmo122 (by kernel_rfl) (by kernel_rfl) args w
theorem fmo123 : FM[123]? = some Tryz.f123 := fm_of Tryz.func123 (by decide) (by kernel_rfl)
theorem Mo.func123 : Mo.prog.funcs[123]? = some Tryz.f123 := mo_fn fmo123
@[go_sem] theorem Mo.call123 (args : Array Value) (w : World) : (callFunc 123 args).run Mo.prog w = .ok (.enter 123 args) w := pf_call fmo123 (by kernel_rfl) (by kernel_rfl) args w
theorem fmo124 : FM[124]? = some Tryz.f124 := fm_of Tryz.func124 (by decide) (by kernel_rfl)
theorem Mo.func124 : Mo.prog.funcs[124]? = some Tryz.f124 := mo_fn fmo124
@[go_sem] theorem Mo.call124 (args : Array Value) (w : World) : (callFunc 124 args).run Mo.prog w = .ok (.enter 124 args) w := pf_call fmo124 (by kernel_rfl) (by kernel_rfl) args w
theorem fmo125 : FM[125]? = some Tryz.f125 := fm_of Tryz.func125 (by decide) (by kernel_rfl)
theorem Mo.func125 : Mo.prog.funcs[125]? = some Tryz.f125 := mo_fn fmo125
@[go_sem] theorem Mo.call125 (args : Array Value) (w : World) : (callFunc 125 args).run Mo.prog w = .ok (.enter 125 args) w := pf_call fmo125 (by kernel_rfl) (by kernel_rfl) args w
theorem fmo126 : FM[126]? = some Tryz.f126 := fm_of Tryz.func126 (by decide) (by kernel_rfl)
theorem Mo.func126 : Mo.prog.funcs[126]? = some Tryz.f126 := mo_fn fmo126
@[go_sem] theorem Mo.call126 (args : Array Value) (w : World) : (callFunc 126 args).run Mo.prog w = .ok (.enter 126 args) w := pf_call fmo126 (by kernel_rfl) (by kernel_rfl) args w
theorem fmo127 : FM[127]? = some Tryz.f127 := fm_of Tryz.func127 (by decide) (by kernel_rfl)
theorem Mo.func127 : Mo.prog.funcs[127]? = some Tryz.f127 := mo_fn fmo127
@[go_sem] theorem Mo.call127 (args : Array Value) (w : World) : (callFunc 127 args).run Mo.prog w = .ok (.enter 127 args) w := pf_call fmo127 (by kernel_rfl) (by kernel_rfl) args w
theorem fmo128 : FM[128]? = some Tryz.f128 := fm_of Tryz.func128 (by decide) (by kernel_rfl)
theorem Mo.func128 : Mo.prog.funcs[128]? = some Tryz.f128 := mo_fn fmo128
@[go_sem] theorem Mo.call128 (args : Array Value) (w : World) : (callFunc 128 args).run Mo.prog w = .ok (.enter 128 args) w := pf_call fmo128 (by kernel_rfl) (by kernel_rfl) args w
theorem fmo129 : FM[129]? = some Tryz.f129 := fm_of Tryz.func129 (by decide) (by kernel_rfl)
theorem Mo.func129 : Mo.prog.funcs[129]? = some Tryz.f129 := mo_fn fmo129
@[go_sem] theorem Mo.call129 (args : Array Value) (w : World) : (callFunc 129 args).run Mo.prog w = .ok (.enter 129 args) w := pf_call fmo129 (by kernel_rfl) (by kernel_rfl) args w
theorem fmo130 : FM[130]? = some Tryz.f130 := fm_of Tryz.func130 (by decide) (by kernel_rfl)
theorem Mo.func130 : Mo.prog.funcs[130]? = some Tryz.f130 := mo_fn fmo130
@[go_sem] theorem Mo.call130 (args : Array Value) (w : World) : (callFunc 130 args).run Mo.prog w = .ok (.enter 130 args) w := pf_call fmo130 (by kernel_rfl) (by kernel_rfl) args w
theorem fmo131 : FM[131]? = some Tryz.f131 := fm_of Tryz.func131 (by decide) (by kernel_rfl)
theorem Mo.func131 : Mo.prog.funcs[131]? = some Tryz.f131 := mo_fn fmo131
@[go_sem] theorem Mo.call131 (args : Array Value) (w : World) : (callFunc 131 args).run Mo.prog w = .ok (.enter 131 args) w := pf_call fmo131 (by kernel_rfl) (by kernel_rfl) args w
theorem fmo137 : FM[137]? = some Tryz.f137 := fm_of Tryz.func137 (by decide) (by kernel_rfl)
theorem Mo.func137 : Mo.prog.funcs[137]? = some Tryz.f137 := mo_fn fmo137
@[go_sem] theorem Mo.call137 (args : Array Value) (w : World) : (callFunc 137 args).run Mo.prog w = .ok (.enter 137 args) w := pf_call fmo137 (by kernel_rfl) (by kernel_rfl) args w
theorem fmo138 : FM[138]? = some Tryz.f138 := fm_of Tryz.func138 (by decide) (by kernel_rfl)
theorem Mo.func138 : Mo.prog.funcs[138]? = some Tryz.f138 := mo_fn fmo138
@[go_sem] theorem Mo.call138 (args : Array Value) (w : World) : (callFunc 138 args).run Mo.prog w = .ok (.enter 138 args) w := pf_call fmo138 (by kernel_rfl) (by kernel_rfl) args w
theorem fmo140 : FM[140]? = some Tryz.f140 := fm_of Tryz.func140 (by decide) (by kernel_rfl)
theorem Mo.func140 : Mo.prog.funcs[140]? = some Tryz.f140 := mo_fn fmo140
@[go_sem] theorem Mo.call140 (args : Array Value) (w : World) : (callFunc 140 args).run Mo.prog w = .ok (.enter 140 args) w := pf_call fmo140 (by kernel_rfl) (by kernel_rfl) args w
theorem fmo141 : FM[141]? = some Tryz.f141 := fm_of Tryz.func141 (by decide) (by kernel_rfl)
theorem Mo.func141 : Mo.prog.funcs[141]? = some Tryz.f141 := mo_fn fmo141
@[go_sem] theorem Mo.call141 (args : Array Value) (w : World) : (callFunc 141 args).run Mo.prog w = .ok (.enter 141 args) w := pf_call fmo141 (by kernel_rfl) (by kernel_rfl) args w
theorem fmo142 : FM[142]? = some Tryz.f142 := fm_of Tryz.func142 (by decide) (by kernel_rfl)
theorem Mo.func142 : Mo.prog.funcs[142]? = some Tryz.f142 := mo_fn fmo142
@[go_sem] theorem Mo.call142 (args : Array Value) (w : World) : (callFunc 142 args).run Mo.prog w = .ok (.enter 142 args) w := pf_call fmo142 (by kernel_rfl) (by kernel_rfl) args w
theorem fmo161 : FM[161]? = some Tryz.f161 := fm_of Tryz.func161 (by decide) (by kernel_rfl)
theorem Mo.func161 : Mo.prog.funcs[161]? = some Tryz.f161 := mo_fn fmo161
@[go_sem] theorem Mo.call161 (args : Array Value) (w : World) : (callFunc 161 args).run Mo.prog w = .ok (.enter 161 args) w := pf_call fmo161 (by kernel_rfl) (by kernel_rfl) args w
theorem fmo197 : FM[197]? = some Tryz.f197 := fm_of Tryz.func197 (by decide) (by kernel_rfl)
theorem Mo.func197 : Mo.prog.funcs[197]? = some Tryz.f197 := mo_fn fmo197
@[go_sem] theorem Mo.call197 (args : Array Value) (w : World) : (callFunc 197 args).run Mo.prog w = .ok (.enter 197 args) w := pf_call fmo197 (by kernel_rfl) (by kernel_rfl) args w
theorem fmoTypeOf : FM[117]? = some Tryz.f117 := fm_nat Tryz.func117 (by decide) (by kernel_rfl)
theorem fmoComparable : FM[185]? = some Tryz.f185 := fm_nat Tryz.func185 (by decide) (by kernel_rfl)
theorem Mo.func120 : Mo.prog.funcs[120]? = some passFn := mo_fn fm_kp
@[go_sem] theorem Mo.call120 (args : Array Value) (w : World) : (callFunc 120 args).run Mo.prog w = .ok (.enter 120 args) w := pf_call fm_kp passFn_name rfl args w
end Go.Proofs.YtemgilofjbnoaaaGreatDoor
