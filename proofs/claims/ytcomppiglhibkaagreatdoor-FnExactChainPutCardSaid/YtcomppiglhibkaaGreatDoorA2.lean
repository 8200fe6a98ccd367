/- The texts SimOq SimN SimX Lock Fin Bes Trans PassA, joined. -/
import Derived.WalkKit
import Derived.Conc.Listed
import Derived.Calls
import Derived.Conc.Beside
import Derived.Test.YtcomppiglhibkaaGreatDoorA1
/- Each operation is done alike by a model run and the true run, second part: instructions, calls; printed by gensim.py. -/
namespace Go.Proofs.YtcomppiglhibkaaGreatDoor
open Go Go.Conc
set_option linter.unusedVariables false
set_option linter.unusedSimpArgs false

section
variable {P : Program} {F : Array Func} {α β : Type}
/-- an operation that comes to nothing -/
def FailS (U : Program) (s : Sem α) : Prop := ∀ u, ∃ x u', s.run U u = .halt x u' ∧ Halt.fails x
def Goes_ (U : Program) (s : Sem α) : Prop := ∀ u, (∃ a u', s.run U u = .ok a u') ∨ ∃ x u', s.run U u = .halt x u' ∧ Halt.fails x
theorem FailS.sim {U : Program} {s : Sem α} (h : FailS U s) : SimS U P s := by
  intro S u w es _
  obtain ⟨x, u', hx, hf⟩ := h u
  rw [hx]; exact fun _ => .inl hf
theorem FailS.bind {U : Program} {s : Sem α} {f : α → Sem β} (hs : Goes_ U s) (hf : ∀ a, FailS U (f a)) : FailS U (s.bind f) := by
  intro u
  have e : (s.bind f).run U u = match s.run U u with | .ok a w => (f a).run U w | .halt x w => .halt x w := by
    have := congrArg Prod.fst (Sem.runT_bind' U s f u #[])
    rw [Sem.runT_fst] at this
    rw [this, ← Sem.runT_fst U s u #[]]
    rcases s.runT U u #[] with ⟨_ | _, _⟩
    · simp only []; rw [Sem.runT_fst]
    · rfl
  rw [e]
  rcases hs u with ⟨a, u', h⟩ | ⟨x, u', h, hx⟩
  · rw [h]; exact hf a u'
  · rw [h]; exact ⟨x, u', rfl, hx⟩
theorem Goes_.pure (U : Program) (a : α) : Goes_ U (Sem.pure a) := fun u => .inl ⟨a, u, rfl⟩
theorem Goes_.bind {U : Program} {s : Sem α} {f : α → Sem β} (hs : Goes_ U s) (hf : ∀ a, Goes_ U (f a)) : Goes_ U (s.bind f) := by
  intro u
  have e : (s.bind f).run U u = match s.run U u with | .ok a w => (f a).run U w | .halt x w => .halt x w := by
    have := congrArg Prod.fst (Sem.runT_bind' U s f u #[])
    rw [Sem.runT_fst] at this
    rw [this, ← Sem.runT_fst U s u #[]]
    rcases s.runT U u #[] with ⟨_ | _, _⟩
    · simp only []; rw [Sem.runT_fst]
    · rfl
  rw [e]
  rcases hs u with ⟨a, u', h⟩ | ⟨x, u', h, hx⟩
  · rw [h]; exact hf a u'
  · rw [h]; exact .inr ⟨x, u', rfl, hx⟩
theorem goes_holdsCells (U : Program) (a : Addr) (n : Nat) : Goes_ U (Builtin.holdsCells a n) := by
  unfold Builtin.holdsCells
  refine Goes_.bind (s := shape a.block) (fun u => .inl ⟨_, _, rfl⟩) (fun x => ?_)
  cases x with
  | none => exact Goes_.pure U _
  | some x => exact Goes_.pure U _
theorem goes_mayShare (U : Program) (s l n : Nat) (b : Option Addr) (x : Value) : Goes_ U (Builtin.mayShare s l n b x) := by
  have rest : ∀ there : Bool, Goes_ U (if (!there) = true then pure true else match x with
      | .slice (some b') _ _ => do pure (!(← Builtin.holdsCells b' (n * s)) || b.any (·.block == b'.block))
      | _ => pure false) := fun there => by
    split
    · exact Goes_.pure U _
    · split
      · exact Goes_.bind (goes_holdsCells U _ _) (fun _ => Goes_.pure U _)
      · exact Goes_.pure U _
  unfold Builtin.mayShare
  cases b with
  | none => exact Goes_.bind (s := pure true) (Goes_.pure U _) rest
  | some a => exact Goes_.bind (goes_holdsCells U _ _) (fun x => Goes_.bind (s := frozen _) (fun u => .inl ⟨_, _, rfl⟩) (fun y => Goes_.bind (s := pure (x && !y)) (Goes_.pure U _) rest))
theorem fail_append (s l n : Nat) (b : Option Addr) (x : Value) (why : Unsupported) : FailS (PF P F) (do
    if !(← Builtin.mayShare s l n b x) then mark .noRoom
    (unsupported why : Sem α)) := by
  refine FailS.bind (goes_mayShare _ _ _ _ _ _) (fun there => ?_)
  dsimp only
  split
  · exact FailS.bind (s := mark .noRoom) (fun u => .inl ⟨_, _, rfl⟩) (fun _ u => ⟨_, _, rfl, trivial⟩)
  · exact fun u => ⟨_, _, rfl, trivial⟩
set_option maxHeartbeats 8000000 in
theorem sim_append (ts : Array TypeId) (t : TypeId) (args : Array Value) : SimS (PF P F) P (Builtin.append_ ts t args) := by
  unfold Builtin.append_
  repeat' (first
    | with_reducible exact sims_pureM _ | with_reducible exact sims_stuck _ | with_reducible exact sims_unsup _ | with_reducible exact sims_goPanic _
    | with_reducible exact sims_load1 _
    | with_reducible exact sims_store1 _ _
    | with_reducible exact sims_new1 _ _
    | with_reducible exact sims_choose1 _
    | with_reducible exact sims_frozen1 _
    | with_reducible exact sims_noRoom1
    | with_reducible exact sims_mapM (sims_choose1 _)
    | with_reducible exact sim_typeInfo _
    | with_reducible exact sim_underlying _
    | with_reducible exact sim_sizeOf _
    | with_reducible exact sim_isAgg _
    | with_reducible exact sim_zeroValue _
    | with_reducible exact sim_elemOf _
    | with_reducible exact sim_newRow _ _
    | with_reducible exact sim_newVar _ _
    | with_reducible exact sim_askRoom _
    | with_reducible exact sim_part _ _ _
    | with_reducible exact sim_runtimePanic _
    | with_reducible exact sim_boundsPanic _ _ _ _
    | with_reducible exact sim_asIntOf _
    | with_reducible exact sim_asInt _
    | with_reducible exact sim_asBool _
    | with_reducible exact sim_asAgg _
    | with_reducible exact sim_asAddr _
    | with_reducible exact sim_sureAddr _
    | with_reducible exact sim_loadCellsFrom _ _ _ _
    | with_reducible exact sim_storeCells _ _ _
    | with_reducible exact sim_loadCells _ _
    | with_reducible exact sim_loadVar _ _
    | with_reducible exact sim_storeVar _ _ _
    | with_reducible exact sim_numberAt _
    | with_reducible exact sim_behindNumber _
    | with_reducible exact sim_noView _
    | with_reducible exact sim_mayBeOne _ _
    | with_reducible exact sim_sameAddr _ _
    | with_reducible exact sim_samePointer _ _
    | with_reducible exact sim_intArith _ _ _ _
    | with_reducible exact sim_intDiv _ _ _ _
    | with_reducible exact sim_intBits _ _ _ _
    | with_reducible exact sim_shift _ _ _ _ _
    | with_reducible exact sim_intCmp _ _ _
    | with_reducible exact sim_floatArith _ _ _ _
    | with_reducible exact sim_floatCmp _ _ _ _
    | with_reducible exact sim_floatToFloat _ _ _
    | with_reducible exact sim_floatToInt _ _ _
    | with_reducible exact sim_carith _ _ _ _
    | with_reducible exact sim_ccmp _ _ _ _
    | with_reducible exact sim_cconv _ _ _
    | with_reducible exact sim_cadd _ _
    | with_reducible exact sim_csub _ _
    | with_reducible exact sim_cmul _ _
    | with_reducible exact sim_cquo _ _
    | with_reducible exact sim_cproduct _ _ _ _
    | with_reducible exact sim_ccorrected _ _ _ _ _
    | with_reducible exact sim_cquotient _ _ _ _
    | with_reducible exact sim_complexOp _ _ _ _ _ _
    | with_reducible exact sim_stringOp _ _ _
    | with_reducible exact sim_unary _ _
    | with_reducible exact sim_byteOf _
    | with_reducible exact sim_partAt _ _ _
    | with_reducible exact sim_fieldPlace _ _
    | with_reducible exact sim_twoPlaces _ _
    | with_reducible exact sim_addrSub _ _ _
    | with_reducible exact sim_addrCmp _ _ _
    | with_reducible exact sim_addrMod _ _ _
    | with_reducible exact sim_unsafeAdd _ _ _
    | with_reducible exact sim_asNumber _ _
    | with_reducible exact sim_movedNumber _ _ _
    | with_reducible exact sim_movedPointer _ _ _
    | with_reducible exact sim_typeStr _
    | with_reducible exact sim_equalIn _ _ _ _
    | with_reducible exact sim_equal _ _ _
    | with_reducible exact sim_eqGuardIn _ _ _ _
    | with_reducible exact sim_eqGuard _ _ _ _ _ _
    | with_reducible exact sim_binOp _ _ _ _
    | with_reducible exact sim_lenOf _
    | with_reducible exact sim_firstCells _ _ _
    | with_reducible exact FailS.sim (fail_append _ _ _ _ _ _)
    | with_reducible refine sim_forIn_array _ _ (fun _ _ => ?_) _
    | with_reducible refine sim_forIn_range _ _ (fun _ _ => ?_) _
    | ((with_reducible refine sims_prog ?_ ?_); (next => (simp only [holdsPacked_pf, stoodInHeld_pf, eqGuardType_pf]; done)))
    | ((with_reducible refine sims_prog ?_ ?_); (next => rfl))
    | with_reducible refine sims_bindM ?_ (fun _ => ?_)
    | with_reducible refine sims_ite ?_ ?_
    | (dsimp only; done) | dsimp only
    | split
    | (show ∀ _, SimS _ _ _; intro _))
theorem sim_copy (ts : Array TypeId) (t : TypeId) (args : Array Value) : SimS (PF P F) P (Builtin.copy_ ts t args) := by
  unfold Builtin.copy_
  repeat' (first
    | with_reducible exact sims_pureM _ | with_reducible exact sims_stuck _ | with_reducible exact sims_unsup _ | with_reducible exact sims_goPanic _
    | with_reducible exact sims_load1 _
    | with_reducible exact sims_store1 _ _
    | with_reducible exact sims_new1 _ _
    | with_reducible exact sims_choose1 _
    | with_reducible exact sims_frozen1 _
    | with_reducible exact sims_noRoom1
    | with_reducible exact sims_mapM (sims_choose1 _)
    | with_reducible exact sim_typeInfo _
    | with_reducible exact sim_underlying _
    | with_reducible exact sim_sizeOf _
    | with_reducible exact sim_isAgg _
    | with_reducible exact sim_zeroValue _
    | with_reducible exact sim_elemOf _
    | with_reducible exact sim_newRow _ _
    | with_reducible exact sim_newVar _ _
    | with_reducible exact sim_askRoom _
    | with_reducible exact sim_part _ _ _
    | with_reducible exact sim_runtimePanic _
    | with_reducible exact sim_boundsPanic _ _ _ _
    | with_reducible exact sim_asIntOf _
    | with_reducible exact sim_asInt _
    | with_reducible exact sim_asBool _
    | with_reducible exact sim_asAgg _
    | with_reducible exact sim_asAddr _
    | with_reducible exact sim_sureAddr _
    | with_reducible exact sim_loadCellsFrom _ _ _ _
    | with_reducible exact sim_storeCells _ _ _
    | with_reducible exact sim_loadCells _ _
    | with_reducible exact sim_loadVar _ _
    | with_reducible exact sim_storeVar _ _ _
    | with_reducible exact sim_numberAt _
    | with_reducible exact sim_behindNumber _
    | with_reducible exact sim_noView _
    | with_reducible exact sim_mayBeOne _ _
    | with_reducible exact sim_sameAddr _ _
    | with_reducible exact sim_samePointer _ _
    | with_reducible exact sim_intArith _ _ _ _
    | with_reducible exact sim_intDiv _ _ _ _
    | with_reducible exact sim_intBits _ _ _ _
    | with_reducible exact sim_shift _ _ _ _ _
    | with_reducible exact sim_intCmp _ _ _
    | with_reducible exact sim_floatArith _ _ _ _
    | with_reducible exact sim_floatCmp _ _ _ _
    | with_reducible exact sim_floatToFloat _ _ _
    | with_reducible exact sim_floatToInt _ _ _
    | with_reducible exact sim_carith _ _ _ _
    | with_reducible exact sim_ccmp _ _ _ _
    | with_reducible exact sim_cconv _ _ _
    | with_reducible exact sim_cadd _ _
    | with_reducible exact sim_csub _ _
    | with_reducible exact sim_cmul _ _
    | with_reducible exact sim_cquo _ _
    | with_reducible exact sim_cproduct _ _ _ _
    | with_reducible exact sim_ccorrected _ _ _ _ _
    | with_reducible exact sim_cquotient _ _ _ _
    | with_reducible exact sim_complexOp _ _ _ _ _ _
    | with_reducible exact sim_stringOp _ _ _
    | with_reducible exact sim_unary _ _
    | with_reducible exact sim_byteOf _
    | with_reducible exact sim_partAt _ _ _
    | with_reducible exact sim_fieldPlace _ _
    | with_reducible exact sim_twoPlaces _ _
    | with_reducible exact sim_addrSub _ _ _
    | with_reducible exact sim_addrCmp _ _ _
    | with_reducible exact sim_addrMod _ _ _
    | with_reducible exact sim_unsafeAdd _ _ _
    | with_reducible exact sim_asNumber _ _
    | with_reducible exact sim_movedNumber _ _ _
    | with_reducible exact sim_movedPointer _ _ _
    | with_reducible exact sim_typeStr _
    | with_reducible exact sim_equalIn _ _ _ _
    | with_reducible exact sim_equal _ _ _
    | with_reducible exact sim_eqGuardIn _ _ _ _
    | with_reducible exact sim_eqGuard _ _ _ _ _ _
    | with_reducible exact sim_binOp _ _ _ _
    | with_reducible exact sim_lenOf _
    | with_reducible exact sim_firstCells _ _ _
    | with_reducible exact FailS.sim (fail_append _ _ _ _ _ _)
    | with_reducible exact sim_append _ _ _
    | with_reducible refine sim_forIn_array _ _ (fun _ _ => ?_) _
    | with_reducible refine sim_forIn_range _ _ (fun _ _ => ?_) _
    | ((with_reducible refine sims_prog ?_ ?_); (next => (simp only [holdsPacked_pf, stoodInHeld_pf, eqGuardType_pf]; done)))
    | ((with_reducible refine sims_prog ?_ ?_); (next => rfl))
    | with_reducible refine sims_bindM ?_ (fun _ => ?_)
    | with_reducible refine sims_ite ?_ ?_
    | (dsimp only; done) | dsimp only
    | split
    | (show ∀ _, SimS _ _ _; intro _))
theorem sim_alloc (e : TypeId) (h : Bool) (v : Value) : SimS (PF P F) P (Instr.alloc e h v) := by
  unfold Instr.alloc
  repeat' (first
    | with_reducible exact sims_pureM _ | with_reducible exact sims_stuck _ | with_reducible exact sims_unsup _ | with_reducible exact sims_goPanic _
    | with_reducible exact sims_load1 _
    | with_reducible exact sims_store1 _ _
    | with_reducible exact sims_new1 _ _
    | with_reducible exact sims_choose1 _
    | with_reducible exact sims_frozen1 _
    | with_reducible exact sims_noRoom1
    | with_reducible exact sims_mapM (sims_choose1 _)
    | with_reducible exact sim_typeInfo _
    | with_reducible exact sim_underlying _
    | with_reducible exact sim_sizeOf _
    | with_reducible exact sim_isAgg _
    | with_reducible exact sim_zeroValue _
    | with_reducible exact sim_elemOf _
    | with_reducible exact sim_newRow _ _
    | with_reducible exact sim_newVar _ _
    | with_reducible exact sim_askRoom _
    | with_reducible exact sim_part _ _ _
    | with_reducible exact sim_runtimePanic _
    | with_reducible exact sim_boundsPanic _ _ _ _
    | with_reducible exact sim_asIntOf _
    | with_reducible exact sim_asInt _
    | with_reducible exact sim_asBool _
    | with_reducible exact sim_asAgg _
    | with_reducible exact sim_asAddr _
    | with_reducible exact sim_sureAddr _
    | with_reducible exact sim_loadCellsFrom _ _ _ _
    | with_reducible exact sim_storeCells _ _ _
    | with_reducible exact sim_loadCells _ _
    | with_reducible exact sim_loadVar _ _
    | with_reducible exact sim_storeVar _ _ _
    | with_reducible exact sim_numberAt _
    | with_reducible exact sim_behindNumber _
    | with_reducible exact sim_noView _
    | with_reducible exact sim_mayBeOne _ _
    | with_reducible exact sim_sameAddr _ _
    | with_reducible exact sim_samePointer _ _
    | with_reducible exact sim_intArith _ _ _ _
    | with_reducible exact sim_intDiv _ _ _ _
    | with_reducible exact sim_intBits _ _ _ _
    | with_reducible exact sim_shift _ _ _ _ _
    | with_reducible exact sim_intCmp _ _ _
    | with_reducible exact sim_floatArith _ _ _ _
    | with_reducible exact sim_floatCmp _ _ _ _
    | with_reducible exact sim_floatToFloat _ _ _
    | with_reducible exact sim_floatToInt _ _ _
    | with_reducible exact sim_carith _ _ _ _
    | with_reducible exact sim_ccmp _ _ _ _
    | with_reducible exact sim_cconv _ _ _
    | with_reducible exact sim_cadd _ _
    | with_reducible exact sim_csub _ _
    | with_reducible exact sim_cmul _ _
    | with_reducible exact sim_cquo _ _
    | with_reducible exact sim_cproduct _ _ _ _
    | with_reducible exact sim_ccorrected _ _ _ _ _
    | with_reducible exact sim_cquotient _ _ _ _
    | with_reducible exact sim_complexOp _ _ _ _ _ _
    | with_reducible exact sim_stringOp _ _ _
    | with_reducible exact sim_unary _ _
    | with_reducible exact sim_byteOf _
    | with_reducible exact sim_partAt _ _ _
    | with_reducible exact sim_fieldPlace _ _
    | with_reducible exact sim_twoPlaces _ _
    | with_reducible exact sim_addrSub _ _ _
    | with_reducible exact sim_addrCmp _ _ _
    | with_reducible exact sim_addrMod _ _ _
    | with_reducible exact sim_unsafeAdd _ _ _
    | with_reducible exact sim_asNumber _ _
    | with_reducible exact sim_movedNumber _ _ _
    | with_reducible exact sim_movedPointer _ _ _
    | with_reducible exact sim_typeStr _
    | with_reducible exact sim_equalIn _ _ _ _
    | with_reducible exact sim_equal _ _ _
    | with_reducible exact sim_eqGuardIn _ _ _ _
    | with_reducible exact sim_eqGuard _ _ _ _ _ _
    | with_reducible exact sim_binOp _ _ _ _
    | with_reducible exact sim_lenOf _
    | with_reducible exact sim_firstCells _ _ _
    | with_reducible exact FailS.sim (fail_append _ _ _ _ _ _)
    | with_reducible exact sim_append _ _ _
    | with_reducible exact sim_copy _ _ _
    | with_reducible refine sim_forIn_array _ _ (fun _ _ => ?_) _
    | with_reducible refine sim_forIn_range _ _ (fun _ _ => ?_) _
    | ((with_reducible refine sims_prog ?_ ?_); (next => (simp only [holdsPacked_pf, stoodInHeld_pf, eqGuardType_pf]; done)))
    | ((with_reducible refine sims_prog ?_ ?_); (next => rfl))
    | with_reducible refine sims_bindM ?_ (fun _ => ?_)
    | with_reducible refine sims_ite ?_ ?_
    | (dsimp only; done) | dsimp only
    | split
    | (show ∀ _, SimS _ _ _; intro _))
theorem sim_box (e : TypeId) (v : Value) : SimS (PF P F) P (Instr.box e v) := by
  unfold Instr.box
  repeat' (first
    | with_reducible exact sims_pureM _ | with_reducible exact sims_stuck _ | with_reducible exact sims_unsup _ | with_reducible exact sims_goPanic _
    | with_reducible exact sims_load1 _
    | with_reducible exact sims_store1 _ _
    | with_reducible exact sims_new1 _ _
    | with_reducible exact sims_choose1 _
    | with_reducible exact sims_frozen1 _
    | with_reducible exact sims_noRoom1
    | with_reducible exact sims_mapM (sims_choose1 _)
    | with_reducible exact sim_typeInfo _
    | with_reducible exact sim_underlying _
    | with_reducible exact sim_sizeOf _
    | with_reducible exact sim_isAgg _
    | with_reducible exact sim_zeroValue _
    | with_reducible exact sim_elemOf _
    | with_reducible exact sim_newRow _ _
    | with_reducible exact sim_newVar _ _
    | with_reducible exact sim_askRoom _
    | with_reducible exact sim_part _ _ _
    | with_reducible exact sim_runtimePanic _
    | with_reducible exact sim_boundsPanic _ _ _ _
    | with_reducible exact sim_asIntOf _
    | with_reducible exact sim_asInt _
    | with_reducible exact sim_asBool _
    | with_reducible exact sim_asAgg _
    | with_reducible exact sim_asAddr _
    | with_reducible exact sim_sureAddr _
    | with_reducible exact sim_loadCellsFrom _ _ _ _
    | with_reducible exact sim_storeCells _ _ _
    | with_reducible exact sim_loadCells _ _
    | with_reducible exact sim_loadVar _ _
    | with_reducible exact sim_storeVar _ _ _
    | with_reducible exact sim_numberAt _
    | with_reducible exact sim_behindNumber _
    | with_reducible exact sim_noView _
    | with_reducible exact sim_mayBeOne _ _
    | with_reducible exact sim_sameAddr _ _
    | with_reducible exact sim_samePointer _ _
    | with_reducible exact sim_intArith _ _ _ _
    | with_reducible exact sim_intDiv _ _ _ _
    | with_reducible exact sim_intBits _ _ _ _
    | with_reducible exact sim_shift _ _ _ _ _
    | with_reducible exact sim_intCmp _ _ _
    | with_reducible exact sim_floatArith _ _ _ _
    | with_reducible exact sim_floatCmp _ _ _ _
    | with_reducible exact sim_floatToFloat _ _ _
    | with_reducible exact sim_floatToInt _ _ _
    | with_reducible exact sim_carith _ _ _ _
    | with_reducible exact sim_ccmp _ _ _ _
    | with_reducible exact sim_cconv _ _ _
    | with_reducible exact sim_cadd _ _
    | with_reducible exact sim_csub _ _
    | with_reducible exact sim_cmul _ _
    | with_reducible exact sim_cquo _ _
    | with_reducible exact sim_cproduct _ _ _ _
    | with_reducible exact sim_ccorrected _ _ _ _ _
    | with_reducible exact sim_cquotient _ _ _ _
    | with_reducible exact sim_complexOp _ _ _ _ _ _
    | with_reducible exact sim_stringOp _ _ _
    | with_reducible exact sim_unary _ _
    | with_reducible exact sim_byteOf _
    | with_reducible exact sim_partAt _ _ _
    | with_reducible exact sim_fieldPlace _ _
    | with_reducible exact sim_twoPlaces _ _
    | with_reducible exact sim_addrSub _ _ _
    | with_reducible exact sim_addrCmp _ _ _
    | with_reducible exact sim_addrMod _ _ _
    | with_reducible exact sim_unsafeAdd _ _ _
    | with_reducible exact sim_asNumber _ _
    | with_reducible exact sim_movedNumber _ _ _
    | with_reducible exact sim_movedPointer _ _ _
    | with_reducible exact sim_typeStr _
    | with_reducible exact sim_equalIn _ _ _ _
    | with_reducible exact sim_equal _ _ _
    | with_reducible exact sim_eqGuardIn _ _ _ _
    | with_reducible exact sim_eqGuard _ _ _ _ _ _
    | with_reducible exact sim_binOp _ _ _ _
    | with_reducible exact sim_lenOf _
    | with_reducible exact sim_firstCells _ _ _
    | with_reducible exact FailS.sim (fail_append _ _ _ _ _ _)
    | with_reducible exact sim_append _ _ _
    | with_reducible exact sim_copy _ _ _
    | with_reducible exact sim_alloc _ _ _
    | with_reducible refine sim_forIn_array _ _ (fun _ _ => ?_) _
    | with_reducible refine sim_forIn_range _ _ (fun _ _ => ?_) _
    | ((with_reducible refine sims_prog ?_ ?_); (next => (simp only [holdsPacked_pf, stoodInHeld_pf, eqGuardType_pf]; done)))
    | ((with_reducible refine sims_prog ?_ ?_); (next => rfl))
    | with_reducible refine sims_bindM ?_ (fun _ => ?_)
    | with_reducible refine sims_ite ?_ ?_
    | (dsimp only; done) | dsimp only
    | split
    | (show ∀ _, SimS _ _ _; intro _))
theorem sim_loadAt (e : TypeId) (v : Value) : SimS (PF P F) P (Instr.loadAt e v) := by
  unfold Instr.loadAt
  repeat' (first
    | with_reducible exact sims_pureM _ | with_reducible exact sims_stuck _ | with_reducible exact sims_unsup _ | with_reducible exact sims_goPanic _
    | with_reducible exact sims_load1 _
    | with_reducible exact sims_store1 _ _
    | with_reducible exact sims_new1 _ _
    | with_reducible exact sims_choose1 _
    | with_reducible exact sims_frozen1 _
    | with_reducible exact sims_noRoom1
    | with_reducible exact sims_mapM (sims_choose1 _)
    | with_reducible exact sim_typeInfo _
    | with_reducible exact sim_underlying _
    | with_reducible exact sim_sizeOf _
    | with_reducible exact sim_isAgg _
    | with_reducible exact sim_zeroValue _
    | with_reducible exact sim_elemOf _
    | with_reducible exact sim_newRow _ _
    | with_reducible exact sim_newVar _ _
    | with_reducible exact sim_askRoom _
    | with_reducible exact sim_part _ _ _
    | with_reducible exact sim_runtimePanic _
    | with_reducible exact sim_boundsPanic _ _ _ _
    | with_reducible exact sim_asIntOf _
    | with_reducible exact sim_asInt _
    | with_reducible exact sim_asBool _
    | with_reducible exact sim_asAgg _
    | with_reducible exact sim_asAddr _
    | with_reducible exact sim_sureAddr _
    | with_reducible exact sim_loadCellsFrom _ _ _ _
    | with_reducible exact sim_storeCells _ _ _
    | with_reducible exact sim_loadCells _ _
    | with_reducible exact sim_loadVar _ _
    | with_reducible exact sim_storeVar _ _ _
    | with_reducible exact sim_numberAt _
    | with_reducible exact sim_behindNumber _
    | with_reducible exact sim_noView _
    | with_reducible exact sim_mayBeOne _ _
    | with_reducible exact sim_sameAddr _ _
    | with_reducible exact sim_samePointer _ _
    | with_reducible exact sim_intArith _ _ _ _
    | with_reducible exact sim_intDiv _ _ _ _
    | with_reducible exact sim_intBits _ _ _ _
    | with_reducible exact sim_shift _ _ _ _ _
    | with_reducible exact sim_intCmp _ _ _
    | with_reducible exact sim_floatArith _ _ _ _
    | with_reducible exact sim_floatCmp _ _ _ _
    | with_reducible exact sim_floatToFloat _ _ _
    | with_reducible exact sim_floatToInt _ _ _
    | with_reducible exact sim_carith _ _ _ _
    | with_reducible exact sim_ccmp _ _ _ _
    | with_reducible exact sim_cconv _ _ _
    | with_reducible exact sim_cadd _ _
    | with_reducible exact sim_csub _ _
    | with_reducible exact sim_cmul _ _
    | with_reducible exact sim_cquo _ _
    | with_reducible exact sim_cproduct _ _ _ _
    | with_reducible exact sim_ccorrected _ _ _ _ _
    | with_reducible exact sim_cquotient _ _ _ _
    | with_reducible exact sim_complexOp _ _ _ _ _ _
    | with_reducible exact sim_stringOp _ _ _
    | with_reducible exact sim_unary _ _
    | with_reducible exact sim_byteOf _
    | with_reducible exact sim_partAt _ _ _
    | with_reducible exact sim_fieldPlace _ _
    | with_reducible exact sim_twoPlaces _ _
    | with_reducible exact sim_addrSub _ _ _
    | with_reducible exact sim_addrCmp _ _ _
    | with_reducible exact sim_addrMod _ _ _
    | with_reducible exact sim_unsafeAdd _ _ _
    | with_reducible exact sim_asNumber _ _
    | with_reducible exact sim_movedNumber _ _ _
    | with_reducible exact sim_movedPointer _ _ _
    | with_reducible exact sim_typeStr _
    | with_reducible exact sim_equalIn _ _ _ _
    | with_reducible exact sim_equal _ _ _
    | with_reducible exact sim_eqGuardIn _ _ _ _
    | with_reducible exact sim_eqGuard _ _ _ _ _ _
    | with_reducible exact sim_binOp _ _ _ _
    | with_reducible exact sim_lenOf _
    | with_reducible exact sim_firstCells _ _ _
    | with_reducible exact FailS.sim (fail_append _ _ _ _ _ _)
    | with_reducible exact sim_append _ _ _
    | with_reducible exact sim_copy _ _ _
    | with_reducible exact sim_alloc _ _ _
    | with_reducible exact sim_box _ _
    | with_reducible refine sim_forIn_array _ _ (fun _ _ => ?_) _
    | with_reducible refine sim_forIn_range _ _ (fun _ _ => ?_) _
    | ((with_reducible refine sims_prog ?_ ?_); (next => (simp only [holdsPacked_pf, stoodInHeld_pf, eqGuardType_pf]; done)))
    | ((with_reducible refine sims_prog ?_ ?_); (next => rfl))
    | with_reducible refine sims_bindM ?_ (fun _ => ?_)
    | with_reducible refine sims_ite ?_ ?_
    | (dsimp only; done) | dsimp only
    | split
    | (show ∀ _, SimS _ _ _; intro _))
theorem sim_storeAt (e : TypeId) (v x : Value) : SimS (PF P F) P (Instr.storeAt e v x) := by
  unfold Instr.storeAt
  repeat' (first
    | with_reducible exact sims_pureM _ | with_reducible exact sims_stuck _ | with_reducible exact sims_unsup _ | with_reducible exact sims_goPanic _
    | with_reducible exact sims_load1 _
    | with_reducible exact sims_store1 _ _
    | with_reducible exact sims_new1 _ _
    | with_reducible exact sims_choose1 _
    | with_reducible exact sims_frozen1 _
    | with_reducible exact sims_noRoom1
    | with_reducible exact sims_mapM (sims_choose1 _)
    | with_reducible exact sim_typeInfo _
    | with_reducible exact sim_underlying _
    | with_reducible exact sim_sizeOf _
    | with_reducible exact sim_isAgg _
    | with_reducible exact sim_zeroValue _
    | with_reducible exact sim_elemOf _
    | with_reducible exact sim_newRow _ _
    | with_reducible exact sim_newVar _ _
    | with_reducible exact sim_askRoom _
    | with_reducible exact sim_part _ _ _
    | with_reducible exact sim_runtimePanic _
    | with_reducible exact sim_boundsPanic _ _ _ _
    | with_reducible exact sim_asIntOf _
    | with_reducible exact sim_asInt _
    | with_reducible exact sim_asBool _
    | with_reducible exact sim_asAgg _
    | with_reducible exact sim_asAddr _
    | with_reducible exact sim_sureAddr _
    | with_reducible exact sim_loadCellsFrom _ _ _ _
    | with_reducible exact sim_storeCells _ _ _
    | with_reducible exact sim_loadCells _ _
    | with_reducible exact sim_loadVar _ _
    | with_reducible exact sim_storeVar _ _ _
    | with_reducible exact sim_numberAt _
    | with_reducible exact sim_behindNumber _
    | with_reducible exact sim_noView _
    | with_reducible exact sim_mayBeOne _ _
    | with_reducible exact sim_sameAddr _ _
    | with_reducible exact sim_samePointer _ _
    | with_reducible exact sim_intArith _ _ _ _
    | with_reducible exact sim_intDiv _ _ _ _
    | with_reducible exact sim_intBits _ _ _ _
    | with_reducible exact sim_shift _ _ _ _ _
    | with_reducible exact sim_intCmp _ _ _
    | with_reducible exact sim_floatArith _ _ _ _
    | with_reducible exact sim_floatCmp _ _ _ _
    | with_reducible exact sim_floatToFloat _ _ _
    | with_reducible exact sim_floatToInt _ _ _
    | with_reducible exact sim_carith _ _ _ _
    | with_reducible exact sim_ccmp _ _ _ _
    | with_reducible exact sim_cconv _ _ _
    | with_reducible exact sim_cadd _ _
    | with_reducible exact sim_csub _ _
    | with_reducible exact sim_cmul _ _
    | with_reducible exact sim_cquo _ _
    | with_reducible exact sim_cproduct _ _ _ _
    | with_reducible exact sim_ccorrected _ _ _ _ _
    | with_reducible exact sim_cquotient _ _ _ _
    | with_reducible exact sim_complexOp _ _ _ _ _ _
    | with_reducible exact sim_stringOp _ _ _
    | with_reducible exact sim_unary _ _
    | with_reducible exact sim_byteOf _
    | with_reducible exact sim_partAt _ _ _
    | with_reducible exact sim_fieldPlace _ _
    | with_reducible exact sim_twoPlaces _ _
    | with_reducible exact sim_addrSub _ _ _
    | with_reducible exact sim_addrCmp _ _ _
    | with_reducible exact sim_addrMod _ _ _
    | with_reducible exact sim_unsafeAdd _ _ _
    | with_reducible exact sim_asNumber _ _
    | with_reducible exact sim_movedNumber _ _ _
    | with_reducible exact sim_movedPointer _ _ _
    | with_reducible exact sim_typeStr _
    | with_reducible exact sim_equalIn _ _ _ _
    | with_reducible exact sim_equal _ _ _
    | with_reducible exact sim_eqGuardIn _ _ _ _
    | with_reducible exact sim_eqGuard _ _ _ _ _ _
    | with_reducible exact sim_binOp _ _ _ _
    | with_reducible exact sim_lenOf _
    | with_reducible exact sim_firstCells _ _ _
    | with_reducible exact FailS.sim (fail_append _ _ _ _ _ _)
    | with_reducible exact sim_append _ _ _
    | with_reducible exact sim_copy _ _ _
    | with_reducible exact sim_alloc _ _ _
    | with_reducible exact sim_box _ _
    | with_reducible exact sim_loadAt _ _
    | with_reducible refine sim_forIn_array _ _ (fun _ _ => ?_) _
    | with_reducible refine sim_forIn_range _ _ (fun _ _ => ?_) _
    | ((with_reducible refine sims_prog ?_ ?_); (next => (simp only [holdsPacked_pf, stoodInHeld_pf, eqGuardType_pf]; done)))
    | ((with_reducible refine sims_prog ?_ ?_); (next => rfl))
    | with_reducible refine sims_bindM ?_ (fun _ => ?_)
    | with_reducible refine sims_ite ?_ ?_
    | (dsimp only; done) | dsimp only
    | split
    | (show ∀ _, SimS _ _ _; intro _))
theorem sim_fieldAt (e : TypeId) (v : Value) (f : Nat) : SimS (PF P F) P (Instr.fieldAt e v f) := by
  unfold Instr.fieldAt
  repeat' (first
    | with_reducible exact sims_pureM _ | with_reducible exact sims_stuck _ | with_reducible exact sims_unsup _ | with_reducible exact sims_goPanic _
    | with_reducible exact sims_load1 _
    | with_reducible exact sims_store1 _ _
    | with_reducible exact sims_new1 _ _
    | with_reducible exact sims_choose1 _
    | with_reducible exact sims_frozen1 _
    | with_reducible exact sims_noRoom1
    | with_reducible exact sims_mapM (sims_choose1 _)
    | with_reducible exact sim_typeInfo _
    | with_reducible exact sim_underlying _
    | with_reducible exact sim_sizeOf _
    | with_reducible exact sim_isAgg _
    | with_reducible exact sim_zeroValue _
    | with_reducible exact sim_elemOf _
    | with_reducible exact sim_newRow _ _
    | with_reducible exact sim_newVar _ _
    | with_reducible exact sim_askRoom _
    | with_reducible exact sim_part _ _ _
    | with_reducible exact sim_runtimePanic _
    | with_reducible exact sim_boundsPanic _ _ _ _
    | with_reducible exact sim_asIntOf _
    | with_reducible exact sim_asInt _
    | with_reducible exact sim_asBool _
    | with_reducible exact sim_asAgg _
    | with_reducible exact sim_asAddr _
    | with_reducible exact sim_sureAddr _
    | with_reducible exact sim_loadCellsFrom _ _ _ _
    | with_reducible exact sim_storeCells _ _ _
    | with_reducible exact sim_loadCells _ _
    | with_reducible exact sim_loadVar _ _
    | with_reducible exact sim_storeVar _ _ _
    | with_reducible exact sim_numberAt _
    | with_reducible exact sim_behindNumber _
    | with_reducible exact sim_noView _
    | with_reducible exact sim_mayBeOne _ _
    | with_reducible exact sim_sameAddr _ _
    | with_reducible exact sim_samePointer _ _
    | with_reducible exact sim_intArith _ _ _ _
    | with_reducible exact sim_intDiv _ _ _ _
    | with_reducible exact sim_intBits _ _ _ _
    | with_reducible exact sim_shift _ _ _ _ _
    | with_reducible exact sim_intCmp _ _ _
    | with_reducible exact sim_floatArith _ _ _ _
    | with_reducible exact sim_floatCmp _ _ _ _
    | with_reducible exact sim_floatToFloat _ _ _
    | with_reducible exact sim_floatToInt _ _ _
    | with_reducible exact sim_carith _ _ _ _
    | with_reducible exact sim_ccmp _ _ _ _
    | with_reducible exact sim_cconv _ _ _
    | with_reducible exact sim_cadd _ _
    | with_reducible exact sim_csub _ _
    | with_reducible exact sim_cmul _ _
    | with_reducible exact sim_cquo _ _
    | with_reducible exact sim_cproduct _ _ _ _
    | with_reducible exact sim_ccorrected _ _ _ _ _
    | with_reducible exact sim_cquotient _ _ _ _
    | with_reducible exact sim_complexOp _ _ _ _ _ _
    | with_reducible exact sim_stringOp _ _ _
    | with_reducible exact sim_unary _ _
    | with_reducible exact sim_byteOf _
    | with_reducible exact sim_partAt _ _ _
    | with_reducible exact sim_fieldPlace _ _
    | with_reducible exact sim_twoPlaces _ _
    | with_reducible exact sim_addrSub _ _ _
    | with_reducible exact sim_addrCmp _ _ _
    | with_reducible exact sim_addrMod _ _ _
    | with_reducible exact sim_unsafeAdd _ _ _
    | with_reducible exact sim_asNumber _ _
    | with_reducible exact sim_movedNumber _ _ _
    | with_reducible exact sim_movedPointer _ _ _
    | with_reducible exact sim_typeStr _
    | with_reducible exact sim_equalIn _ _ _ _
    | with_reducible exact sim_equal _ _ _
    | with_reducible exact sim_eqGuardIn _ _ _ _
    | with_reducible exact sim_eqGuard _ _ _ _ _ _
    | with_reducible exact sim_binOp _ _ _ _
    | with_reducible exact sim_lenOf _
    | with_reducible exact sim_firstCells _ _ _
    | with_reducible exact FailS.sim (fail_append _ _ _ _ _ _)
    | with_reducible exact sim_append _ _ _
    | with_reducible exact sim_copy _ _ _
    | with_reducible exact sim_alloc _ _ _
    | with_reducible exact sim_box _ _
    | with_reducible exact sim_loadAt _ _
    | with_reducible exact sim_storeAt _ _ _
    | with_reducible refine sim_forIn_array _ _ (fun _ _ => ?_) _
    | with_reducible refine sim_forIn_range _ _ (fun _ _ => ?_) _
    | ((with_reducible refine sims_prog ?_ ?_); (next => (simp only [holdsPacked_pf, stoodInHeld_pf, eqGuardType_pf]; done)))
    | ((with_reducible refine sims_prog ?_ ?_); (next => rfl))
    | with_reducible refine sims_bindM ?_ (fun _ => ?_)
    | with_reducible refine sims_ite ?_ ?_
    | (dsimp only; done) | dsimp only
    | split
    | (show ∀ _, SimS _ _ _; intro _))
theorem sim_indexAt (e : TypeId) (v x : Value) : SimS (PF P F) P (Instr.indexAt e v x) := by
  unfold Instr.indexAt
  repeat' (first
    | with_reducible exact sims_pureM _ | with_reducible exact sims_stuck _ | with_reducible exact sims_unsup _ | with_reducible exact sims_goPanic _
    | with_reducible exact sims_load1 _
    | with_reducible exact sims_store1 _ _
    | with_reducible exact sims_new1 _ _
    | with_reducible exact sims_choose1 _
    | with_reducible exact sims_frozen1 _
    | with_reducible exact sims_noRoom1
    | with_reducible exact sims_mapM (sims_choose1 _)
    | with_reducible exact sim_typeInfo _
    | with_reducible exact sim_underlying _
    | with_reducible exact sim_sizeOf _
    | with_reducible exact sim_isAgg _
    | with_reducible exact sim_zeroValue _
    | with_reducible exact sim_elemOf _
    | with_reducible exact sim_newRow _ _
    | with_reducible exact sim_newVar _ _
    | with_reducible exact sim_askRoom _
    | with_reducible exact sim_part _ _ _
    | with_reducible exact sim_runtimePanic _
    | with_reducible exact sim_boundsPanic _ _ _ _
    | with_reducible exact sim_asIntOf _
    | with_reducible exact sim_asInt _
    | with_reducible exact sim_asBool _
    | with_reducible exact sim_asAgg _
    | with_reducible exact sim_asAddr _
    | with_reducible exact sim_sureAddr _
    | with_reducible exact sim_loadCellsFrom _ _ _ _
    | with_reducible exact sim_storeCells _ _ _
    | with_reducible exact sim_loadCells _ _
    | with_reducible exact sim_loadVar _ _
    | with_reducible exact sim_storeVar _ _ _
    | with_reducible exact sim_numberAt _
    | with_reducible exact sim_behindNumber _
    | with_reducible exact sim_noView _
    | with_reducible exact sim_mayBeOne _ _
    | with_reducible exact sim_sameAddr _ _
    | with_reducible exact sim_samePointer _ _
    | with_reducible exact sim_intArith _ _ _ _
    | with_reducible exact sim_intDiv _ _ _ _
    | with_reducible exact sim_intBits _ _ _ _
    | with_reducible exact sim_shift _ _ _ _ _
    | with_reducible exact sim_intCmp _ _ _
    | with_reducible exact sim_floatArith _ _ _ _
    | with_reducible exact sim_floatCmp _ _ _ _
    | with_reducible exact sim_floatToFloat _ _ _
    | with_reducible exact sim_floatToInt _ _ _
    | with_reducible exact sim_carith _ _ _ _
    | with_reducible exact sim_ccmp _ _ _ _
    | with_reducible exact sim_cconv _ _ _
    | with_reducible exact sim_cadd _ _
    | with_reducible exact sim_csub _ _
    | with_reducible exact sim_cmul _ _
    | with_reducible exact sim_cquo _ _
    | with_reducible exact sim_cproduct _ _ _ _
    | with_reducible exact sim_ccorrected _ _ _ _ _
    | with_reducible exact sim_cquotient _ _ _ _
    | with_reducible exact sim_complexOp _ _ _ _ _ _
    | with_reducible exact sim_stringOp _ _ _
    | with_reducible exact sim_unary _ _
    | with_reducible exact sim_byteOf _
    | with_reducible exact sim_partAt _ _ _
    | with_reducible exact sim_fieldPlace _ _
    | with_reducible exact sim_twoPlaces _ _
    | with_reducible exact sim_addrSub _ _ _
    | with_reducible exact sim_addrCmp _ _ _
    | with_reducible exact sim_addrMod _ _ _
    | with_reducible exact sim_unsafeAdd _ _ _
    | with_reducible exact sim_asNumber _ _
    | with_reducible exact sim_movedNumber _ _ _
    | with_reducible exact sim_movedPointer _ _ _
    | with_reducible exact sim_typeStr _
    | with_reducible exact sim_equalIn _ _ _ _
    | with_reducible exact sim_equal _ _ _
    | with_reducible exact sim_eqGuardIn _ _ _ _
    | with_reducible exact sim_eqGuard _ _ _ _ _ _
    | with_reducible exact sim_binOp _ _ _ _
    | with_reducible exact sim_lenOf _
    | with_reducible exact sim_firstCells _ _ _
    | with_reducible exact FailS.sim (fail_append _ _ _ _ _ _)
    | with_reducible exact sim_append _ _ _
    | with_reducible exact sim_copy _ _ _
    | with_reducible exact sim_alloc _ _ _
    | with_reducible exact sim_box _ _
    | with_reducible exact sim_loadAt _ _
    | with_reducible exact sim_storeAt _ _ _
    | with_reducible exact sim_fieldAt _ _ _
    | with_reducible refine sim_forIn_array _ _ (fun _ _ => ?_) _
    | with_reducible refine sim_forIn_range _ _ (fun _ _ => ?_) _
    | ((with_reducible refine sims_prog ?_ ?_); (next => (simp only [holdsPacked_pf, stoodInHeld_pf, eqGuardType_pf]; done)))
    | ((with_reducible refine sims_prog ?_ ?_); (next => rfl))
    | with_reducible refine sims_bindM ?_ (fun _ => ?_)
    | with_reducible refine sims_ite ?_ ?_
    | (dsimp only; done) | dsimp only
    | split
    | (show ∀ _, SimS _ _ _; intro _))
theorem sim_extract (v : Value) (i : Nat) : SimS (PF P F) P (Instr.extract v i) := by
  unfold Instr.extract
  repeat' (first
    | with_reducible exact sims_pureM _ | with_reducible exact sims_stuck _ | with_reducible exact sims_unsup _ | with_reducible exact sims_goPanic _
    | with_reducible exact sims_load1 _
    | with_reducible exact sims_store1 _ _
    | with_reducible exact sims_new1 _ _
    | with_reducible exact sims_choose1 _
    | with_reducible exact sims_frozen1 _
    | with_reducible exact sims_noRoom1
    | with_reducible exact sims_mapM (sims_choose1 _)
    | with_reducible exact sim_typeInfo _
    | with_reducible exact sim_underlying _
    | with_reducible exact sim_sizeOf _
    | with_reducible exact sim_isAgg _
    | with_reducible exact sim_zeroValue _
    | with_reducible exact sim_elemOf _
    | with_reducible exact sim_newRow _ _
    | with_reducible exact sim_newVar _ _
    | with_reducible exact sim_askRoom _
    | with_reducible exact sim_part _ _ _
    | with_reducible exact sim_runtimePanic _
    | with_reducible exact sim_boundsPanic _ _ _ _
    | with_reducible exact sim_asIntOf _
    | with_reducible exact sim_asInt _
    | with_reducible exact sim_asBool _
    | with_reducible exact sim_asAgg _
    | with_reducible exact sim_asAddr _
    | with_reducible exact sim_sureAddr _
    | with_reducible exact sim_loadCellsFrom _ _ _ _
    | with_reducible exact sim_storeCells _ _ _
    | with_reducible exact sim_loadCells _ _
    | with_reducible exact sim_loadVar _ _
    | with_reducible exact sim_storeVar _ _ _
    | with_reducible exact sim_numberAt _
    | with_reducible exact sim_behindNumber _
    | with_reducible exact sim_noView _
    | with_reducible exact sim_mayBeOne _ _
    | with_reducible exact sim_sameAddr _ _
    | with_reducible exact sim_samePointer _ _
    | with_reducible exact sim_intArith _ _ _ _
    | with_reducible exact sim_intDiv _ _ _ _
    | with_reducible exact sim_intBits _ _ _ _
    | with_reducible exact sim_shift _ _ _ _ _
    | with_reducible exact sim_intCmp _ _ _
    | with_reducible exact sim_floatArith _ _ _ _
    | with_reducible exact sim_floatCmp _ _ _ _
    | with_reducible exact sim_floatToFloat _ _ _
    | with_reducible exact sim_floatToInt _ _ _
    | with_reducible exact sim_carith _ _ _ _
    | with_reducible exact sim_ccmp _ _ _ _
    | with_reducible exact sim_cconv _ _ _
    | with_reducible exact sim_cadd _ _
    | with_reducible exact sim_csub _ _
    | with_reducible exact sim_cmul _ _
    | with_reducible exact sim_cquo _ _
    | with_reducible exact sim_cproduct _ _ _ _
    | with_reducible exact sim_ccorrected _ _ _ _ _
    | with_reducible exact sim_cquotient _ _ _ _
    | with_reducible exact sim_complexOp _ _ _ _ _ _
    | with_reducible exact sim_stringOp _ _ _
    | with_reducible exact sim_unary _ _
    | with_reducible exact sim_byteOf _
    | with_reducible exact sim_partAt _ _ _
    | with_reducible exact sim_fieldPlace _ _
    | with_reducible exact sim_twoPlaces _ _
    | with_reducible exact sim_addrSub _ _ _
    | with_reducible exact sim_addrCmp _ _ _
    | with_reducible exact sim_addrMod _ _ _
    | with_reducible exact sim_unsafeAdd _ _ _
    | with_reducible exact sim_asNumber _ _
    | with_reducible exact sim_movedNumber _ _ _
    | with_reducible exact sim_movedPointer _ _ _
    | with_reducible exact sim_typeStr _
    | with_reducible exact sim_equalIn _ _ _ _
    | with_reducible exact sim_equal _ _ _
    | with_reducible exact sim_eqGuardIn _ _ _ _
    | with_reducible exact sim_eqGuard _ _ _ _ _ _
    | with_reducible exact sim_binOp _ _ _ _
    | with_reducible exact sim_lenOf _
    | with_reducible exact sim_firstCells _ _ _
    | with_reducible exact FailS.sim (fail_append _ _ _ _ _ _)
    | with_reducible exact sim_append _ _ _
    | with_reducible exact sim_copy _ _ _
    | with_reducible exact sim_alloc _ _ _
    | with_reducible exact sim_box _ _
    | with_reducible exact sim_loadAt _ _
    | with_reducible exact sim_storeAt _ _ _
    | with_reducible exact sim_fieldAt _ _ _
    | with_reducible exact sim_indexAt _ _ _
    | with_reducible refine sim_forIn_array _ _ (fun _ _ => ?_) _
    | with_reducible refine sim_forIn_range _ _ (fun _ _ => ?_) _
    | ((with_reducible refine sims_prog ?_ ?_); (next => (simp only [holdsPacked_pf, stoodInHeld_pf, eqGuardType_pf]; done)))
    | ((with_reducible refine sims_prog ?_ ?_); (next => rfl))
    | with_reducible refine sims_bindM ?_ (fun _ => ?_)
    | with_reducible refine sims_ite ?_ ?_
    | (dsimp only; done) | dsimp only
    | split
    | (show ∀ _, SimS _ _ _; intro _))
theorem sim_field (e : TypeId) (v : Value) (f : Nat) : SimS (PF P F) P (Instr.field e v f) := by
  unfold Instr.field
  repeat' (first
    | with_reducible exact sims_pureM _ | with_reducible exact sims_stuck _ | with_reducible exact sims_unsup _ | with_reducible exact sims_goPanic _
    | with_reducible exact sims_load1 _
    | with_reducible exact sims_store1 _ _
    | with_reducible exact sims_new1 _ _
    | with_reducible exact sims_choose1 _
    | with_reducible exact sims_frozen1 _
    | with_reducible exact sims_noRoom1
    | with_reducible exact sims_mapM (sims_choose1 _)
    | with_reducible exact sim_typeInfo _
    | with_reducible exact sim_underlying _
    | with_reducible exact sim_sizeOf _
    | with_reducible exact sim_isAgg _
    | with_reducible exact sim_zeroValue _
    | with_reducible exact sim_elemOf _
    | with_reducible exact sim_newRow _ _
    | with_reducible exact sim_newVar _ _
    | with_reducible exact sim_askRoom _
    | with_reducible exact sim_part _ _ _
    | with_reducible exact sim_runtimePanic _
    | with_reducible exact sim_boundsPanic _ _ _ _
    | with_reducible exact sim_asIntOf _
    | with_reducible exact sim_asInt _
    | with_reducible exact sim_asBool _
    | with_reducible exact sim_asAgg _
    | with_reducible exact sim_asAddr _
    | with_reducible exact sim_sureAddr _
    | with_reducible exact sim_loadCellsFrom _ _ _ _
    | with_reducible exact sim_storeCells _ _ _
    | with_reducible exact sim_loadCells _ _
    | with_reducible exact sim_loadVar _ _
    | with_reducible exact sim_storeVar _ _ _
    | with_reducible exact sim_numberAt _
    | with_reducible exact sim_behindNumber _
    | with_reducible exact sim_noView _
    | with_reducible exact sim_mayBeOne _ _
    | with_reducible exact sim_sameAddr _ _
    | with_reducible exact sim_samePointer _ _
    | with_reducible exact sim_intArith _ _ _ _
    | with_reducible exact sim_intDiv _ _ _ _
    | with_reducible exact sim_intBits _ _ _ _
    | with_reducible exact sim_shift _ _ _ _ _
    | with_reducible exact sim_intCmp _ _ _
    | with_reducible exact sim_floatArith _ _ _ _
    | with_reducible exact sim_floatCmp _ _ _ _
    | with_reducible exact sim_floatToFloat _ _ _
    | with_reducible exact sim_floatToInt _ _ _
    | with_reducible exact sim_carith _ _ _ _
    | with_reducible exact sim_ccmp _ _ _ _
    | with_reducible exact sim_cconv _ _ _
    | with_reducible exact sim_cadd _ _
    | with_reducible exact sim_csub _ _
    | with_reducible exact sim_cmul _ _
    | with_reducible exact sim_cquo _ _
    | with_reducible exact sim_cproduct _ _ _ _
    | with_reducible exact sim_ccorrected _ _ _ _ _
    | with_reducible exact sim_cquotient _ _ _ _
    | with_reducible exact sim_complexOp _ _ _ _ _ _
    | with_reducible exact sim_stringOp _ _ _
    | with_reducible exact sim_unary _ _
    | with_reducible exact sim_byteOf _
    | with_reducible exact sim_partAt _ _ _
    | with_reducible exact sim_fieldPlace _ _
    | with_reducible exact sim_twoPlaces _ _
    | with_reducible exact sim_addrSub _ _ _
    | with_reducible exact sim_addrCmp _ _ _
    | with_reducible exact sim_addrMod _ _ _
    | with_reducible exact sim_unsafeAdd _ _ _
    | with_reducible exact sim_asNumber _ _
    | with_reducible exact sim_movedNumber _ _ _
    | with_reducible exact sim_movedPointer _ _ _
    | with_reducible exact sim_typeStr _
    | with_reducible exact sim_equalIn _ _ _ _
    | with_reducible exact sim_equal _ _ _
    | with_reducible exact sim_eqGuardIn _ _ _ _
    | with_reducible exact sim_eqGuard _ _ _ _ _ _
    | with_reducible exact sim_binOp _ _ _ _
    | with_reducible exact sim_lenOf _
    | with_reducible exact sim_firstCells _ _ _
    | with_reducible exact FailS.sim (fail_append _ _ _ _ _ _)
    | with_reducible exact sim_append _ _ _
    | with_reducible exact sim_copy _ _ _
    | with_reducible exact sim_alloc _ _ _
    | with_reducible exact sim_box _ _
    | with_reducible exact sim_loadAt _ _
    | with_reducible exact sim_storeAt _ _ _
    | with_reducible exact sim_fieldAt _ _ _
    | with_reducible exact sim_indexAt _ _ _
    | with_reducible exact sim_extract _ _
    | with_reducible refine sim_forIn_array _ _ (fun _ _ => ?_) _
    | with_reducible refine sim_forIn_range _ _ (fun _ _ => ?_) _
    | ((with_reducible refine sims_prog ?_ ?_); (next => (simp only [holdsPacked_pf, stoodInHeld_pf, eqGuardType_pf]; done)))
    | ((with_reducible refine sims_prog ?_ ?_); (next => rfl))
    | with_reducible refine sims_bindM ?_ (fun _ => ?_)
    | with_reducible refine sims_ite ?_ ?_
    | (dsimp only; done) | dsimp only
    | split
    | (show ∀ _, SimS _ _ _; intro _))
theorem sim_makeSlice (e : TypeId) (l c : Value) : SimS (PF P F) P (Instr.makeSlice e l c) := by
  unfold Instr.makeSlice
  repeat' (first
    | with_reducible exact sims_pureM _ | with_reducible exact sims_stuck _ | with_reducible exact sims_unsup _ | with_reducible exact sims_goPanic _
    | with_reducible exact sims_load1 _
    | with_reducible exact sims_store1 _ _
    | with_reducible exact sims_new1 _ _
    | with_reducible exact sims_choose1 _
    | with_reducible exact sims_frozen1 _
    | with_reducible exact sims_noRoom1
    | with_reducible exact sims_mapM (sims_choose1 _)
    | with_reducible exact sim_typeInfo _
    | with_reducible exact sim_underlying _
    | with_reducible exact sim_sizeOf _
    | with_reducible exact sim_isAgg _
    | with_reducible exact sim_zeroValue _
    | with_reducible exact sim_elemOf _
    | with_reducible exact sim_newRow _ _
    | with_reducible exact sim_newVar _ _
    | with_reducible exact sim_askRoom _
    | with_reducible exact sim_part _ _ _
    | with_reducible exact sim_runtimePanic _
    | with_reducible exact sim_boundsPanic _ _ _ _
    | with_reducible exact sim_asIntOf _
    | with_reducible exact sim_asInt _
    | with_reducible exact sim_asBool _
    | with_reducible exact sim_asAgg _
    | with_reducible exact sim_asAddr _
    | with_reducible exact sim_sureAddr _
    | with_reducible exact sim_loadCellsFrom _ _ _ _
    | with_reducible exact sim_storeCells _ _ _
    | with_reducible exact sim_loadCells _ _
    | with_reducible exact sim_loadVar _ _
    | with_reducible exact sim_storeVar _ _ _
    | with_reducible exact sim_numberAt _
    | with_reducible exact sim_behindNumber _
    | with_reducible exact sim_noView _
    | with_reducible exact sim_mayBeOne _ _
    | with_reducible exact sim_sameAddr _ _
    | with_reducible exact sim_samePointer _ _
    | with_reducible exact sim_intArith _ _ _ _
    | with_reducible exact sim_intDiv _ _ _ _
    | with_reducible exact sim_intBits _ _ _ _
    | with_reducible exact sim_shift _ _ _ _ _
    | with_reducible exact sim_intCmp _ _ _
    | with_reducible exact sim_floatArith _ _ _ _
    | with_reducible exact sim_floatCmp _ _ _ _
    | with_reducible exact sim_floatToFloat _ _ _
    | with_reducible exact sim_floatToInt _ _ _
    | with_reducible exact sim_carith _ _ _ _
    | with_reducible exact sim_ccmp _ _ _ _
    | with_reducible exact sim_cconv _ _ _
    | with_reducible exact sim_cadd _ _
    | with_reducible exact sim_csub _ _
    | with_reducible exact sim_cmul _ _
    | with_reducible exact sim_cquo _ _
    | with_reducible exact sim_cproduct _ _ _ _
    | with_reducible exact sim_ccorrected _ _ _ _ _
    | with_reducible exact sim_cquotient _ _ _ _
    | with_reducible exact sim_complexOp _ _ _ _ _ _
    | with_reducible exact sim_stringOp _ _ _
    | with_reducible exact sim_unary _ _
    | with_reducible exact sim_byteOf _
    | with_reducible exact sim_partAt _ _ _
    | with_reducible exact sim_fieldPlace _ _
    | with_reducible exact sim_twoPlaces _ _
    | with_reducible exact sim_addrSub _ _ _
    | with_reducible exact sim_addrCmp _ _ _
    | with_reducible exact sim_addrMod _ _ _
    | with_reducible exact sim_unsafeAdd _ _ _
    | with_reducible exact sim_asNumber _ _
    | with_reducible exact sim_movedNumber _ _ _
    | with_reducible exact sim_movedPointer _ _ _
    | with_reducible exact sim_typeStr _
    | with_reducible exact sim_equalIn _ _ _ _
    | with_reducible exact sim_equal _ _ _
    | with_reducible exact sim_eqGuardIn _ _ _ _
    | with_reducible exact sim_eqGuard _ _ _ _ _ _
    | with_reducible exact sim_binOp _ _ _ _
    | with_reducible exact sim_lenOf _
    | with_reducible exact sim_firstCells _ _ _
    | with_reducible exact FailS.sim (fail_append _ _ _ _ _ _)
    | with_reducible exact sim_append _ _ _
    | with_reducible exact sim_copy _ _ _
    | with_reducible exact sim_alloc _ _ _
    | with_reducible exact sim_box _ _
    | with_reducible exact sim_loadAt _ _
    | with_reducible exact sim_storeAt _ _ _
    | with_reducible exact sim_fieldAt _ _ _
    | with_reducible exact sim_indexAt _ _ _
    | with_reducible exact sim_extract _ _
    | with_reducible exact sim_field _ _ _
    | with_reducible refine sim_forIn_array _ _ (fun _ _ => ?_) _
    | with_reducible refine sim_forIn_range _ _ (fun _ _ => ?_) _
    | ((with_reducible refine sims_prog ?_ ?_); (next => (simp only [holdsPacked_pf, stoodInHeld_pf, eqGuardType_pf]; done)))
    | ((with_reducible refine sims_prog ?_ ?_); (next => rfl))
    | with_reducible refine sims_bindM ?_ (fun _ => ?_)
    | with_reducible refine sims_ite ?_ ?_
    | (dsimp only; done) | dsimp only
    | split
    | (show ∀ _, SimS _ _ _; intro _))
theorem sim_makeInterface (e : TypeId) (l : Value) : SimS (PF P F) P (Instr.makeInterface e l) := by
  unfold Instr.makeInterface
  repeat' (first
    | with_reducible exact sims_pureM _ | with_reducible exact sims_stuck _ | with_reducible exact sims_unsup _ | with_reducible exact sims_goPanic _
    | with_reducible exact sims_load1 _
    | with_reducible exact sims_store1 _ _
    | with_reducible exact sims_new1 _ _
    | with_reducible exact sims_choose1 _
    | with_reducible exact sims_frozen1 _
    | with_reducible exact sims_noRoom1
    | with_reducible exact sims_mapM (sims_choose1 _)
    | with_reducible exact sim_typeInfo _
    | with_reducible exact sim_underlying _
    | with_reducible exact sim_sizeOf _
    | with_reducible exact sim_isAgg _
    | with_reducible exact sim_zeroValue _
    | with_reducible exact sim_elemOf _
    | with_reducible exact sim_newRow _ _
    | with_reducible exact sim_newVar _ _
    | with_reducible exact sim_askRoom _
    | with_reducible exact sim_part _ _ _
    | with_reducible exact sim_runtimePanic _
    | with_reducible exact sim_boundsPanic _ _ _ _
    | with_reducible exact sim_asIntOf _
    | with_reducible exact sim_asInt _
    | with_reducible exact sim_asBool _
    | with_reducible exact sim_asAgg _
    | with_reducible exact sim_asAddr _
    | with_reducible exact sim_sureAddr _
    | with_reducible exact sim_loadCellsFrom _ _ _ _
    | with_reducible exact sim_storeCells _ _ _
    | with_reducible exact sim_loadCells _ _
    | with_reducible exact sim_loadVar _ _
    | with_reducible exact sim_storeVar _ _ _
    | with_reducible exact sim_numberAt _
    | with_reducible exact sim_behindNumber _
    | with_reducible exact sim_noView _
    | with_reducible exact sim_mayBeOne _ _
    | with_reducible exact sim_sameAddr _ _
    | with_reducible exact sim_samePointer _ _
    | with_reducible exact sim_intArith _ _ _ _
    | with_reducible exact sim_intDiv _ _ _ _
    | with_reducible exact sim_intBits _ _ _ _
    | with_reducible exact sim_shift _ _ _ _ _
    | with_reducible exact sim_intCmp _ _ _
    | with_reducible exact sim_floatArith _ _ _ _
    | with_reducible exact sim_floatCmp _ _ _ _
    | with_reducible exact sim_floatToFloat _ _ _
    | with_reducible exact sim_floatToInt _ _ _
    | with_reducible exact sim_carith _ _ _ _
    | with_reducible exact sim_ccmp _ _ _ _
    | with_reducible exact sim_cconv _ _ _
    | with_reducible exact sim_cadd _ _
    | with_reducible exact sim_csub _ _
    | with_reducible exact sim_cmul _ _
    | with_reducible exact sim_cquo _ _
    | with_reducible exact sim_cproduct _ _ _ _
    | with_reducible exact sim_ccorrected _ _ _ _ _
    | with_reducible exact sim_cquotient _ _ _ _
    | with_reducible exact sim_complexOp _ _ _ _ _ _
    | with_reducible exact sim_stringOp _ _ _
    | with_reducible exact sim_unary _ _
    | with_reducible exact sim_byteOf _
    | with_reducible exact sim_partAt _ _ _
    | with_reducible exact sim_fieldPlace _ _
    | with_reducible exact sim_twoPlaces _ _
    | with_reducible exact sim_addrSub _ _ _
    | with_reducible exact sim_addrCmp _ _ _
    | with_reducible exact sim_addrMod _ _ _
    | with_reducible exact sim_unsafeAdd _ _ _
    | with_reducible exact sim_asNumber _ _
    | with_reducible exact sim_movedNumber _ _ _
    | with_reducible exact sim_movedPointer _ _ _
    | with_reducible exact sim_typeStr _
    | with_reducible exact sim_equalIn _ _ _ _
    | with_reducible exact sim_equal _ _ _
    | with_reducible exact sim_eqGuardIn _ _ _ _
    | with_reducible exact sim_eqGuard _ _ _ _ _ _
    | with_reducible exact sim_binOp _ _ _ _
    | with_reducible exact sim_lenOf _
    | with_reducible exact sim_firstCells _ _ _
    | with_reducible exact FailS.sim (fail_append _ _ _ _ _ _)
    | with_reducible exact sim_append _ _ _
    | with_reducible exact sim_copy _ _ _
    | with_reducible exact sim_alloc _ _ _
    | with_reducible exact sim_box _ _
    | with_reducible exact sim_loadAt _ _
    | with_reducible exact sim_storeAt _ _ _
    | with_reducible exact sim_fieldAt _ _ _
    | with_reducible exact sim_indexAt _ _ _
    | with_reducible exact sim_extract _ _
    | with_reducible exact sim_field _ _ _
    | with_reducible exact sim_makeSlice _ _ _
    | with_reducible refine sim_forIn_array _ _ (fun _ _ => ?_) _
    | with_reducible refine sim_forIn_range _ _ (fun _ _ => ?_) _
    | ((with_reducible refine sims_prog ?_ ?_); (next => (simp only [holdsPacked_pf, stoodInHeld_pf, eqGuardType_pf]; done)))
    | ((with_reducible refine sims_prog ?_ ?_); (next => rfl))
    | with_reducible refine sims_bindM ?_ (fun _ => ?_)
    | with_reducible refine sims_ite ?_ ?_
    | (dsimp only; done) | dsimp only
    | split
    | (show ∀ _, SimS _ _ _; intro _))
theorem sim_typeAssert (v : Value) (e f : TypeId) (ok : Bool) : SimS (PF P F) P (Instr.typeAssert v e f ok) := by
  unfold Instr.typeAssert
  repeat' (first
    | with_reducible exact sims_pureM _ | with_reducible exact sims_stuck _ | with_reducible exact sims_unsup _ | with_reducible exact sims_goPanic _
    | with_reducible exact sims_load1 _
    | with_reducible exact sims_store1 _ _
    | with_reducible exact sims_new1 _ _
    | with_reducible exact sims_choose1 _
    | with_reducible exact sims_frozen1 _
    | with_reducible exact sims_noRoom1
    | with_reducible exact sims_mapM (sims_choose1 _)
    | with_reducible exact sim_typeInfo _
    | with_reducible exact sim_underlying _
    | with_reducible exact sim_sizeOf _
    | with_reducible exact sim_isAgg _
    | with_reducible exact sim_zeroValue _
    | with_reducible exact sim_elemOf _
    | with_reducible exact sim_newRow _ _
    | with_reducible exact sim_newVar _ _
    | with_reducible exact sim_askRoom _
    | with_reducible exact sim_part _ _ _
    | with_reducible exact sim_runtimePanic _
    | with_reducible exact sim_boundsPanic _ _ _ _
    | with_reducible exact sim_asIntOf _
    | with_reducible exact sim_asInt _
    | with_reducible exact sim_asBool _
    | with_reducible exact sim_asAgg _
    | with_reducible exact sim_asAddr _
    | with_reducible exact sim_sureAddr _
    | with_reducible exact sim_loadCellsFrom _ _ _ _
    | with_reducible exact sim_storeCells _ _ _
    | with_reducible exact sim_loadCells _ _
    | with_reducible exact sim_loadVar _ _
    | with_reducible exact sim_storeVar _ _ _
    | with_reducible exact sim_numberAt _
    | with_reducible exact sim_behindNumber _
    | with_reducible exact sim_noView _
    | with_reducible exact sim_mayBeOne _ _
    | with_reducible exact sim_sameAddr _ _
    | with_reducible exact sim_samePointer _ _
    | with_reducible exact sim_intArith _ _ _ _
    | with_reducible exact sim_intDiv _ _ _ _
    | with_reducible exact sim_intBits _ _ _ _
    | with_reducible exact sim_shift _ _ _ _ _
    | with_reducible exact sim_intCmp _ _ _
    | with_reducible exact sim_floatArith _ _ _ _
    | with_reducible exact sim_floatCmp _ _ _ _
    | with_reducible exact sim_floatToFloat _ _ _
    | with_reducible exact sim_floatToInt _ _ _
    | with_reducible exact sim_carith _ _ _ _
    | with_reducible exact sim_ccmp _ _ _ _
    | with_reducible exact sim_cconv _ _ _
    | with_reducible exact sim_cadd _ _
    | with_reducible exact sim_csub _ _
    | with_reducible exact sim_cmul _ _
    | with_reducible exact sim_cquo _ _
    | with_reducible exact sim_cproduct _ _ _ _
    | with_reducible exact sim_ccorrected _ _ _ _ _
    | with_reducible exact sim_cquotient _ _ _ _
    | with_reducible exact sim_complexOp _ _ _ _ _ _
    | with_reducible exact sim_stringOp _ _ _
    | with_reducible exact sim_unary _ _
    | with_reducible exact sim_byteOf _
    | with_reducible exact sim_partAt _ _ _
    | with_reducible exact sim_fieldPlace _ _
    | with_reducible exact sim_twoPlaces _ _
    | with_reducible exact sim_addrSub _ _ _
    | with_reducible exact sim_addrCmp _ _ _
    | with_reducible exact sim_addrMod _ _ _
    | with_reducible exact sim_unsafeAdd _ _ _
    | with_reducible exact sim_asNumber _ _
    | with_reducible exact sim_movedNumber _ _ _
    | with_reducible exact sim_movedPointer _ _ _
    | with_reducible exact sim_typeStr _
    | with_reducible exact sim_equalIn _ _ _ _
    | with_reducible exact sim_equal _ _ _
    | with_reducible exact sim_eqGuardIn _ _ _ _
    | with_reducible exact sim_eqGuard _ _ _ _ _ _
    | with_reducible exact sim_binOp _ _ _ _
    | with_reducible exact sim_lenOf _
    | with_reducible exact sim_firstCells _ _ _
    | with_reducible exact FailS.sim (fail_append _ _ _ _ _ _)
    | with_reducible exact sim_append _ _ _
    | with_reducible exact sim_copy _ _ _
    | with_reducible exact sim_alloc _ _ _
    | with_reducible exact sim_box _ _
    | with_reducible exact sim_loadAt _ _
    | with_reducible exact sim_storeAt _ _ _
    | with_reducible exact sim_fieldAt _ _ _
    | with_reducible exact sim_indexAt _ _ _
    | with_reducible exact sim_extract _ _
    | with_reducible exact sim_field _ _ _
    | with_reducible exact sim_makeSlice _ _ _
    | with_reducible exact sim_makeInterface _ _
    | with_reducible refine sim_forIn_array _ _ (fun _ _ => ?_) _
    | with_reducible refine sim_forIn_range _ _ (fun _ _ => ?_) _
    | ((with_reducible refine sims_prog ?_ ?_); (next => (simp only [holdsPacked_pf, stoodInHeld_pf, eqGuardType_pf]; done)))
    | ((with_reducible refine sims_prog ?_ ?_); (next => rfl))
    | with_reducible refine sims_bindM ?_ (fun _ => ?_)
    | with_reducible refine sims_ite ?_ ?_
    | (dsimp only; done) | dsimp only
    | split
    | (show ∀ _, SimS _ _ _; intro _))
theorem sim_sliceBound (v : Value) (y : Nat) (c : BoundsCode) : SimS (PF P F) P (Instr.sliceBound v y c) := by
  unfold Instr.sliceBound
  repeat' (first
    | with_reducible exact sims_pureM _ | with_reducible exact sims_stuck _ | with_reducible exact sims_unsup _ | with_reducible exact sims_goPanic _
    | with_reducible exact sims_load1 _
    | with_reducible exact sims_store1 _ _
    | with_reducible exact sims_new1 _ _
    | with_reducible exact sims_choose1 _
    | with_reducible exact sims_frozen1 _
    | with_reducible exact sims_noRoom1
    | with_reducible exact sims_mapM (sims_choose1 _)
    | with_reducible exact sim_typeInfo _
    | with_reducible exact sim_underlying _
    | with_reducible exact sim_sizeOf _
    | with_reducible exact sim_isAgg _
    | with_reducible exact sim_zeroValue _
    | with_reducible exact sim_elemOf _
    | with_reducible exact sim_newRow _ _
    | with_reducible exact sim_newVar _ _
    | with_reducible exact sim_askRoom _
    | with_reducible exact sim_part _ _ _
    | with_reducible exact sim_runtimePanic _
    | with_reducible exact sim_boundsPanic _ _ _ _
    | with_reducible exact sim_asIntOf _
    | with_reducible exact sim_asInt _
    | with_reducible exact sim_asBool _
    | with_reducible exact sim_asAgg _
    | with_reducible exact sim_asAddr _
    | with_reducible exact sim_sureAddr _
    | with_reducible exact sim_loadCellsFrom _ _ _ _
    | with_reducible exact sim_storeCells _ _ _
    | with_reducible exact sim_loadCells _ _
    | with_reducible exact sim_loadVar _ _
    | with_reducible exact sim_storeVar _ _ _
    | with_reducible exact sim_numberAt _
    | with_reducible exact sim_behindNumber _
    | with_reducible exact sim_noView _
    | with_reducible exact sim_mayBeOne _ _
    | with_reducible exact sim_sameAddr _ _
    | with_reducible exact sim_samePointer _ _
    | with_reducible exact sim_intArith _ _ _ _
    | with_reducible exact sim_intDiv _ _ _ _
    | with_reducible exact sim_intBits _ _ _ _
    | with_reducible exact sim_shift _ _ _ _ _
    | with_reducible exact sim_intCmp _ _ _
    | with_reducible exact sim_floatArith _ _ _ _
    | with_reducible exact sim_floatCmp _ _ _ _
    | with_reducible exact sim_floatToFloat _ _ _
    | with_reducible exact sim_floatToInt _ _ _
    | with_reducible exact sim_carith _ _ _ _
    | with_reducible exact sim_ccmp _ _ _ _
    | with_reducible exact sim_cconv _ _ _
    | with_reducible exact sim_cadd _ _
    | with_reducible exact sim_csub _ _
    | with_reducible exact sim_cmul _ _
    | with_reducible exact sim_cquo _ _
    | with_reducible exact sim_cproduct _ _ _ _
    | with_reducible exact sim_ccorrected _ _ _ _ _
    | with_reducible exact sim_cquotient _ _ _ _
    | with_reducible exact sim_complexOp _ _ _ _ _ _
    | with_reducible exact sim_stringOp _ _ _
    | with_reducible exact sim_unary _ _
    | with_reducible exact sim_byteOf _
    | with_reducible exact sim_partAt _ _ _
    | with_reducible exact sim_fieldPlace _ _
    | with_reducible exact sim_twoPlaces _ _
    | with_reducible exact sim_addrSub _ _ _
    | with_reducible exact sim_addrCmp _ _ _
    | with_reducible exact sim_addrMod _ _ _
    | with_reducible exact sim_unsafeAdd _ _ _
    | with_reducible exact sim_asNumber _ _
    | with_reducible exact sim_movedNumber _ _ _
    | with_reducible exact sim_movedPointer _ _ _
    | with_reducible exact sim_typeStr _
    | with_reducible exact sim_equalIn _ _ _ _
    | with_reducible exact sim_equal _ _ _
    | with_reducible exact sim_eqGuardIn _ _ _ _
    | with_reducible exact sim_eqGuard _ _ _ _ _ _
    | with_reducible exact sim_binOp _ _ _ _
    | with_reducible exact sim_lenOf _
    | with_reducible exact sim_firstCells _ _ _
    | with_reducible exact FailS.sim (fail_append _ _ _ _ _ _)
    | with_reducible exact sim_append _ _ _
    | with_reducible exact sim_copy _ _ _
    | with_reducible exact sim_alloc _ _ _
    | with_reducible exact sim_box _ _
    | with_reducible exact sim_loadAt _ _
    | with_reducible exact sim_storeAt _ _ _
    | with_reducible exact sim_fieldAt _ _ _
    | with_reducible exact sim_indexAt _ _ _
    | with_reducible exact sim_extract _ _
    | with_reducible exact sim_field _ _ _
    | with_reducible exact sim_makeSlice _ _ _
    | with_reducible exact sim_makeInterface _ _
    | with_reducible exact sim_typeAssert _ _ _ _
    | with_reducible refine sim_forIn_array _ _ (fun _ _ => ?_) _
    | with_reducible refine sim_forIn_range _ _ (fun _ _ => ?_) _
    | ((with_reducible refine sims_prog ?_ ?_); (next => (simp only [holdsPacked_pf, stoodInHeld_pf, eqGuardType_pf]; done)))
    | ((with_reducible refine sims_prog ?_ ?_); (next => rfl))
    | with_reducible refine sims_bindM ?_ (fun _ => ?_)
    | with_reducible refine sims_ite ?_ ?_
    | (dsimp only; done) | dsimp only
    | split
    | (show ∀ _, SimS _ _ _; intro _))
theorem sim_sliceBounds (s : Bool) (l c : Nat) (a b d : Option Value) : SimS (PF P F) P (Instr.sliceBounds s l c a b d) := by
  unfold Instr.sliceBounds
  repeat' (first
    | with_reducible exact sims_pureM _ | with_reducible exact sims_stuck _ | with_reducible exact sims_unsup _ | with_reducible exact sims_goPanic _
    | with_reducible exact sims_load1 _
    | with_reducible exact sims_store1 _ _
    | with_reducible exact sims_new1 _ _
    | with_reducible exact sims_choose1 _
    | with_reducible exact sims_frozen1 _
    | with_reducible exact sims_noRoom1
    | with_reducible exact sims_mapM (sims_choose1 _)
    | with_reducible exact sim_typeInfo _
    | with_reducible exact sim_underlying _
    | with_reducible exact sim_sizeOf _
    | with_reducible exact sim_isAgg _
    | with_reducible exact sim_zeroValue _
    | with_reducible exact sim_elemOf _
    | with_reducible exact sim_newRow _ _
    | with_reducible exact sim_newVar _ _
    | with_reducible exact sim_askRoom _
    | with_reducible exact sim_part _ _ _
    | with_reducible exact sim_runtimePanic _
    | with_reducible exact sim_boundsPanic _ _ _ _
    | with_reducible exact sim_asIntOf _
    | with_reducible exact sim_asInt _
    | with_reducible exact sim_asBool _
    | with_reducible exact sim_asAgg _
    | with_reducible exact sim_asAddr _
    | with_reducible exact sim_sureAddr _
    | with_reducible exact sim_loadCellsFrom _ _ _ _
    | with_reducible exact sim_storeCells _ _ _
    | with_reducible exact sim_loadCells _ _
    | with_reducible exact sim_loadVar _ _
    | with_reducible exact sim_storeVar _ _ _
    | with_reducible exact sim_numberAt _
    | with_reducible exact sim_behindNumber _
    | with_reducible exact sim_noView _
    | with_reducible exact sim_mayBeOne _ _
    | with_reducible exact sim_sameAddr _ _
    | with_reducible exact sim_samePointer _ _
    | with_reducible exact sim_intArith _ _ _ _
    | with_reducible exact sim_intDiv _ _ _ _
    | with_reducible exact sim_intBits _ _ _ _
    | with_reducible exact sim_shift _ _ _ _ _
    | with_reducible exact sim_intCmp _ _ _
    | with_reducible exact sim_floatArith _ _ _ _
    | with_reducible exact sim_floatCmp _ _ _ _
    | with_reducible exact sim_floatToFloat _ _ _
    | with_reducible exact sim_floatToInt _ _ _
    | with_reducible exact sim_carith _ _ _ _
    | with_reducible exact sim_ccmp _ _ _ _
    | with_reducible exact sim_cconv _ _ _
    | with_reducible exact sim_cadd _ _
    | with_reducible exact sim_csub _ _
    | with_reducible exact sim_cmul _ _
    | with_reducible exact sim_cquo _ _
    | with_reducible exact sim_cproduct _ _ _ _
    | with_reducible exact sim_ccorrected _ _ _ _ _
    | with_reducible exact sim_cquotient _ _ _ _
    | with_reducible exact sim_complexOp _ _ _ _ _ _
    | with_reducible exact sim_stringOp _ _ _
    | with_reducible exact sim_unary _ _
    | with_reducible exact sim_byteOf _
    | with_reducible exact sim_partAt _ _ _
    | with_reducible exact sim_fieldPlace _ _
    | with_reducible exact sim_twoPlaces _ _
    | with_reducible exact sim_addrSub _ _ _
    | with_reducible exact sim_addrCmp _ _ _
    | with_reducible exact sim_addrMod _ _ _
    | with_reducible exact sim_unsafeAdd _ _ _
    | with_reducible exact sim_asNumber _ _
    | with_reducible exact sim_movedNumber _ _ _
    | with_reducible exact sim_movedPointer _ _ _
    | with_reducible exact sim_typeStr _
    | with_reducible exact sim_equalIn _ _ _ _
    | with_reducible exact sim_equal _ _ _
    | with_reducible exact sim_eqGuardIn _ _ _ _
    | with_reducible exact sim_eqGuard _ _ _ _ _ _
    | with_reducible exact sim_binOp _ _ _ _
    | with_reducible exact sim_lenOf _
    | with_reducible exact sim_firstCells _ _ _
    | with_reducible exact FailS.sim (fail_append _ _ _ _ _ _)
    | with_reducible exact sim_append _ _ _
    | with_reducible exact sim_copy _ _ _
    | with_reducible exact sim_alloc _ _ _
    | with_reducible exact sim_box _ _
    | with_reducible exact sim_loadAt _ _
    | with_reducible exact sim_storeAt _ _ _
    | with_reducible exact sim_fieldAt _ _ _
    | with_reducible exact sim_indexAt _ _ _
    | with_reducible exact sim_extract _ _
    | with_reducible exact sim_field _ _ _
    | with_reducible exact sim_makeSlice _ _ _
    | with_reducible exact sim_makeInterface _ _
    | with_reducible exact sim_typeAssert _ _ _ _
    | with_reducible exact sim_sliceBound _ _ _
    | with_reducible refine sim_forIn_array _ _ (fun _ _ => ?_) _
    | with_reducible refine sim_forIn_range _ _ (fun _ _ => ?_) _
    | ((with_reducible refine sims_prog ?_ ?_); (next => (simp only [holdsPacked_pf, stoodInHeld_pf, eqGuardType_pf]; done)))
    | ((with_reducible refine sims_prog ?_ ?_); (next => rfl))
    | with_reducible refine sims_bindM ?_ (fun _ => ?_)
    | with_reducible refine sims_ite ?_ ?_
    | (dsimp only; done) | dsimp only
    | split
    | (show ∀ _, SimS _ _ _; intro _))
theorem sim_slice (t : TypeId) (x : Value) (a b d : Option Value) : SimS (PF P F) P (Instr.slice t x a b d) := by
  unfold Instr.slice
  repeat' (first
    | with_reducible exact sims_pureM _ | with_reducible exact sims_stuck _ | with_reducible exact sims_unsup _ | with_reducible exact sims_goPanic _
    | with_reducible exact sims_load1 _
    | with_reducible exact sims_store1 _ _
    | with_reducible exact sims_new1 _ _
    | with_reducible exact sims_choose1 _
    | with_reducible exact sims_frozen1 _
    | with_reducible exact sims_noRoom1
    | with_reducible exact sims_mapM (sims_choose1 _)
    | with_reducible exact sim_typeInfo _
    | with_reducible exact sim_underlying _
    | with_reducible exact sim_sizeOf _
    | with_reducible exact sim_isAgg _
    | with_reducible exact sim_zeroValue _
    | with_reducible exact sim_elemOf _
    | with_reducible exact sim_newRow _ _
    | with_reducible exact sim_newVar _ _
    | with_reducible exact sim_askRoom _
    | with_reducible exact sim_part _ _ _
    | with_reducible exact sim_runtimePanic _
    | with_reducible exact sim_boundsPanic _ _ _ _
    | with_reducible exact sim_asIntOf _
    | with_reducible exact sim_asInt _
    | with_reducible exact sim_asBool _
    | with_reducible exact sim_asAgg _
    | with_reducible exact sim_asAddr _
    | with_reducible exact sim_sureAddr _
    | with_reducible exact sim_loadCellsFrom _ _ _ _
    | with_reducible exact sim_storeCells _ _ _
    | with_reducible exact sim_loadCells _ _
    | with_reducible exact sim_loadVar _ _
    | with_reducible exact sim_storeVar _ _ _
    | with_reducible exact sim_numberAt _
    | with_reducible exact sim_behindNumber _
    | with_reducible exact sim_noView _
    | with_reducible exact sim_mayBeOne _ _
    | with_reducible exact sim_sameAddr _ _
    | with_reducible exact sim_samePointer _ _
    | with_reducible exact sim_intArith _ _ _ _
    | with_reducible exact sim_intDiv _ _ _ _
    | with_reducible exact sim_intBits _ _ _ _
    | with_reducible exact sim_shift _ _ _ _ _
    | with_reducible exact sim_intCmp _ _ _
    | with_reducible exact sim_floatArith _ _ _ _
    | with_reducible exact sim_floatCmp _ _ _ _
    | with_reducible exact sim_floatToFloat _ _ _
    | with_reducible exact sim_floatToInt _ _ _
    | with_reducible exact sim_carith _ _ _ _
    | with_reducible exact sim_ccmp _ _ _ _
    | with_reducible exact sim_cconv _ _ _
    | with_reducible exact sim_cadd _ _
    | with_reducible exact sim_csub _ _
    | with_reducible exact sim_cmul _ _
    | with_reducible exact sim_cquo _ _
    | with_reducible exact sim_cproduct _ _ _ _
    | with_reducible exact sim_ccorrected _ _ _ _ _
    | with_reducible exact sim_cquotient _ _ _ _
    | with_reducible exact sim_complexOp _ _ _ _ _ _
    | with_reducible exact sim_stringOp _ _ _
    | with_reducible exact sim_unary _ _
    | with_reducible exact sim_byteOf _
    | with_reducible exact sim_partAt _ _ _
    | with_reducible exact sim_fieldPlace _ _
    | with_reducible exact sim_twoPlaces _ _
    | with_reducible exact sim_addrSub _ _ _
    | with_reducible exact sim_addrCmp _ _ _
    | with_reducible exact sim_addrMod _ _ _
    | with_reducible exact sim_unsafeAdd _ _ _
    | with_reducible exact sim_asNumber _ _
    | with_reducible exact sim_movedNumber _ _ _
    | with_reducible exact sim_movedPointer _ _ _
    | with_reducible exact sim_typeStr _
    | with_reducible exact sim_equalIn _ _ _ _
    | with_reducible exact sim_equal _ _ _
    | with_reducible exact sim_eqGuardIn _ _ _ _
    | with_reducible exact sim_eqGuard _ _ _ _ _ _
    | with_reducible exact sim_binOp _ _ _ _
    | with_reducible exact sim_lenOf _
    | with_reducible exact sim_firstCells _ _ _
    | with_reducible exact FailS.sim (fail_append _ _ _ _ _ _)
    | with_reducible exact sim_append _ _ _
    | with_reducible exact sim_copy _ _ _
    | with_reducible exact sim_alloc _ _ _
    | with_reducible exact sim_box _ _
    | with_reducible exact sim_loadAt _ _
    | with_reducible exact sim_storeAt _ _ _
    | with_reducible exact sim_fieldAt _ _ _
    | with_reducible exact sim_indexAt _ _ _
    | with_reducible exact sim_extract _ _
    | with_reducible exact sim_field _ _ _
    | with_reducible exact sim_makeSlice _ _ _
    | with_reducible exact sim_makeInterface _ _
    | with_reducible exact sim_typeAssert _ _ _ _
    | with_reducible exact sim_sliceBound _ _ _
    | with_reducible exact sim_sliceBounds _ _ _ _ _ _
    | with_reducible refine sim_forIn_array _ _ (fun _ _ => ?_) _
    | with_reducible refine sim_forIn_range _ _ (fun _ _ => ?_) _
    | ((with_reducible refine sims_prog ?_ ?_); (next => (simp only [holdsPacked_pf, stoodInHeld_pf, eqGuardType_pf]; done)))
    | ((with_reducible refine sims_prog ?_ ?_); (next => rfl))
    | with_reducible refine sims_bindM ?_ (fun _ => ?_)
    | with_reducible refine sims_ite ?_ ?_
    | (dsimp only; done) | dsimp only
    | split
    | (show ∀ _, SimS _ _ _; intro _))
theorem sim_sliceAt (t : TypeId) (x : Value) (a b d : Option Value) : SimS (PF P F) P (Instr.sliceAt t x a b d) := by
  unfold Instr.sliceAt
  repeat' (first
    | with_reducible exact sims_pureM _ | with_reducible exact sims_stuck _ | with_reducible exact sims_unsup _ | with_reducible exact sims_goPanic _
    | with_reducible exact sims_load1 _
    | with_reducible exact sims_store1 _ _
    | with_reducible exact sims_new1 _ _
    | with_reducible exact sims_choose1 _
    | with_reducible exact sims_frozen1 _
    | with_reducible exact sims_noRoom1
    | with_reducible exact sims_mapM (sims_choose1 _)
    | with_reducible exact sim_typeInfo _
    | with_reducible exact sim_underlying _
    | with_reducible exact sim_sizeOf _
    | with_reducible exact sim_isAgg _
    | with_reducible exact sim_zeroValue _
    | with_reducible exact sim_elemOf _
    | with_reducible exact sim_newRow _ _
    | with_reducible exact sim_newVar _ _
    | with_reducible exact sim_askRoom _
    | with_reducible exact sim_part _ _ _
    | with_reducible exact sim_runtimePanic _
    | with_reducible exact sim_boundsPanic _ _ _ _
    | with_reducible exact sim_asIntOf _
    | with_reducible exact sim_asInt _
    | with_reducible exact sim_asBool _
    | with_reducible exact sim_asAgg _
    | with_reducible exact sim_asAddr _
    | with_reducible exact sim_sureAddr _
    | with_reducible exact sim_loadCellsFrom _ _ _ _
    | with_reducible exact sim_storeCells _ _ _
    | with_reducible exact sim_loadCells _ _
    | with_reducible exact sim_loadVar _ _
    | with_reducible exact sim_storeVar _ _ _
    | with_reducible exact sim_numberAt _
    | with_reducible exact sim_behindNumber _
    | with_reducible exact sim_noView _
    | with_reducible exact sim_mayBeOne _ _
    | with_reducible exact sim_sameAddr _ _
    | with_reducible exact sim_samePointer _ _
    | with_reducible exact sim_intArith _ _ _ _
    | with_reducible exact sim_intDiv _ _ _ _
    | with_reducible exact sim_intBits _ _ _ _
    | with_reducible exact sim_shift _ _ _ _ _
    | with_reducible exact sim_intCmp _ _ _
    | with_reducible exact sim_floatArith _ _ _ _
    | with_reducible exact sim_floatCmp _ _ _ _
    | with_reducible exact sim_floatToFloat _ _ _
    | with_reducible exact sim_floatToInt _ _ _
    | with_reducible exact sim_carith _ _ _ _
    | with_reducible exact sim_ccmp _ _ _ _
    | with_reducible exact sim_cconv _ _ _
    | with_reducible exact sim_cadd _ _
    | with_reducible exact sim_csub _ _
    | with_reducible exact sim_cmul _ _
    | with_reducible exact sim_cquo _ _
    | with_reducible exact sim_cproduct _ _ _ _
    | with_reducible exact sim_ccorrected _ _ _ _ _
    | with_reducible exact sim_cquotient _ _ _ _
    | with_reducible exact sim_complexOp _ _ _ _ _ _
    | with_reducible exact sim_stringOp _ _ _
    | with_reducible exact sim_unary _ _
    | with_reducible exact sim_byteOf _
    | with_reducible exact sim_partAt _ _ _
    | with_reducible exact sim_fieldPlace _ _
    | with_reducible exact sim_twoPlaces _ _
    | with_reducible exact sim_addrSub _ _ _
    | with_reducible exact sim_addrCmp _ _ _
    | with_reducible exact sim_addrMod _ _ _
    | with_reducible exact sim_unsafeAdd _ _ _
    | with_reducible exact sim_asNumber _ _
    | with_reducible exact sim_movedNumber _ _ _
    | with_reducible exact sim_movedPointer _ _ _
    | with_reducible exact sim_typeStr _
    | with_reducible exact sim_equalIn _ _ _ _
    | with_reducible exact sim_equal _ _ _
    | with_reducible exact sim_eqGuardIn _ _ _ _
    | with_reducible exact sim_eqGuard _ _ _ _ _ _
    | with_reducible exact sim_binOp _ _ _ _
    | with_reducible exact sim_lenOf _
    | with_reducible exact sim_firstCells _ _ _
    | with_reducible exact FailS.sim (fail_append _ _ _ _ _ _)
    | with_reducible exact sim_append _ _ _
    | with_reducible exact sim_copy _ _ _
    | with_reducible exact sim_alloc _ _ _
    | with_reducible exact sim_box _ _
    | with_reducible exact sim_loadAt _ _
    | with_reducible exact sim_storeAt _ _ _
    | with_reducible exact sim_fieldAt _ _ _
    | with_reducible exact sim_indexAt _ _ _
    | with_reducible exact sim_extract _ _
    | with_reducible exact sim_field _ _ _
    | with_reducible exact sim_makeSlice _ _ _
    | with_reducible exact sim_makeInterface _ _
    | with_reducible exact sim_typeAssert _ _ _ _
    | with_reducible exact sim_sliceBound _ _ _
    | with_reducible exact sim_sliceBounds _ _ _ _ _ _
    | with_reducible exact sim_slice _ _ _ _ _
    | with_reducible refine sim_forIn_array _ _ (fun _ _ => ?_) _
    | with_reducible refine sim_forIn_range _ _ (fun _ _ => ?_) _
    | ((with_reducible refine sims_prog ?_ ?_); (next => (simp only [holdsPacked_pf, stoodInHeld_pf, eqGuardType_pf]; done)))
    | ((with_reducible refine sims_prog ?_ ?_); (next => rfl))
    | with_reducible refine sims_bindM ?_ (fun _ => ?_)
    | with_reducible refine sims_ite ?_ ?_
    | (dsimp only; done) | dsimp only
    | split
    | (show ∀ _, SimS _ _ _; intro _))
end
end Go.Proofs.YtcomppiglhibkaaGreatDoor
/- Finding a method, and the library's functions that only look at a type, are done alike by a model run and the true run. -/
namespace Go.Proofs.YtcomppiglhibkaaGreatDoor
open Go Go.Conc
set_option linter.unusedVariables false
set_option linter.unusedSimpArgs false

section
variable {P : Program} {F : Array Func} {α β : Type}
theorem sim_placeGet (t : TypeId) (x : Place) : SimS (PF P F) P (x.get t) := by
  cases x with
  | val v => exact sims_pureM _
  | var a => exact sim_loadVar _ _
theorem sim_follow : ∀ (l : List FieldStep) (t : TypeId) (x : Place), SimS (PF P F) P (follow l t x) := by
  intro l
  induction l with
  | nil => intro t x; exact sims_pureM _
  | cons s l ih =>
    intro t x
    unfold follow
    refine sims_bindM (sim_underlying _) (fun d => ?_)
    split
    · split
      · refine sims_ite ?_ ?_
        · exact sims_bindM (sim_placeGet _ _) (fun _ => sims_bindM (sim_asAddr _) (fun _ => sims_bindM (sim_fieldPlace _ _) (fun _ => ih _ _)))
        · split
          · exact sims_bindM (sim_fieldPlace _ _) (fun _ => ih _ _)
          · exact sims_bindM (sim_part _ _ _) (fun _ => ih _ _)
          · exact sims_stuck _
      · exact sims_stuck _
    · exact sims_stuck _
theorem sim_wrapNil (ts : Array TypeId) (t : TypeId) (args : Array Value) : SimS (PF P F) P (Builtin.ssaWrapNilChk_ ts t args) := by
  rcases args with ⟨_ | ⟨p, _ | ⟨a, _ | ⟨m, _ | ⟨q, l⟩⟩⟩⟩⟩
  · exact sims_stuck _
  · exact sims_stuck _
  · exact sims_stuck _
  · cases a
    case string =>
      cases m
      case string =>
        cases p
        case pointer p =>
          cases p with
          | some p => exact sims_pureM _
          | none =>
            refine sims_bindM (sims_choose1 _) (fun c => ?_)
            repeat' (first
              | with_reducible exact sims_pureM _
              | with_reducible exact sims_stuck _
              | with_reducible exact sims_unsup _
              | with_reducible exact sim_runtimePanic _
              | with_reducible exact sim_typeInfo _
              | with_reducible exact sim_underlying _
              | with_reducible refine sims_bindM ?_ (fun _ => ?_)
              | with_reducible refine sims_ite ?_ ?_
              | dsimp only
              | split)
        all_goals exact sims_stuck _
      all_goals exact sims_stuck _
    all_goals exact sims_stuck _
  · exact sims_stuck _
theorem sim_receiverAt (xt : TypeId) (x : Place) (b : Bool) (wr : Option String) : SimS (PF P F) P (receiverAt xt x b wr) := by
  unfold receiverAt
  refine sims_bindM (sim_underlying _) (fun d => ?_)
  split
  · exact sim_placeGet _ _
  · refine sims_bindM (sim_placeGet _ _) (fun p => ?_)
    split
    · exact sims_bindM (sim_wrapNil _ _ _) (fun _ => sims_bindM (sim_asAddr _) (fun _ => sim_loadVar _ _))
    · exact sims_bindM (sims_pureM _) (fun _ => sims_bindM (sim_asAddr _) (fun _ => sim_loadVar _ _))
  · exact sims_pureM _
  · exact sims_stuck _
  · exact sim_placeGet _ _
theorem sim_method : ∀ (n : Nat) (t : TypeId) (v : Value) (name : String), SimS (PF P F) P (method n t v name) := by
  intro n
  induction n with
  | zero => intro t v name; exact sims_unsup _
  | succ n ih =>
    intro t v name
    unfold method
    refine sims_bindM (sim_typeInfo _) (fun i => ?_)
    split
    · refine sims_bindM (sim_follow _ _ _) (fun r => ?_)
      obtain ⟨xt, x⟩ := r
      dsimp only
      split
      · refine sims_bindM (sim_placeGet _ _) (fun y => ?_)
        split
        · exact ih _ _ _
        · exact sim_runtimePanic _
        · exact sims_stuck _
      · exact sims_bindM (sim_receiverAt _ _ _ _) (fun _ => sims_pureM _)
    · exact sims_stuck _
/-! ### looks at a type -/
theorem sim_cutType (n : String) : SimS (PF P F) P (cutType n) := by
  unfold cutType
  refine sims_prog (by rfl) ?_
  split <;> first | exact sims_pureM _ | exact sims_stuck _ | exact sims_unsup _
theorem sim_handle (t : TypeId) : SimS (PF P F) P (Extern.Rtype.handle t) := by
  unfold Extern.Rtype.handle
  exact sims_prog (by rfl) (sims_pureM _)
theorem sim_ofHandle (h : Value) : SimS (PF P F) P (Extern.Rtype.ofHandle h) := by
  unfold Extern.Rtype.ofHandle
  refine sims_prog (by rfl) ?_
  split <;> first | exact sims_pureM _ | exact sims_stuck _
theorem sim_noPack (s : String) (t : TypeId) : SimS (PF P F) P (Extern.Rtype.noPack s t) := by
  unfold Extern.Rtype.noPack
  refine sims_prog (by simp only [packed_pf]) ?_
  exact sims_ite (sims_unsup _) (sims_pureM _)
theorem sim_noPackHeld (s : String) (t : TypeId) : SimS (PF P F) P (Extern.Rtype.noPackHeld s t) := by
  unfold Extern.Rtype.noPackHeld
  refine sims_prog (by simp only [holdsPacked_pf]) ?_
  refine sims_prog (by rfl) ?_
  exact sims_ite (sims_unsup _) (sims_pureM _)
theorem sim_typeOf (args : Array Value) : SimS (PF P F) P (Extern.ReflectliteType.typeOf args) := by
  rcases args with ⟨_ | ⟨a, _ | ⟨b, l⟩⟩⟩
  · exact sims_stuck _
  · cases a
    all_goals first
      | exact sims_stuck _
      | exact sims_bindM (sim_cutType _) (fun _ => sims_bindM (sim_handle _) (fun _ => sims_pureM _))
      | exact sims_pureM _
  · exact sims_stuck _
theorem sim_ofRtype (v : Value) : SimS (PF P F) P (Extern.ReflectliteType.ofRtype v) := by
  cases v
  case agg cs =>
    rcases cs with ⟨_ | ⟨a, _ | ⟨b, l⟩⟩⟩
    · exact sims_stuck _
    · exact sims_bindM (sim_ofHandle _) (fun _ => sims_bindM (sim_noPack _ _) (fun _ => sims_pureM _))
    · exact sims_stuck _
  all_goals exact sims_stuck _
theorem sim_comparable (args : Array Value) : SimS (PF P F) P (Extern.ReflectliteType.method (fun t => do Extern.Rtype.noPackHeld "Comparable" t; pure (.bool (← typeInfo t).comparable)) args) := by
  rcases args with ⟨_ | ⟨a, _ | ⟨b, l⟩⟩⟩
  · exact sims_stuck _
  · exact sims_bindM (sim_ofRtype _) (fun _ => sims_bindM (sim_noPackHeld _ _) (fun _ => sims_bindM (sim_typeInfo _) (fun _ => sims_pureM _)))
  · exact sims_stuck _
/-- the library's functions that the model keeps -/
def natRow (s : String) : Bool := s == "internal/reflectlite.TypeOf" || s == "(internal/reflectlite.rtype).Comparable"
theorem nat_rows : (Extern.allNextRows.lookup "internal/reflectlite.TypeOf" = none ∧ Extern.allGenericRows.lookup "internal/reflectlite.TypeOf" = none ∧ Extern.allTypedRows.lookup "internal/reflectlite.TypeOf" = none ∧ Extern.allRows.lookup "internal/reflectlite.TypeOf" = some Extern.ReflectliteType.typeOf) ∧
    (Extern.allNextRows.lookup "(internal/reflectlite.rtype).Comparable" = none ∧ Extern.allGenericRows.lookup "(internal/reflectlite.rtype).Comparable" = none ∧ Extern.allTypedRows.lookup "(internal/reflectlite.rtype).Comparable" = none ∧
      Extern.allRows.lookup "(internal/reflectlite.rtype).Comparable" = some (Extern.ReflectliteType.method (fun t => do Extern.Rtype.noPackHeld "Comparable" t; pure (.bool (← typeInfo t).comparable)))) ∧ Extern.allNextRows.lookup "" = none := by
  refine ⟨⟨?_, ?_, ?_, ?_⟩, ⟨?_, ?_, ?_, ?_⟩, ?_⟩ <;> kernel_rfl
end
end Go.Proofs.YtcomppiglhibkaaGreatDoor
/- Each operation of a plain function is done alike by a model run and the true run. -/
namespace Go.Proofs.YtcomppiglhibkaaGreatDoor
open Go Go.Conc
set_option linter.unusedVariables false
set_option linter.unusedSimpArgs false

section
variable {P : Program} {F : Array Func} {α β : Type}
theorem sim_mapM_list {γ δ : Type} (l : List γ) (f : γ → Sem δ) (hf : ∀ x, SimS (PF P F) P (f x)) : SimS (PF P F) P (l.mapM f) := by
  induction l with
  | nil => simp only [List.mapM_nil]; exact sims_pureM _
  | cons x l ih => simp only [List.mapM_cons]; exact sims_bindM (hf x) (fun _ => sims_bindM ih (fun _ => sims_pureM _))
theorem sim_mapM_array {γ δ : Type} (l : Array γ) (f : γ → Sem δ) (hf : ∀ x, SimS (PF P F) P (f x)) : SimS (PF P F) P (l.mapM f) := by
  rw [Array.mapM_eq_mapM_toList]
  exact sims_mapM (sim_mapM_list _ f hf)
theorem sim_build (t : TypeId) (parts : Array (Nat × Value)) : SimS (PF P F) P (Instr.build t parts) := by
  unfold Instr.build
  refine sims_bindM (sim_zeroValue _) (fun z => sims_bindM (sim_underlying _) (fun d => ?_))
  split
  · refine sims_bindM (sim_mapM_array _ _ (fun f => sims_bindM (sim_sizeOf _) (fun _ => sims_pureM _))) (fun pl => ?_)
    split <;> first | exact sims_pureM _ | exact sims_stuck _
  · refine sims_bindM (sim_sizeOf _) (fun s => ?_)
    split <;> first | exact sims_pureM _ | exact sims_stuck _
  · exact sims_stuck _
theorem sim_buildSlice (t : TypeId) (n : Nat) (parts : Array (Nat × Value)) : SimS (PF P F) P (Instr.buildSlice t n parts) := by
  unfold Instr.buildSlice
  refine sims_bindM (sim_underlying _) (fun d => ?_)
  split
  · refine sims_bindM (sim_sizeOf _) (fun s => ?_)
    dsimp only
    repeat' (first
      | exact sims_stuck _
      | exact sims_unsup _
      | exact sims_pureM _
      | exact sim_newRow _ _
      | exact sim_zeroValue _
      | with_reducible refine sims_bindM ?_ (fun _ => ?_)
      | with_reducible refine sims_ite ?_ ?_
      | dsimp only
      | split)
  · exact sims_stuck _
theorem sim_makeChan (t : TypeId) (n : Value) : SimS (PF P F) P (Instr.makeChan t n) := by
  unfold Instr.makeChan
  refine sims_bindM (sim_asInt _) (fun k => sims_bindM (sim_underlying _) (fun d => ?_))
  split
  · repeat' (first
      | exact sims_stuck _
      | exact sim_runtimePanic _
      | exact sims_pureM _
      | exact sim_typeInfo _
      | exact SimS.new (fun _ _ h => by cases h) (fun _ => sims_pureM _)
      | with_reducible refine sims_bindM ?_ (fun _ => ?_)
      | with_reducible refine sims_ite ?_ ?_
      | dsimp only
      | split)
  · exact sims_stuck _
theorem sim_len (ts : Array TypeId) (t : TypeId) (args : Array Value) : SimS (PF P F) P (Builtin.len_ ts t args) := by
  unfold Builtin.len_
  split
  · refine sims_bindM (sim_underlying _) (fun d => ?_)
    split
    all_goals first
      | exact sims_pureM _
      | exact sims_stuck _
      | (refine sims_bindM (sim_underlying _) (fun _ => ?_); split <;> first | exact sims_pureM _ | exact sims_stuck _)
      | (refine sim_getObj (fun o o' h => by cases h <;> rfl) (fun o => ?_) _; split <;> first | exact sims_pureM _ | exact sims_stuck _)
  · exact sims_stuck _
theorem sim_followBlind : ∀ (l : List FieldStep) (t : TypeId) (x : Option Value), SimS (PF P F) P (followBlind l t x) := by
  intro l
  induction l with
  | nil => intro t x; exact sims_pureM _
  | cons s l ih =>
    intro t x
    unfold followBlind
    refine sims_bindM (sim_underlying _) (fun d => ?_)
    split
    · split
      · split
        all_goals first
          | exact sims_pureM _
          | exact sims_stuck _
          | exact ih _ _
          | exact sims_bindM (sim_part _ _ _) (fun _ => ih _ _)
      · exact sims_stuck _
    · exact sims_stuck _
theorem sim_nilAhead : ∀ (n : Nat) (t : TypeId) (v : Value) (name : String), SimS (PF P F) P (nilAhead n t v name) := by
  intro n
  induction n with
  | zero => intro t v name; exact sims_pureM _
  | succ n ih =>
    intro t v name
    unfold nilAhead
    refine sims_bindM (sim_typeInfo _) (fun i => ?_)
    split
    · refine sims_bindM (sim_followBlind _ _ _) (fun r => ?_)
      split
      · exact sims_pureM _
      · split
        all_goals first
          | exact sims_pureM _
          | exact sims_stuck _
          | exact ih _ _ _
          | (refine sims_bindM (sim_underlying _) (fun _ => ?_); split <;> exact sims_pureM _)
    · exact sims_stuck _

/-! ### calls -/
/-- the model's functions: what has a body there has one in the true program; what has none cannot be called in the model -/
def FitsF (P : Program) (F : Array Func) : Prop := ∀ (f : Nat) (g : Func), F[f]? = some g →
  (g.body.isNone = false ∧ (g.name == "runtime.NumGoroutine") = false ∧ ∃ g', P.funcs[f]? = some g' ∧ g'.body.isNone = false ∧ (g'.name == "runtime.NumGoroutine") = false) ∨
  (g.body.isNone = true ∧ g.name = "?" ∧ g.origin = "?") ∨ (g.body.isNone = true ∧ P.funcs[f]? = some g ∧ natRow g.name = true ∧ g.origin = "")
/-- what such a function does -/
theorem natRow_find {g : Func} (h : natRow g.name = true) (ho : g.origin = "") : (g.name == "runtime.NumGoroutine") = false ∧ Extern.findNext g = none ∧ ∃ e, Extern.find g = some e ∧ ∀ (P : Program) (F : Array Func) (args : Array Value), SimS (PF P F) P (e args) := by
  obtain ⟨⟨a1, a2, a3, a4⟩, ⟨b1, b2, b3, b4⟩, c⟩ := nat_rows
  unfold natRow at h
  rw [Bool.or_eq_true, beq_iff_eq, beq_iff_eq] at h
  rcases h with h | h
  · refine ⟨by rw [h]; decide, ?_, Extern.ReflectliteType.typeOf, ?_, fun P F args => sim_typeOf args⟩
    · show ((Extern.allNextRows.lookup g.name).map _ <|> (Extern.allNextRows.lookup g.origin).map _) = none
      rw [h, ho, a1, c]; rfl
    · unfold Extern.find
      dsimp only
      rw [h, a2, a3, a4]; rfl
  · refine ⟨by rw [h]; decide, ?_, _, ?_, fun P F args => sim_comparable args⟩
    · show ((Extern.allNextRows.lookup g.name).map _ <|> (Extern.allNextRows.lookup g.origin).map _) = none
      rw [h, ho, b1, c]; rfl
    · unfold Extern.find
      dsimp only
      rw [h, b2, b3, b4]; rfl
theorem rows_q : Extern.allNextRows.lookup "?" = none ∧ Extern.allGenericRows.lookup "?" = none ∧ Extern.allTypedRows.lookup "?" = none ∧ Extern.allRows.lookup "?" = none := by
  refine ⟨?_, ?_, ?_, ?_⟩ <;> kernel_rfl
theorem findNext_q (g : Func) (h : g.name = "?") (h' : g.origin = "?") : Extern.findNext g = none ∧ Extern.find g = none := by
  obtain ⟨r1, r2, r3, r4⟩ := rows_q
  constructor
  · show ((Extern.allNextRows.lookup g.name).map _ <|> (Extern.allNextRows.lookup g.origin).map _) = none
    rw [h, h', r1]; rfl
  · have key : ∀ n : String, n = "?" → ((Extern.allGenericRows.lookup n).map (· g.targs g.params g.resultTypes) <|> (Extern.allTypedRows.lookup n).map (· g.params g.resultTypes) <|> Extern.allRows.lookup n) = none := fun n hn => by rw [hn, r2, r3, r4]; rfl
    unfold Extern.find
    dsimp only
    rw [key _ h, key _ h']
    rfl
theorem sim_callFunc (hF : FitsF P F) (f : FuncId) (args : Array Value) : SimS (PF P F) P (callFunc f args) := by
  intro S u w es h
  cases hf : F[f]? with
  | none =>
    have e : (callFunc f args).run (PF P F) u = .halt (.stuck "call: no such function") u := by
      unfold callFunc
      show Sem.run (PF P F) (match F[f]? with | none => _ | some fn => _) u = _
      rw [hf]; rfl
    rw [e]; exact fun _ => .inl trivial
  | some g =>
    rcases hF f g hf with ⟨h1, h2, g', h3, h4, h5⟩ | ⟨h1, h2, h2'⟩ | ⟨h1, h3, h2, h2'⟩
    rotate_left 2
    · obtain ⟨n1, q1, e0, q2, he⟩ := natRow_find h2 h2'
      have e1 : ∀ (Q : Program), Q.funcs[f]? = some g → ∀ v es, (callFunc f args).runT Q v es = (Sem.mark (.extern f) (e0 args >>= fun x => pure (Next.value x))).runT Q v es := fun Q hQ v es => by
        unfold callFunc
        show Sem.runT Q (match Q.funcs[f]? with | none => _ | some fn => _) v es = _
        rw [hQ]
        simp only [n1, h1, q1, q2]
        rfl
      have hm : SimS (PF P F) P (Sem.mark (.extern f) (e0 args >>= fun x => pure (Next.value x))) := SimS.extern_ (sims_bindM (he P F args) (fun _ => sims_pureM _))
      have h' := hm S u w es h
      rw [← Sem.runT_fst (PF P F) (callFunc f args) u #[], e1 (PF P F) hf, Sem.runT_fst, e1 P h3]
      exact h'
    · have e : (callFunc f args).run (PF P F) u = .ok (.enter f args) u := by
        unfold callFunc
        show Sem.run (PF P F) (match F[f]? with | none => _ | some fn => _) u = _
        rw [hf]
        simp only [h1, h2]; rfl
      have e' : (callFunc f args).runT P w es = (.ok (.enter f args) w, es) := by
        unfold callFunc
        show Sem.runT P (match P.funcs[f]? with | none => _ | some fn => _) w es = _
        rw [h3]
        simp only [h4, h5]; rfl
      rw [e, e']
      exact fun _ => ⟨w, #[], by simp, h, Nat.le_refl _, fun e he => by simp at he⟩
    · have e : ∃ x u', (callFunc f args).run (PF P F) u = .halt x u' ∧ Halt.fails x := by
        obtain ⟨q1, q2⟩ := findNext_q g h2 h2'
        have n1 : (g.name == "runtime.NumGoroutine") = false := by rw [h2]; decide
        have n2 : (g.name.endsWith ".init" && !g.name.startsWith "(" && !g.name.startsWith "gosem.") = false := by rw [h2]; decide
        apply Exists.intro
        apply Exists.intro
        apply And.intro
        · unfold callFunc
          show Sem.run (PF P F) (match F[f]? with | none => _ | some fn => _) u = _
          rw [hf]
          simp only [h1, n1, q1, q2, n2]
          rfl
        · trivial
      obtain ⟨x, u', hx, hfx⟩ := e
      rw [hx]; exact fun _ => .inl hfx

theorem sim_callMethod (hF : FitsF P F) (r : Value) (m : String) (args : Array Value) : SimS (PF P F) P (callMethod r m args) := by
  unfold callMethod
  split
  · refine sims_prog (by rfl) ?_
    refine sims_bindM (sim_method _ _ _ _) (fun p => ?_)
    obtain ⟨f, rc⟩ := p
    exact sim_callFunc hF _ _
  · exact sim_runtimePanic _
  · exact sims_stuck _
theorem sim_invokeM (hF : FitsF P F) (m : String) (cap args : Array Value) : SimS (PF P F) P (invoke (.fn (.method m) cap) args) := by
  unfold invoke
  dsimp only
  split
  · exact sim_callMethod hF _ _ _
  · exact sims_stuck _
/-! ### the operations of plain functions -/
def isIntT (P : Program) (t : TypeId) : Bool := match P.underlying t with | some (.int _) => true | _ => false
def okOp (P : Program) (o : Oper) : Bool :=
  match o.op with
  | .move _ | .assign _ | .pick .. | .alloc _ | .box .. | .build .. | .buildSlice .. | .load .. | .store .. | .nilCheck _ | .binOp .. | .unOp .. | .makeInterface .. | .makeSlice .. | .makeChan .. | .slice .. | .fieldAddr .. | .field .. | .indexAddr .. | .typeAssert .. | .extract .. => true
  | .convert s d _ => isIntT P s && isIntT P d
  | .call { callee := .value (.func _), .. } => true
  | .call { callee := .invoke .., .. } => true
  | .call { callee := .builtin .append, .. } | .call { callee := .builtin .len, .. } | .call { callee := .builtin .copy, .. } => true
  | _ => false
theorem sims_underlying {t : TypeId} {d : TypeDesc} {f : TypeDesc → Sem β} (h : P.underlying t = some d) (hf : SimS (PF P F) P (f d)) : SimS (PF P F) P (underlying t >>= f) := by
  have e : ∀ (Q : Program) (v : World) (es : Array Event), Q.underlying t = some d → (underlying t >>= f).runT Q v es = (f d).runT Q v es := fun Q v es hq => by
    show Sem.runT Q (Sem.bind (match Q.underlying t with | some x => Sem.pure x | none => Sem.halt _) f) v es = _
    rw [hq]; rfl
  intro S u w es hs
  have e1 := e (PF P F) u #[] h
  have e2 := e P w es h
  have e3 : (underlying t >>= f).run (PF P F) u = (f d).run (PF P F) u := by rw [← Sem.runT_fst (PF P F) _ u #[], e1, Sem.runT_fst]
  rw [e3, e2]
  exact hf S u w es hs
theorem sim_convert (s d : TypeId) (x : Value) (hs : isIntT P s = true) (hd : isIntT P d = true) : SimS (PF P F) P (convert s d x) := by
  unfold isIntT at hs hd
  obtain ⟨k, hk⟩ : ∃ k, P.underlying s = some (.int k) := by
    cases h : P.underlying s with
    | none => rw [h] at hs; cases hs
    | some t => rw [h] at hs; cases t <;> first | exact ⟨_, rfl⟩ | cases hs
  obtain ⟨l, hl⟩ : ∃ k, P.underlying d = some (.int k) := by
    cases h : P.underlying d with
    | none => rw [h] at hd; cases hd
    | some t => rw [h] at hd; cases t <;> first | exact ⟨_, rfl⟩ | cases hd
  unfold convert
  refine sims_underlying hk (sims_underlying hl ?_)
  cases x
  case pointer a => cases a <;> exact sims_unsup _
  case int => exact sims_pureM _
  case float => exact sim_floatToInt _ _ _
  all_goals exact sims_unsup _
theorem sim_execOp (hF : FitsF P F) (ρ : Operand → Value) (hρ : ∀ f, ρ (.func f) = .func (.func f) #[] #[]) (o : Oper) (ho : okOp P o = true) : SimS (PF P F) P (execOp ρ o) := by
  have v : ∀ {s : Sem Value}, SimS (PF P F) P s → SimS (PF P F) P (do pure (Next.value (← s))) := fun hs => sims_bindM hs (fun _ => sims_pureM _)
  have u : ∀ {s : Sem Unit}, SimS (PF P F) P s → SimS (PF P F) P (do s; pure Next.skip) := fun hs => sims_bindM hs (fun _ => sims_pureM _)
  obtain ⟨dst, op, type, pos, after, guard⟩ := o
  unfold execOp
  cases op
  case move => exact sims_pureM _
  case assign => exact sims_pureM _
  case pick => exact sims_bindM (sim_asBool _) (fun _ => sims_pureM _)
  case alloc => exact v (sim_alloc _ _ _)
  case box => exact v (sim_box _ _)
  case build => exact v (sim_build _ _)
  case buildSlice => exact v (sim_buildSlice _ _ _)
  case load => exact v (sim_loadAt _ _)
  case store => exact u (sim_storeAt _ _ _)
  case nilCheck x =>
    dsimp only
    split
    · exact sim_runtimePanic _
    · exact sim_runtimePanic _
    · exact sim_runtimePanic _
    · split
      · exact sim_runtimePanic _
      · refine sims_prog (by rfl) ?_
        refine sims_bindM (sim_nilAhead _ _ _ _) (fun r => ?_)
        split
        · exact sims_bindM (sims_unsup _) (fun _ => sims_pureM _)
        · exact sims_pureM _
      · exact sims_pureM _
    · exact sims_pureM _
  case binOp => exact v (sims_bindM (sim_eqGuard _ _ _ _ _ _) (fun _ => sim_binOp _ _ _ _))
  case unOp => exact v (sim_unary _ _)
  case makeInterface => exact v (sim_makeInterface _ _)
  case makeSlice => exact v (sim_makeSlice _ _ _)
  case makeChan => exact v (sim_makeChan _ _)
  case slice => exact v (sim_sliceAt _ _ _ _ _)
  case fieldAddr => exact v (sim_fieldAt _ _ _)
  case field => exact v (sim_field _ _ _)
  case indexAddr => exact v (sim_indexAt _ _ _)
  case typeAssert => exact v (sim_typeAssert _ _ _ _)
  case extract => exact v (sim_extract _ _)
  case convert s d x =>
    simp only [okOp, Bool.and_eq_true] at ho
    exact v (sim_convert _ _ _ ho.1 ho.2)
  case call c =>
    obtain ⟨callee, args, argTypes⟩ := c
    cases callee
    case value f =>
      cases f
      case func f =>
        show SimS _ _ (do let d ← Deferred.ofValue (ρ (.func f)) (args.map ρ); invoke d.target d.args)
        rw [hρ]
        exact sim_callFunc hF f _
      all_goals cases ho
    case builtin b =>
      cases b
      all_goals first
        | (cases ho; done)
        | exact v (sim_append _ _ _)
        | exact v (sim_len _ _ _)
        | exact v (sim_copy _ _ _)
    case invoke r m =>
      show SimS _ _ (invoke (.fn (.method m) #[]) (#[ρ r] ++ args.map ρ))
      exact sim_invokeM hF _ _ _
  all_goals cases ho
end
end Go.Proofs.YtcomppiglhibkaaGreatDoor
/- One step of a model run beside one step of goroutine 0 in the true program. -/
namespace Go.Proofs.YtcomppiglhibkaaGreatDoor
open Go Go.Conc
set_option linter.unusedVariables false
set_option linter.unusedSimpArgs false

def okCode (P : Program) : Code → Bool
  | .skip | .ret | .label _ | .exit _ => true
  | .seq a b => okCode P a && okCode P b
  | .cond _ a b => okCode P a && okCode P b
  | .block _ c => okCode P c
  | .loop c => okCode P c
  | .region _ ops _ => ops.all (okOp P)
  | _ => false
def okItem (P : Program) : Item → Bool
  | .code c => okCode P c
  | .inBlock _ => true
  | .inLoop c => okCode P c
  | .inRegion ops _ => ops.all (okOp P)
  | _ => false
/-- a frame of a plain function -/
structure OkFr (P : Program) (F : Array Func) (k0 : FuncId) (fr : Frame) : Prop where
  fn : fr.fn ≠ k0
  fun_ : ∃ g, P.funcs[fr.fn]? = some g ∧ F[fr.fn]? = some g
  todo : ∀ it ∈ fr.todo, okItem P it = true
  defers : fr.defers = []
  kind : fr.kind = .normal
  round : fr.roundOf = none
/-- the model's functions are the true ones, but for function k0 and those that cannot be called in the model -/
structure FitsK (P : Program) (F : Array Func) (k0 : FuncId) : Prop where
  plain : ∀ (f : Nat) (g : Func), F[f]? = some g → f ≠ k0 →
    (P.funcs[f]? = some g ∧ (g.name == "runtime.NumGoroutine") = false ∧ ∃ c, g.body = some c ∧ okCode P c = true) ∨ (g.body.isNone = true ∧ g.name = "?" ∧ g.origin = "?") ∨ (g.body.isNone = true ∧ P.funcs[f]? = some g ∧ natRow g.name = true ∧ g.origin = "")
  fits : FitsF P F
  early_ : ∀ (fr : Frame) (cs : List Frame) (d : Option Dying) (g : Nat) (w : World), ∃ o w' es, early (PF P F) fr cs d g w = .ended o w' es

section
variable {P : Program} {F : Array Func} {k0 : FuncId} {α β : Type}
/-- the world that a step leaves -/
def gw : GStep → World
  | .go _ w _ | .comm _ _ _ _ w _ | .spawn _ _ w _ | .count _ w _ | .timer _ _ w _ | .alone _ _ w _ | .newcoro _ _ _ w _ | .coroswitch _ _ _ w _ | .collect _ w _ | .watch _ w _ | .ended _ w _ => w
theorem gw_after (es : Array Event) (x : GStep) : gw (GStep.after es x) = gw x := by cases x <;> rfl
/-- what it has drawn is heard -/
def Heard (S : Hidn) (x : GStep) : Prop := (gw x).drawn ≤ S.T
theorem drawn_of {α : Type} {p : Program} {s : Sem α} {w : World} {r : Result α} (h : s.run p w = r) : w.drawn ≤ (endW r).drawn := h ▸ run_drawn p s w
theorem endFatal_drawn (p : Program) (fr : Frame) (cs : List Frame) (d : Option Dying) (m : String) (w : World) : w.drawn ≤ (gw (endFatal p fr cs d m w)).drawn := by
  unfold endFatal
  dsimp only
  split
  · rename_i h; exact drawn_of h
  · rename_i h; exact drawn_of h
  · rename_i h; exact drawn_of h
/-- what the two steps come to -/
def Lock (P : Program) (F : Array Func) (k0 : FuncId) (S : Hidn) (bm bt : List Frame) (fr : Frame) (cs : List Frame) (u w : World) : Prop :=
  (∃ o u' es, stepG (PF P F) true (G fr (cs ++ bm)) u = .ended o u' es) ∨
  (∃ fr' cs' u' w' es es', stepG (PF P F) true (G fr (cs ++ bm)) u = .go (G fr' (cs' ++ bm)) u' es ∧ stepG P true (G fr (cs ++ bt)) w = .go (G fr' (cs' ++ bt)) w' es' ∧
    Sim S u' w' ∧ u.heap.size ≤ u'.heap.size ∧ (∀ e ∈ es', EvS S u'.heap.size e) ∧ OkFr P F k0 fr' ∧ (∀ c ∈ cs', OkFr P F k0 c)) ∨
  (∃ args u' w' es es', stepG (PF P F) true (G fr (cs ++ bm)) u = .go (G (Frame.enter (PF P F) k0 args .normal) (fr :: (cs ++ bm))) u' es ∧
    stepG P true (G fr (cs ++ bt)) w = .go (G (Frame.enter P k0 args .normal) (fr :: (cs ++ bt))) w' es' ∧ (∃ g, F[k0]? = some g) ∧ Sim S u' w' ∧ u.heap.size ≤ u'.heap.size ∧ (∀ e ∈ es', EvS S u'.heap.size e))

/-- it yields what fits, if anything -/
def Yields (U : Program) (Q : α → Prop) (s : Sem α) : Prop := ∀ u a u', s.run U u = .ok a u' → Q a
theorem run_bind' (U : Program) (s : Sem α) (f : α → Sem β) (u : World) : (s.bind f).run U u = match s.run U u with | .ok a w => (f a).run U w | .halt x w => .halt x w := by
  have := congrArg Prod.fst (Sem.runT_bind' U s f u #[])
  rw [Sem.runT_fst] at this
  rw [this, ← Sem.runT_fst U s u #[]]
  rcases s.runT U u #[] with ⟨_ | _, _⟩
  · simp only []; rw [Sem.runT_fst]
  · rfl
theorem Yields.bind {U : Program} {Q : β → Prop} {s : Sem α} {f : α → Sem β} (hf : ∀ a, Yields U Q (f a)) : Yields U Q (s >>= f) := by
  intro u b u' h
  have e : (s >>= f).run U u = match s.run U u with | .ok a w => (f a).run U w | .halt x w => .halt x w := run_bind' U s f u
  rw [e] at h
  cases hs : s.run U u with
  | ok a w => rw [hs] at h; exact hf a _ _ _ h
  | halt x w => rw [hs] at h; cases h
theorem Yields.pure {U : Program} {Q : α → Prop} {a : α} (h : Q a) : Yields U Q (pure a : Sem α) := by
  intro u b u' e; injection e with e1 e2; subst e1; exact h
theorem Yields.halt {U : Program} {Q : α → Prop} (x : Halt) : Yields U Q (Sem.halt x : Sem α) := by intro u b u' e; cases e
theorem Yields.nilDeref {U : Program} {Q : α → Prop} : Yields U Q (runtimePanic .nilDeref : Sem α) := by intro u b u' e; cases e
theorem Yields.ite {U : Program} {Q : α → Prop} {c : Prop} [Decidable c] {A B : Sem α} (hA : Yields U Q A) (hB : Yields U Q B) : Yields U Q (if c then A else B) := by split <;> assumption
def NextOk (F : Array Func) (nx : Next) : Prop := (∃ v, nx = .value v) ∨ nx = .skip ∨ ∃ f args g, nx = .enter f args ∧ F[f]? = some g ∧ g.body.isNone = false
theorem yields_callFunc (hF : FitsF P F) (f : FuncId) (args : Array Value) : Yields (PF P F) (NextOk F) (callFunc f args) := by
  intro u nx u' h
  unfold callFunc at h
  have h' : Sem.run (PF P F) (match F[f]? with | none => _ | some fn => _) u = .ok nx u' := h
  cases hf : F[f]? with
  | none => rw [hf] at h'; cases h'
  | some g =>
    rw [hf] at h'
    rcases hF f g hf with ⟨h1, h2, g', h3, h4, h5⟩ | ⟨h1, h2, h2'⟩ | ⟨h1, h3, h2, h2'⟩
    rotate_left 2
    · obtain ⟨n1, q1, e0, q2, he⟩ := natRow_find h2 h2'
      simp only [n1, h1, q1, q2] at h'
      have h2 : Sem.run (PF P F) (Sem.mark (.extern f) (e0 args >>= fun x => pure (Next.value x))) u = .ok nx u' := h'
      exact Yields.bind (U := PF P F) (Q := NextOk F) (s := e0 args) (fun a => Yields.pure (.inl ⟨_, rfl⟩)) _ _ _ h2
    · simp only [h1, h2] at h'
      injection h' with e1 e2
      exact .inr (.inr ⟨f, args, g, e1.symm, hf, h1⟩)
    · obtain ⟨q1, q2⟩ := findNext_q g h2 h2'
      have n1 : (g.name == "runtime.NumGoroutine") = false := by rw [h2]; decide
      have n2 : (g.name.endsWith ".init" && !g.name.startsWith "(" && !g.name.startsWith "gosem.") = false := by rw [h2]; decide
      simp only [h1, n1, q1, q2, n2] at h'
      cases h'
theorem yields_callMethod (hF : FitsF P F) (r : Value) (m : String) (args : Array Value) : Yields (PF P F) (NextOk F) (callMethod r m args) := by
  unfold callMethod
  split
  · refine Yields.bind (fun p => ?_)
    refine Yields.bind (fun q => ?_)
    obtain ⟨f, rc⟩ := q
    exact yields_callFunc hF _ _
  · exact Yields.nilDeref
  · exact Yields.halt _
theorem yields_invokeM (hF : FitsF P F) (m : String) (cap args : Array Value) : Yields (PF P F) (NextOk F) (invoke (.fn (.method m) cap) args) := by
  unfold invoke
  dsimp only
  split
  · exact yields_callMethod hF _ _ _
  · exact Yields.halt _
/-- what an operation of a plain function yields -/
theorem next_execOp (hF : FitsF P F) (ρ : Operand → Value) (hρ : ∀ f, ρ (.func f) = .func (.func f) #[] #[]) (o : Oper) (ho : okOp P o = true) : Yields (PF P F) (NextOk F) (execOp ρ o) := by
  have v : ∀ {γ : Type} {s : Sem γ} {f : γ → Value}, Yields (PF P F) (NextOk F) (do pure (Next.value (f (← s)))) := fun {γ s f} => Yields.bind (fun a => Yields.pure (.inl ⟨_, rfl⟩))
  have un : ∀ {s : Sem Unit}, Yields (PF P F) (NextOk F) (do s; pure Next.skip) := fun {s} => Yields.bind (fun a => Yields.pure (.inr (.inl rfl)))
  obtain ⟨dst, op, type, pos, after, guard⟩ := o
  unfold execOp
  cases op
  case move => exact Yields.pure (.inl ⟨_, rfl⟩)
  case assign => exact Yields.pure (.inl ⟨_, rfl⟩)
  case pick => exact Yields.bind (fun b => Yields.pure (.inl ⟨_, rfl⟩))
  case nilCheck x =>
    dsimp only
    split
    · exact Yields.nilDeref
    · exact Yields.nilDeref
    · exact Yields.nilDeref
    · split
      · exact Yields.nilDeref
      · refine Yields.bind (fun p => Yields.bind (fun r => ?_))
        exact Yields.ite (Yields.bind (fun _ => Yields.pure (.inl ⟨_, rfl⟩))) (Yields.pure (.inl ⟨_, rfl⟩))
      · exact Yields.pure (.inl ⟨_, rfl⟩)
    · exact Yields.pure (.inl ⟨_, rfl⟩)
  case call c =>
    obtain ⟨callee, args, argTypes⟩ := c
    cases callee
    case value f =>
      cases f
      case func f =>
        show Yields _ _ (do let d ← Deferred.ofValue (ρ (.func f)) (args.map ρ); invoke d.target d.args)
        rw [hρ]
        exact yields_callFunc hF f _
      all_goals cases ho
    case builtin b =>
      cases b
      all_goals first
        | (cases ho; done)
        | exact v (f := id)
    case invoke r m =>
      show Yields _ _ (invoke (.fn (.method m) #[]) (#[ρ r] ++ args.map ρ))
      exact yields_invokeM hF _ _ _
  all_goals first
    | (cases ho; done)
    | exact v (f := id)
    | exact un

variable {S : Hidn} {bm bt : List Frame} {u w : World}
/-- a move of control: the worlds stand -/
theorem Lock.move {fr fr' : Frame} {cs cs' : List Frame} {u w : World} (h1 : stepG (PF P F) true (G fr (cs ++ bm)) u = .go (G fr' (cs' ++ bm)) u) (h2 : stepG P true (G fr (cs ++ bt)) w = .go (G fr' (cs' ++ bt)) w) (hs : Sim S u w)
    (hf : OkFr P F k0 fr') (hc : ∀ c ∈ cs', OkFr P F k0 c) : Lock P F k0 S bm bt fr cs u w :=
  .inr (.inl ⟨fr', cs', u, w, #[], #[], h1, h2, hs, Nat.le_refl _, fun e he => by simp at he, hf, hc⟩)
theorem okItem_exit {id : Nat} : ∀ {k k' : List Item}, exitTo id k = some k' → (∀ it ∈ k, okItem P it = true) → ∀ it ∈ k', okItem P it = true := by
  intro k
  induction k with
  | nil => intro k' h; cases h
  | cons it k ih =>
    intro k' h hk
    have hk2 : ∀ it ∈ k, okItem P it = true := fun x hx => hk x (List.mem_cons_of_mem _ hx)
    cases it
    case inBlock j =>
      unfold exitTo at h
      split at h
      · injection h with h; subst h; exact hk2
      · exact ih h hk2
    all_goals exact ih h hk2

theorem step_oper (U : Program) (m : Bool) {fn : FuncId} {tmps : Array Value} {ops : Array Oper} {i : Nat} {l : List Nat} {k : List Item} {cs : List Frame} {w : World} {o : Oper} (ho : ops[i]? = some o) (hw : Region.wanted o (yielded ops tmps) = true) :
    stepG U m (G { fn := fn, tmps := tmps, todo := .inRegion ops (i :: l) :: k, defers := [], mode := .run, kind := .normal } cs) w =
      stepG.apply U true { fn := fn, tmps := tmps, todo := .inRegion ops (i :: l) :: k, defers := [], mode := .run, kind := .normal } cs none (execOp (Frame.eval { fn := fn, tmps := tmps, todo := .inRegion ops (i :: l) :: k, defers := [], mode := .run, kind := .normal }) o) w := by
  simp [G, stepG, stepG.exec, ho, hw, stepG.oper, Frame.oper?]
theorem enter_ok (hK : FitsK P F k0) {f : FuncId} {g : Func} {args : Array Value} (hf : F[f]? = some g) (hb : g.body.isNone = false) (hne : f ≠ k0) : Frame.enter (PF P F) f args .normal = Frame.enter P f args .normal ∧ OkFr P F k0 (Frame.enter P f args .normal) := by
  rcases hK.plain f g hf hne with ⟨h1, h2, c, h3, h4⟩ | ⟨h1, _⟩ | ⟨h1, _⟩
  rotate_left 2
  · rw [h1] at hb; cases hb
  · refine ⟨by unfold Frame.enter; rw [show (PF P F).funcs = F from rfl, hf, h1], hne, ⟨g, h1, hf⟩, ?_, rfl, rfl, rfl⟩
    intro it hit
    simp only [Frame.enter, h1, Option.bind_some, h3, Option.getD_some, List.mem_singleton] at hit
    subst hit; exact h4
  · rw [h1] at hb; cases hb
set_option maxHeartbeats 1000000 in
theorem lock_apply (hK : FitsK P F k0) (hs : Sim S u w) {fn : FuncId} {tmps : Array Value} {ops : Array Oper} {i : Nat} {l : List Nat} {k : List Item} {cs : List Frame} {s : Sem Next} (hfn : fn ≠ k0) (hg : ∃ g, P.funcs[fn]? = some g ∧ F[fn]? = some g)
    (ht : ∀ it ∈ Item.inRegion ops (i :: l) :: k, okItem P it = true) (hc : ∀ c ∈ cs, OkFr P F k0 c) (hS : SimS (PF P F) P s) (hy : Yields (PF P F) (NextOk F) s)
    (hT : Heard S (stepG (PF P F) true (G { fn := fn, tmps := tmps, todo := .inRegion ops (i :: l) :: k, defers := [], mode := .run, kind := .normal } (cs ++ bm)) u))
    (h1 : stepG (PF P F) true (G { fn := fn, tmps := tmps, todo := .inRegion ops (i :: l) :: k, defers := [], mode := .run, kind := .normal } (cs ++ bm)) u = stepG.apply (PF P F) true { fn := fn, tmps := tmps, todo := .inRegion ops (i :: l) :: k, defers := [], mode := .run, kind := .normal } (cs ++ bm) none s u)
    (h2 : stepG P true (G { fn := fn, tmps := tmps, todo := .inRegion ops (i :: l) :: k, defers := [], mode := .run, kind := .normal } (cs ++ bt)) w = stepG.apply P true { fn := fn, tmps := tmps, todo := .inRegion ops (i :: l) :: k, defers := [], mode := .run, kind := .normal } (cs ++ bt) none s w) :
    Lock P F k0 S bm bt { fn := fn, tmps := tmps, todo := .inRegion ops (i :: l) :: k, defers := [], mode := .run, kind := .normal } cs u w := by
  have hss := hS S u w #[] hs
  have hk : ∀ it ∈ Item.inRegion ops l :: k, okItem P it = true := by
    intro x hx
    rcases List.mem_cons.1 hx with e | e
    · subst e
      have q := ht _ (List.mem_cons_self ..)
      exact q
    · exact ht x (List.mem_cons_of_mem _ e)
  have hfst := Sem.runT_fst (PF P F) s u #[]
  unfold Lock
  rw [h1] at hT ⊢
  rw [h2]
  unfold stepG.apply at hT ⊢
  generalize hrT : s.runT (PF P F) u #[] = rt at hfst hT ⊢
  obtain ⟨r, es⟩ := rt
  dsimp only at hfst
  subst hfst
  cases hr : s.run (PF P F) u with
  | ok nx u' =>
    rw [hr] at hss hT
    have hd : u'.drawn ≤ S.T := by
      rcases hy u nx u' hr with ⟨v, rfl⟩ | rfl | ⟨f, args, g, rfl, hf, hb⟩
      · exact hT
      · exact hT
      · exact hT
    obtain ⟨w', es', e1, e2, e3, e4⟩ := hss hd
    simp only [e1, if_true]
    have ev : ∀ e ∈ seen P fn (#[] ++ es'), EvS S u'.heap.size e := fun e he => e4 e (by have := mem_seen he; simpa using this)
    rcases hy u nx u' hr with ⟨v, rfl⟩ | rfl | ⟨f, args, g, rfl, hf, hb⟩
    · exact .inr (.inl ⟨_, cs, u', w', _, _, rfl, rfl, e2, e3, fun e he => ev e (by simpa using he), ⟨hfn, hg, hk, rfl, rfl, rfl⟩, hc⟩)
    · exact .inr (.inl ⟨_, cs, u', w', _, _, rfl, rfl, e2, e3, fun e he => ev e (by simpa using he), ⟨hfn, hg, hk, rfl, rfl, rfl⟩, hc⟩)
    · by_cases e : f = k0
      · subst e
        exact .inr (.inr ⟨args, u', w', _, _, rfl, rfl, ⟨g, hf⟩, e2, e3, fun e he => ev e (by simpa using he)⟩)
      · obtain ⟨q1, q2⟩ := enter_ok hK (args := args) hf hb e
        refine .inr (.inl ⟨Frame.enter (PF P F) f args .normal, { fn := fn, tmps := tmps, todo := .inRegion ops (i :: l) :: k, defers := [], mode := .run, kind := .normal } :: cs, u', w', _, seen P fn (#[] ++ es') ++ #[], rfl, ?_, e2, e3, fun e he => ev e (by simpa using he), ?_, ?_⟩)
        · rw [q1]; rfl
        · rw [q1]; exact q2
        · intro c hx
          rcases List.mem_cons.1 hx with e | e
          · subst e; exact ⟨hfn, hg, ht, rfl, rfl, rfl⟩
          · exact hc c e
  | halt x u' =>
    rw [hr] at hss hT
    cases x with
    | stuck m => exact .inl ⟨_, _, _, rfl⟩
    | unsupported m =>
      cases m
      case initOrder g =>
        obtain ⟨o, w2, es2, q⟩ := hK.early_ { fn := fn, tmps := tmps, todo := .inRegion ops (i :: l) :: k, defers := [], mode := .run, kind := .normal } (cs ++ bm) none g u'
        have e : GStep.after (seen (PF P F) fn #[]) (early (PF P F) { fn := fn, tmps := tmps, todo := .inRegion ops (i :: l) :: k, defers := [], mode := .run, kind := .normal } (cs ++ bm) none g u') = .ended o w2 (seen (PF P F) fn #[] ++ es2) := by rw [q]; rfl
        exact .inl ⟨_, _, _, e⟩
      all_goals exact .inl ⟨_, _, _, rfl⟩
    | fatal m =>
      have hd : u'.drawn ≤ S.T := Nat.le_trans (endFatal_drawn _ _ _ _ m u') (by have := hT; unfold Heard at this; rw [gw_after] at this; exact this)
      rcases hss hd with hx | ⟨⟨v, hx⟩, _⟩ <;> cases hx
    | exit c => rcases hss hT with hx | ⟨⟨v, hx⟩, _⟩ <;> cases hx
    | throw m => rcases hss hT with hx | ⟨⟨v, hx⟩, _⟩ <;> cases hx
    | blocked => rcases hss hT with hx | ⟨⟨v, hx⟩, _⟩ <;> cases hx
    | waiting => rcases hss hT with hx | ⟨⟨v, hx⟩, _⟩ <;> cases hx
    | goexit => rcases hss hT with hx | ⟨⟨v, hx⟩, _⟩ <;> cases hx
    | panic v =>
      obtain ⟨w', es', e1, e2, e3, e4⟩ := (hss hT).elim (fun q => q.elim) (fun q => q.2)
      simp only [e1, if_true]
      exact .inr (.inl ⟨{ fn := fn, tmps := tmps, todo := .inRegion ops (i :: l) :: k, defers := [], mode := .panicking [{ v, recovered := false }], kind := .normal }, cs, u', w', seen (PF P F) fn es ++ #[], seen P fn (#[] ++ es') ++ #[], rfl, rfl, e2, e3, fun e he => e4 e (by have := mem_seen (by simpa using he : e ∈ seen P fn (#[] ++ es')); simpa using this), ⟨hfn, hg, ht, rfl, rfl, rfl⟩, hc⟩)

set_option maxHeartbeats 1000000 in
theorem lock_run (hK : FitsK P F k0) (hs : Sim S u w) {fn : FuncId} {tmps : Array Value} {todo : List Item} {cs : List Frame} (hfn : fn ≠ k0) (hg : ∃ g, P.funcs[fn]? = some g ∧ F[fn]? = some g)
    (ht : ∀ it ∈ todo, okItem P it = true) (hc : ∀ c ∈ cs, OkFr P F k0 c) (hT : Heard S (stepG (PF P F) true (G { fn := fn, tmps := tmps, todo := todo, defers := [], mode := .run, kind := .normal } (cs ++ bm)) u)) :
    Lock P F k0 S bm bt { fn := fn, tmps := tmps, todo := todo, defers := [], mode := .run, kind := .normal } cs u w := by
  have ok : ∀ {tm : Array Value} {td : List Item} {md : FrameMode}, (∀ it ∈ td, okItem P it = true) → OkFr P F k0 { fn := fn, tmps := tm, todo := td, defers := [], mode := md, kind := .normal } := fun h => ⟨hfn, hg, h, rfl, rfl, rfl⟩
  have tl : ∀ {it : Item} {k : List Item}, (∀ x ∈ it :: k, okItem P x = true) → (∀ x ∈ k, okItem P x = true) ∧ okItem P it = true := fun h => ⟨fun x hx => h x (List.mem_cons_of_mem _ hx), h _ (List.mem_cons_self ..)⟩
  have ap : ∀ {it : Item} {k : List Item}, (∀ x ∈ k, okItem P x = true) → okItem P it = true → (∀ x ∈ it :: k, okItem P x = true) := fun h1 h2 x hx => by
    rcases List.mem_cons.1 hx with e | e
    · subst e; exact h2
    · exact h1 x e
  rcases todo with _ | ⟨it, k⟩
  · exact Lock.move (cs' := cs) rfl rfl hs (ok (by simp)) hc
  obtain ⟨hk, hit⟩ := tl ht
  cases it
  case inBlock => exact Lock.move (cs' := cs) rfl rfl hs (ok hk) hc
  case inLoop c => exact Lock.move (cs' := cs) rfl rfl hs (ok (ap (ap hk hit) hit)) hc
  case code c =>
    cases c
    case skip => exact Lock.move (cs' := cs) rfl rfl hs (ok hk) hc
    case label => exact Lock.move (cs' := cs) rfl rfl hs (ok hk) hc
    case ret => exact Lock.move (cs' := cs) (fr' := { fn := fn, tmps := tmps, todo := .code .ret :: k, defers := [], mode := .returning, kind := .normal }) rfl rfl hs (ok ht) hc
    case seq a b =>
      simp only [okItem, okCode, Bool.and_eq_true] at hit
      exact Lock.move (cs' := cs) rfl rfl hs (ok (ap (ap hk hit.2) hit.1)) hc
    case block id c => exact Lock.move (cs' := cs) rfl rfl hs (ok (ap (ap hk rfl) hit)) hc
    case loop c => exact Lock.move (cs' := cs) rfl rfl hs (ok (ap (ap hk hit) hit)) hc
    case cond c a b =>
      simp only [okItem, okCode, Bool.and_eq_true] at hit
      cases he : Frame.eval { fn := fn, tmps := tmps, todo := .code (.cond c a b) :: k, defers := [], mode := .run, kind := .normal } c
      case bool t =>
        exact Lock.move (cs' := cs) (fr' := { fn := fn, tmps := tmps, todo := .code (if t then a else b) :: k, defers := [], mode := .run, kind := .normal }) (by simp [G, stepG, stepG.exec, he]) (by simp [G, stepG, stepG.exec, he]) hs (ok (ap hk (by cases t <;> simp [okItem, hit]))) hc
      all_goals exact .inl ⟨_, _, _, by simp [G, stepG, stepG.exec, he]; exact ⟨rfl, rfl, rfl⟩⟩
    case exit id =>
      cases he : exitTo id k with
      | none => exact .inl ⟨_, _, _, by simp [G, stepG, stepG.exec, he]; exact ⟨rfl, rfl, rfl⟩⟩
      | some k' => exact Lock.move (cs' := cs) (fr' := { fn := fn, tmps := tmps, todo := k', defers := [], mode := .run, kind := .normal }) (by simp [G, stepG, stepG.exec, he]) (by simp [G, stepG, stepG.exec, he]) hs (ok (okItem_exit he hk)) hc
    case region id ops draw =>
      cases draw
      · exact Lock.move (cs' := cs) (fr' := { fn := fn, tmps := tmps, todo := .inRegion ops (List.range ops.size) :: k, defers := [], mode := .run, kind := .normal }) rfl rfl hs (ok (ap hk hit)) hc
      · have hd := hs.draw
        refine .inr (.inl ⟨{ fn := fn, tmps := tmps, todo := .inRegion ops (Region.schedule (P.follows .mixedOrders) ops (u.tape u.drawn (.order fn id))) :: k, defers := [], mode := .run, kind := .normal }, cs, { u with drawn := u.drawn + 1 }, { w with drawn := w.drawn + 1 }, #[], #[], ?_, ?_, hd, Nat.le_refl _, fun e he => by simp at he, ok (ap hk hit), hc⟩)
        · rfl
        · have hdr : u.drawn + 1 ≤ S.T := hT
          have := hs.tape 0 (.order fn id) (by omega)
          simp only [Nat.add_zero] at this
          rw [← this]; rfl
    all_goals cases hit
  case inRegion ops l =>
    rcases l with _ | ⟨i, l⟩
    · exact Lock.move (cs' := cs) rfl rfl hs (ok hk) hc
    cases ho : ops[i]? with
    | none => exact Lock.move (cs' := cs) (fr' := Frame.finish { fn := fn, tmps := tmps, todo := .inRegion ops (i :: l) :: k, defers := [], mode := .run, kind := .normal } undef) (by simp [G, stepG, stepG.exec, ho]) (by simp [G, stepG, stepG.exec, ho]) hs (ok (ap hk hit)) hc
    | some o =>
      cases hw : Region.wanted o (yielded ops tmps) with
      | false => exact Lock.move (cs' := cs) (fr' := Frame.finish { fn := fn, tmps := tmps, todo := .inRegion ops (i :: l) :: k, defers := [], mode := .run, kind := .normal } undef) (by simp [G, stepG, stepG.exec, ho, hw]) (by simp [G, stepG, stepG.exec, ho, hw]) hs (ok (ap hk hit)) hc
      | true =>
        have hop : okOp P o = true := by
          simp only [okItem, Array.all_eq_true'] at hit
          exact hit o (Array.mem_of_getElem? ho)
        exact lock_apply hK hs hfn hg ht hc (sim_execOp hK.fits _ (fun f => rfl) o hop) (next_execOp hK.fits _ (fun f => rfl) o hop) hT (step_oper _ _ ho hw) (step_oper _ _ ho hw)
  all_goals cases hit

theorem sim_results (f : Func) (tmps : Array Value) : SimS (PF P F) P (results f tmps) := by
  unfold results
  refine sims_bindM (sim_mapM_array _ _ (fun x => ?_)) (fun vs => sims_pureM _)
  split
  · exact sims_pureM _
  · exact sims_bindM (sim_asAddr _) (fun a => sim_loadVar _ _)
theorem finish_ok {fr : Frame} (h : OkFr P F k0 fr) (v : Value) : OkFr P F k0 (fr.finish v) := by
  obtain ⟨fn, tmps, todo, defers, mode, kind, round⟩ := fr
  obtain ⟨h1, h2, h3, h4, h5, h6⟩ := h
  dsimp only at h1 h2 h3 h4 h5 h6
  subst h4 h5 h6
  rcases todo with _ | ⟨it, k⟩
  · exact ⟨h1, h2, h3, rfl, rfl, rfl⟩
  · cases it
    case inRegion ops l =>
      cases l
      · exact ⟨h1, h2, h3, rfl, rfl, rfl⟩
      · refine ⟨h1, h2, fun x hx => ?_, rfl, rfl, rfl⟩
        rcases List.mem_cons.1 hx with e | e
        · subst e
          have q := h3 _ (List.mem_cons_self ..)
          exact q
        · exact h3 x (List.mem_cons_of_mem _ e)
    all_goals first
      | exact ⟨h1, h2, h3, rfl, rfl, rfl⟩
      | (have q := h3 _ (List.mem_cons_self ..); cases q)
set_option maxHeartbeats 1000000 in
/-- behind a frame that is done -/
theorem lock_return (hK : FitsK P F k0) (hs : Sim S u w) {fr : Frame} {cs : List Frame} (hf : OkFr P F k0 fr) (hm : fr.mode = .returning) {c : Frame} (hc : ∀ x ∈ c :: cs, OkFr P F k0 x) (hT : Heard S (stepG (PF P F) true (G fr (c :: cs ++ bm)) u)) : Lock P F k0 S bm bt fr (c :: cs) u w := by
  obtain ⟨fn, tmps, todo, defers, mode, kind, round⟩ := fr
  obtain ⟨h1, ⟨g, h2, h2'⟩, h3, h4, h5, h6⟩ := hf
  dsimp only at h1 h2 h2' h3 h4 h5 h6 hm
  subst h4 h5 h6 hm
  have hss := sim_results (P := P) (F := F) g tmps S u w #[] hs
  have hfst := Sem.runT_fst (PF P F) (results g tmps) u #[]
  unfold Lock
  unfold Heard at hT
  simp only [G, stepG, unwind, h2, show (PF P F).funcs = F from rfl, h2', List.cons_append] at hT ⊢
  generalize hrT : (results g tmps).runT (PF P F) u #[] = rt at hfst hT ⊢
  obtain ⟨r, es⟩ := rt
  dsimp only at hfst
  subst hfst
  cases hr : (results g tmps).run (PF P F) u with
  | ok v u' =>
    rw [hr] at hss hT
    obtain ⟨w', es', e1, e2, e3, e4⟩ := hss hT
    simp only [e1]
    exact .inr (.inl ⟨c.finish v, cs, u', w', _, _, rfl, rfl, e2, e3, fun e he => e4 e (by have := mem_seen (by simpa using he : e ∈ seen P fn (#[] ++ es')); simpa using this), finish_ok (hc c (List.mem_cons_self ..)) v, fun x hx => hc x (List.mem_cons_of_mem _ hx)⟩)
  | halt x u' =>
    left
    cases x <;> exact ⟨_, _, _, rfl⟩
/-- a frame that panics -/
theorem lock_panic (hK : FitsK P F k0) (hs : Sim S u w) {fr : Frame} {cs : List Frame} (hf : OkFr P F k0 fr) {ch : List PanicEntry} (hm : fr.mode = .panicking ch) {c : Frame} (hc : ∀ x ∈ c :: cs, OkFr P F k0 x) : Lock P F k0 S bm bt fr (c :: cs) u w := by
  obtain ⟨fn, tmps, todo, defers, mode, kind, round⟩ := fr
  obtain ⟨h1, ⟨g, h2, h2'⟩, h3, h4, h5, h6⟩ := hf
  dsimp only at h1 h2 h2' h3 h4 h5 h6 hm
  subst h4 h5 h6 hm
  have hcc := hc c (List.mem_cons_self ..)
  refine Lock.move (fr' := c.raise ch) (cs' := cs) ?_ ?_ hs ?_ (fun x hx => hc x (List.mem_cons_of_mem _ hx))
  · simp [G, stepG, unwind, Frame.catches, h2', show (PF P F).funcs = F from rfl]
  · simp [G, stepG, unwind, Frame.catches, h2]
  · unfold Frame.raise
    split
    · exact ⟨hcc.fn, hcc.fun_, hcc.todo, hcc.defers, hcc.kind, hcc.round⟩
    · exact ⟨hcc.fn, hcc.fun_, hcc.todo, hcc.defers, hcc.kind, hcc.round⟩
set_option maxHeartbeats 1000000 in
/-- the lowest of them is done: what it says goes to the base on both sides -/
theorem leave_return (hs : Sim S u w) {fr : Frame} (hf : OkFr P F k0 fr) (hm : fr.mode = .returning) {c c' : Frame} (hT : Heard S (stepG (PF P F) true (G fr (c :: bm)) u)) :
    (∃ o u' es, stepG (PF P F) true (G fr (c :: bm)) u = .ended o u' es) ∨ ∃ v u' w' es es', stepG (PF P F) true (G fr (c :: bm)) u = .go (G (c.finish v) bm) u' es ∧ stepG P true (G fr (c' :: bt)) w = .go (G (c'.finish v) bt) w' es' ∧
      Sim S u' w' ∧ u.heap.size ≤ u'.heap.size ∧ (∀ e ∈ es', EvS S u'.heap.size e) := by
  obtain ⟨fn, tmps, todo, defers, mode, kind, round⟩ := fr
  obtain ⟨h1, ⟨g, h2, h2'⟩, h3, h4, h5, h6⟩ := hf
  dsimp only at h1 h2 h2' h3 h4 h5 h6 hm
  subst h4 h5 h6 hm
  have hss := sim_results (P := P) (F := F) g tmps S u w #[] hs
  have hfst := Sem.runT_fst (PF P F) (results g tmps) u #[]
  unfold Heard at hT
  simp only [G, stepG, unwind, h2, show (PF P F).funcs = F from rfl, h2'] at hT ⊢
  generalize hrT : (results g tmps).runT (PF P F) u #[] = rt at hfst hT ⊢
  obtain ⟨r, es⟩ := rt
  dsimp only at hfst
  subst hfst
  cases hr : (results g tmps).run (PF P F) u with
  | ok v u' =>
    rw [hr] at hss hT
    obtain ⟨w', es', e1, e2, e3, e4⟩ := hss hT
    simp only [e1]
    exact .inr ⟨v, u', w', _, _, rfl, rfl, e2, e3, fun e he => e4 e (by have := mem_seen (by simpa using he : e ∈ seen P fn (#[] ++ es')); simpa using this)⟩
  | halt x u' =>
    left
    cases x <;> exact ⟨_, _, _, rfl⟩
/-- the lowest of them panics -/
theorem leave_panic {fr : Frame} (hf : OkFr P F k0 fr) {ch : List PanicEntry} (hm : fr.mode = .panicking ch) {c c' : Frame} :
    stepG (PF P F) true (G fr (c :: bm)) u = .go (G (c.raise ch) bm) u ∧ stepG P true (G fr (c' :: bt)) w = .go (G (c'.raise ch) bt) w := by
  obtain ⟨fn, tmps, todo, defers, mode, kind, round⟩ := fr
  obtain ⟨h1, ⟨g, h2, h2'⟩, h3, h4, h5, h6⟩ := hf
  dsimp only at h1 h2 h2' h3 h4 h5 h6 hm
  subst h4 h5 h6 hm
  exact ⟨by simp [G, stepG, unwind, Frame.catches, h2', show (PF P F).funcs = F from rfl], by simp [G, stepG, unwind, Frame.catches, h2]⟩

/-- a step of the model beside one of the true program -/
theorem lock_step (hK : FitsK P F k0) (hs : Sim S u w) {fr : Frame} {cs : List Frame} (hf : OkFr P F k0 fr) (hc : ∀ x ∈ cs, OkFr P F k0 x) (hm : fr.mode = .run ∨ cs ≠ []) (hT : Heard S (stepG (PF P F) true (G fr (cs ++ bm)) u)) : Lock P F k0 S bm bt fr cs u w := by
  cases he : fr.mode with
  | run =>
    obtain ⟨fn, tmps, todo, defers, mode, kind, round⟩ := fr
    obtain ⟨h1, h2, h3, h4, h5, h6⟩ := hf
    dsimp only at h1 h2 h3 h4 h5 h6 he
    subst h4 h5 h6 he
    exact lock_run hK hs h1 h2 h3 hc hT
  | returning =>
    rcases cs with _ | ⟨c, cs⟩
    · rcases hm with q | q
      · rw [he] at q; cases q
      · cases q rfl
    · exact lock_return hK hs hf he hc hT
  | panicking ch =>
    rcases cs with _ | ⟨c, cs⟩
    · rcases hm with q | q
      · rw [he] at q; cases q
      · cases q rfl
    · exact lock_panic hK hs hf he hc
end
end Go.Proofs.YtcomppiglhibkaaGreatDoor
/- From a law over the model for every tape: a tree in which the tape is chosen anew at each step. -/
namespace Go.Proofs.YtcomppiglhibkaaGreatDoor
open Go Go.Conc
set_option linter.unusedVariables false
set_option linter.unusedSimpArgs false

def re (u : World) (τ : Nat → Question → Nat) (d : Nat) : World := { u with tape := τ, drawn := d }
theorem re_re (u : World) (τ τ' : Nat → Question → Nat) (d d' : Nat) : re (re u τ d) τ' d' = re u τ' d' := rfl
theorem re_self (u : World) : re u u.tape u.drawn = u := rfl
/-- whatever the tape says, now and at each later step, it comes to a stop -/
inductive Fin_ (U : Program) (Stop : Frame → List Frame → World → Prop) : Frame → List Frame → World → Prop
  | stop {fr : Frame} {stk : List Frame} {u : World} (h : Stop fr stk u) : Fin_ U Stop fr stk u
  | step {fr : Frame} {stk : List Frame} {u : World} (h1 : ∀ τ d, ∃ fr' stk' u' es, stepG U true (G fr stk) (re u τ d) = .go (G fr' stk') u' es)
      (h2 : ∀ τ d fr' stk' u' es, stepG U true (G fr stk) (re u τ d) = .go (G fr' stk') u' es → Fin_ U Stop fr' stk' u') : Fin_ U Stop fr stk u
/-- no view of memory but broken ones -/
def NoView (u : World) : Prop := ∀ (b : Nat) (a : Addr) (t : TypeId), u.heap[b]? = some (Obj.view a t) → a.spot.isSome = true
/-- below the call's own frame: nothing goes on -/
def c0 : Frame := { fn := 0, tmps := #[], todo := [.code (.refuse "")], defers := [{ target := .nil, args := #[] }], mode := .run, kind := .normal }
theorem c0_finish (U : Program) (v : Value) (u : World) : ∃ o w es, stepG U true (G (c0.finish v) []) u = .ended o w es := ⟨_, _, _, rfl⟩
theorem c0_raise (U : Program) (ch : List PanicEntry) (u : World) : ∃ o w es, stepG U true (G (c0.raise ch) []) u = .ended o w es := ⟨_, _, _, rfl⟩

section
variable {P : Program} {F : Array Func} {k1 : FuncId} {bm : List Frame}
theorem sim_self {u : World} (hv : NoView u) (τ : Nat → Question → Nat) (d T : Nat) (h : ∀ i q, u.drawn + i < T → τ (d + i) q = u.tape (u.drawn + i) q) : Sim ⟨fun _ => False, fun _ => default, T, u.drawn, d, τ⟩ u (re u τ d) :=
  ⟨rfl, fun _ _ => rfl, fun _ h => h.elim, hv, rfl, rfl, h, fun _ h => h.elim, Nat.add_comm _ _, rfl⟩
theorem sim_re {u w : World} {T a b : Nat} {τ : Nat → Question → Nat} (h : Sim ⟨fun _ => False, fun _ => default, T, a, b, τ⟩ u w) : w = re u τ w.drawn := by
  obtain ⟨heap, tape, drawn, os, output⟩ := w
  have e1 : heap = u.heap := by
    apply Array.ext_getElem?
    intro i
    exact (h.out i (fun q => q)).symm
  have e2 : tape = τ := h.tap
  have e3 : os = u.os := h.os
  have e4 : output = u.output := h.output
  subst e1 e2 e3 e4
  rfl
/-- a step goes alike where the tape says alike -/
theorem shift_step (hU : FitsK (PF P F) F k1) (hk : F[k1]? = none) {fr : Frame} {cs : List Frame} {u : World} (hf : OkFr (PF P F) F k1 fr) (hc : ∀ x ∈ cs, OkFr (PF P F) F k1 x) (hm : fr.mode = .run ∨ cs ≠ []) (hv : NoView u)
    {τ : Nat → Question → Nat} {d n : Nat} (hn : n = (gw (stepG (PF P F) true (G fr (cs ++ bm)) u)).drawn - u.drawn) (ht : ∀ i q, i < n → τ (d + i) q = u.tape (u.drawn + i) q) :
    (∃ o u' es, stepG (PF P F) true (G fr (cs ++ bm)) u = .ended o u' es) ∨
    (∃ fr' cs' u' es es', stepG (PF P F) true (G fr (cs ++ bm)) u = .go (G fr' (cs' ++ bm)) u' es ∧ stepG (PF P F) true (G fr (cs ++ bm)) (re u τ d) = .go (G fr' (cs' ++ bm)) (re u' τ (d + n)) es' ∧
      OkFr (PF P F) F k1 fr' ∧ (∀ x ∈ cs', OkFr (PF P F) F k1 x) ∧ NoView u') := by
  have e : PF (PF P F) F = PF P F := rfl
  have key : ∀ (τ : Nat → Question → Nat) (d : Nat), (∀ i q, i < n → τ (d + i) q = u.tape (u.drawn + i) q) → _ := fun τ d ht =>
    lock_step (bm := bm) (bt := bm) hU (sim_self hv τ d (gw (stepG (PF P F) true (G fr (cs ++ bm)) u)).drawn (fun i q hi => ht i q (by omega))) hf hc hm (Nat.le_refl _)
  have k0 := key (fun p => u.tape (u.drawn + p)) 0 (fun i q hi => by simp)
  have k2 := key τ d ht
  unfold Lock at k0 k2
  rw [e] at k0 k2
  rcases k2 with h | ⟨fr', cs', u', w', es, es', h1, h2, h3, _, _, h4, h5⟩ | ⟨_, _, _, _, _, _, _, ⟨g, hg⟩, _⟩
  · exact .inl h
  · right
    refine ⟨fr', cs', u', es, es', h1, ?_, h4, h5, h3.views⟩
    have hd : u.drawn ≤ u'.drawn := by
      rcases k0 with ⟨o, x, y, h⟩ | ⟨fr2, cs2, u2, w2, es2, es3, g1, g2, g3, _⟩ | ⟨_, _, _, _, _, _, _, ⟨g, hg⟩, _⟩
      · rw [h1] at h; cases h
      · rw [h1] at g1
        injection g1 with q1 q2 q3
        subst q2
        have := g3.off
        simp only [] at this
        omega
      · rw [hk] at hg; cases hg
    have ho := h3.off
    simp only [] at ho
    have hn' : n = u'.drawn - u.drawn := by rw [hn, h1]; rfl
    have hw : w'.drawn = d + n := by omega
    rw [h2, ← hw, ← sim_re h3]
  · rw [hk] at hg; cases hg
end

section
variable {U : Program} {F : Array Func} {k1 : FuncId} {Stop : Frame → List Frame → World → Prop}
/-- a state of the model from which some tape leads astray -/
structure Astray (U : Program) (F : Array Func) (k1 : FuncId) (Stop : Frame → List Frame → World → Prop) where
  fr : Frame
  cs : List Frame
  u : World
  ok : OkFr U F k1 fr
  oks : ∀ x ∈ cs, OkFr U F k1 x
  view : NoView u
  bad : ¬ Fin_ U Stop fr (cs ++ [c0]) u
namespace Astray
variable (x : Astray U F k1 Stop)
theorem ex : ∃ (p : (Nat → Question → Nat) × Nat), ∀ fr' stk' u' es, stepG U true (G x.fr (x.cs ++ [c0])) (re x.u p.1 p.2) = .go (G fr' stk') u' es → ¬ Fin_ U Stop fr' stk' u' := by
  refine Classical.byContradiction fun hn => x.bad ?_
  have all : ∀ τ d, ∃ fr' stk' u' es, stepG U true (G x.fr (x.cs ++ [c0])) (re x.u τ d) = .go (G fr' stk') u' es ∧ Fin_ U Stop fr' stk' u' := fun τ d =>
    Classical.byContradiction fun h => hn ⟨(τ, d), fun fr' stk' u' es h1 h2 => h ⟨fr', stk', u', es, h1, h2⟩⟩
  refine .step (fun τ d => (all τ d).imp fun _ => .imp fun _ => .imp fun _ => .imp fun _ h => h.1) (fun τ d fr' stk' u' es h => ?_)
  obtain ⟨a, b, c, e, h1, h2⟩ := all τ d
  rw [h] at h1
  injection h1 with q1 q2 q3
  injection q1 with r1 r2
  subst r1 r2 q2
  exact h2
noncomputable def tau : Nat → Question → Nat := (Classical.choose x.ex).1
noncomputable def dd : Nat := (Classical.choose x.ex).2
noncomputable def r : GStep := stepG U true (G x.fr (x.cs ++ [c0])) (re x.u x.tau x.dd)
theorem badr : ∀ fr' stk' u' es, x.r = .go (G fr' stk') u' es → ¬ Fin_ U Stop fr' stk' u' := Classical.choose_spec x.ex
noncomputable def n : Nat := (gw x.r).drawn - x.dd
def Goes_ (y : Astray U F k1 Stop) : Prop := ∃ es, x.r = .go (G y.fr (y.cs ++ [c0])) y.u es
open Classical in
noncomputable def next : Option (Astray U F k1 Stop) := if h : ∃ y, x.Goes_ y then some (Classical.choose h) else none
theorem next_some {y : Astray U F k1 Stop} (h : x.next = some y) : x.Goes_ y := by
  unfold next at h
  split at h
  · rename_i hh
    injection h with h; subst h
    exact Classical.choose_spec hh
  · cases h
theorem next_none (h : x.next = none) (y : Astray U F k1 Stop) : ¬ x.Goes_ y := by
  unfold next at h
  split at h
  · cases h
  · rename_i hh
    exact fun q => hh ⟨y, q⟩
noncomputable def seq : Nat → Option (Astray U F k1 Stop)
  | 0 => some x
  | k + 1 => (seq k).bind next
noncomputable def len : Option (Astray U F k1 Stop) → Nat
  | some y => y.n
  | none => 0
noncomputable def D : Nat → Nat
  | 0 => 0
  | k + 1 => D k + len (x.seq k)
theorem D_mono {k l : Nat} (h : k ≤ l) : x.D k ≤ x.D l := by
  induction h with
  | refl => exact Nat.le_refl _
  | step _ ih => exact Nat.le_trans ih (Nat.le_add_right _ _)
theorem seq_none {k l : Nat} (h : k ≤ l) (hn : x.seq k = none) : x.seq l = none := by
  induction h with
  | refl => exact hn
  | step _ ih => show (x.seq _).bind next = none; rw [ih]; rfl
def At (p : Nat) (ky : Nat × Astray U F k1 Stop) : Prop := x.seq ky.1 = some ky.2 ∧ x.D ky.1 ≤ p ∧ (ky.2.next = none ∨ p < x.D (ky.1 + 1))
open Classical in
noncomputable def tape (p : Nat) (q : Question) : Nat :=
  if h : ∃ ky, x.At p ky then (Classical.choose h).2.tau ((Classical.choose h).2.dd + (p - x.D (Classical.choose h).1)) q else 0
theorem at_le {p : Nat} {a b : Nat × Astray U F k1 Stop} (ha : x.At p a) (hb : x.At p b) : ¬ a.1 < b.1 := by
  intro hlt
  obtain ⟨a1, a2, a3⟩ := ha
  obtain ⟨b1, b2, b3⟩ := hb
  rcases a3 with h | h
  · have : x.seq (a.1 + 1) = none := by show (x.seq a.1).bind next = none; rw [a1]; exact h
    rw [x.seq_none hlt this] at b1; cases b1
  · have := x.D_mono (k := a.1 + 1) (l := b.1) hlt
    omega
theorem tape_at {p : Nat} {q : Question} {k : Nat} {y : Astray U F k1 Stop} (h : x.At p (k, y)) : x.tape p q = y.tau (y.dd + (p - x.D k)) q := by
  have hh : ∃ ky, x.At p ky := ⟨_, h⟩
  unfold tape
  rw [dif_pos hh]
  have hs := Classical.choose_spec hh
  generalize Classical.choose hh = c at hs ⊢
  obtain ⟨k', y'⟩ := c
  have e : k' = k := by
    have := x.at_le hs h
    have := x.at_le h hs
    simp only [] at *
    omega
  subst e
  have : y' = y := by have := hs.1.symm.trans h.1; injection this
  subst this
  rfl
end Astray
end
theorem step_go {U : Program} {fr fr' : Frame} {stk stk' : List Frame} {u u' : World} {es : Array Event} (h : stepG U true (G fr stk) u = .go (G fr' stk') u' es) : step U (lone fr stk u) = .next (lone fr' stk' u') :=
  step_lone_go (by show (stepG U true (G fr stk) u).bare = _; rw [h]; rfl)
theorem step_end {U : Program} {fr : Frame} {stk : List Frame} {u u' : World} {o : Outcome} {es : Array Event} (h : stepG U true (G fr stk) u = .ended o u' es) : step U (lone fr stk u) = .ended o u' :=
  step_lone_ended (by show (stepG U true (G fr stk) u).bare = _; rw [h]; rfl)
theorem lone_inj {fr fr' : Frame} {stk stk' : List Frame} {u u' : World} (h : Stepped.next (lone fr stk u) = .next (lone fr' stk' u')) : fr = fr' ∧ stk = stk' ∧ u = u' := by
  injection h with h
  unfold lone at h
  injection h with h1 h2 h3
  simp only [Array.mk.injEq, List.cons.injEq, Goroutine.mk.injEq] at h2
  exact ⟨h2.1.1, h2.1.2.1, h1⟩
section
variable {P : Program} {F : Array Func} {k1 : FuncId} {Stop : Frame → List Frame → World → Prop}
theorem run_succ (U : Program) (m : Nat) (x : Machine) {y : Machine} (h : step U x = .next y) : runN U (m + 1) x = runN U m y := by simp [runN, h]
theorem run_end (U : Program) (m : Nat) (x : Machine) {o : Outcome} {u : World} (h : step U x = .ended o u) : runN U (m + 1) x = .ended o u := by simp [runN, h]
theorem astray_not (hU : FitsK (PF P F) F k1) (hk : F[k1]? = none) (hS : ∀ fr stk u τ d, Stop fr stk (re u τ d) → Stop fr stk u)
    (x : Astray (PF P F) F k1 Stop) {n0 : Nat} {fr' : Frame} {w' : World} (hr : runN (PF P F) n0 (lone x.fr (x.cs ++ [c0]) (re x.u x.tape 0)) = .next (lone fr' [c0] w')) (hst : Stop fr' [c0] w') : False := by
  have main : ∀ k, k ≤ n0 → ∃ y, x.seq k = some y ∧ runN (PF P F) (n0 - k) (lone y.fr (y.cs ++ [c0]) (re y.u x.tape (x.D k))) = .next (lone fr' [c0] w') := by
    intro k
    induction k with
    | zero => intro _; exact ⟨x, rfl, hr⟩
    | succ k ih =>
      intro hk1
      obtain ⟨y, hy, hrun⟩ := ih (by omega)
      obtain ⟨m, hm⟩ : ∃ m, n0 - k = m + 1 := ⟨n0 - k - 1, by omega⟩
      have hm2 : n0 - (k + 1) = m := by omega
      rw [hm] at hrun
      rw [hm2]
      by_cases hmode : y.fr.mode = .run ∨ y.cs ≠ []
      · cases hn : y.next with
        | some z =>
          obtain ⟨es0, hz⟩ := y.next_some hn
          have hD : x.D (k + 1) = x.D k + y.n := by show x.D k + Astray.len (x.seq k) = _; rw [hy]; rfl
          have hs := shift_step (bm := [c0]) hU hk y.ok y.oks hmode (u := re y.u y.tau y.dd) y.view (τ := x.tape) (d := x.D k) (n := y.n) rfl (fun i q hi => by
            rw [x.tape_at (k := k) (y := y) ⟨hy, Nat.le_add_right _ _, .inr (by simp only []; rw [hD]; omega)⟩, Nat.add_sub_cancel_left]; rfl)
          rcases hs with ⟨o, u2, es, h⟩ | ⟨fr2, cs2, u2, es, es2, h1, h2, _⟩
          · have := hz.symm.trans h; cases this
          · have e := hz.symm.trans h1
            injection e with q1 q2 q3
            injection q1 with r1 r2
            have r3 : z.cs = cs2 := List.append_cancel_right r2
            subst r1 r3 q2
            refine ⟨z, by show (x.seq k).bind Astray.next = some z; rw [hy]; exact hn, ?_⟩
            rw [hD, ← hrun]
            exact (run_succ _ _ _ (step_go h2)).symm
        | none =>
          have hs := shift_step (bm := [c0]) hU hk y.ok y.oks hmode (u := re y.u x.tape (x.D k)) y.view (τ := y.tau) (d := y.dd) rfl (fun i q hi => by
            show _ = x.tape (x.D k + i) q
            rw [x.tape_at (k := k) (y := y) ⟨hy, Nat.le_add_right _ _, .inl hn⟩, Nat.add_sub_cancel_left])
          rcases hs with ⟨o, u2, es, h⟩ | ⟨fr2, cs2, u2, es, es2, h1, h2, h3, h4, h5⟩
          · rw [run_end _ _ _ (step_end h)] at hrun; cases hrun
          · have h2' : y.r = _ := h2
            exact (y.next_none hn ⟨fr2, cs2, re u2 y.tau (y.dd + ((gw (stepG (PF P F) true (G y.fr (y.cs ++ [c0])) (re y.u x.tape (x.D k)))).drawn - (re y.u x.tape (x.D k)).drawn)), h3, h4, h5, y.badr _ _ _ _ h2'⟩ ⟨_, h2'⟩).elim
      · have hcs : y.cs = [] := Classical.byContradiction fun h => hmode (.inr h)
        have hne : y.fr.mode ≠ .run := fun h => hmode (.inl h)
        have fin : ∀ {f : Frame} {u2 : World} {es : Array Event}, stepG (PF P F) true (G y.fr [c0]) (re y.u x.tape (x.D k)) = .go (G f []) u2 es → (∃ o w es, stepG (PF P F) true (G f []) u2 = .ended o w es) → False := by
          intro f u2 es h ⟨o, w, es', h'⟩
          rw [hcs, List.nil_append, run_succ _ _ _ (step_go h)] at hrun
          cases m with
          | zero =>
            have := lone_inj hrun
            cases this.2.1
          | succ m => rw [run_end _ _ _ (step_end h')] at hrun; cases hrun
        cases he : y.fr.mode with
        | run => exact absurd he hne
        | returning =>
          have hv : NoView (re y.u x.tape (x.D k)) := y.view
          rcases leave_return (bm := []) (bt := []) (c := c0) (c' := c0) (sim_self hv x.tape (x.D k) (gw (stepG (PF P F) true (G y.fr [c0]) (re y.u x.tape (x.D k)))).drawn (fun i q _ => rfl)) y.ok he (Nat.le_refl _) with ⟨o, u2, es, h⟩ | ⟨v, u2, w2, es, es2, h, _⟩
          · rw [hcs, List.nil_append, run_end _ _ _ (step_end h)] at hrun; cases hrun
          · exact (fin h (c0_finish _ _ _)).elim
        | panicking ch =>
          exact (fin (leave_panic (bm := []) (bt := []) (c := c0) (c' := c0) (w := y.u) y.ok he).1 (c0_raise _ _ _)).elim
  obtain ⟨y, hy, hrun⟩ := main n0 (Nat.le_refl _)
  rw [Nat.sub_self] at hrun
  obtain ⟨e1, e2, e3⟩ := lone_inj hrun
  refine y.bad (Fin_.stop ?_)
  rw [e2, e1]
  exact hS _ _ _ x.tape (x.D n0) (by rw [e3]; exact hst)
/-- FROM A RUN ON EVERY TAPE TO THE TREE -/
theorem fin_of (hU : FitsK (PF P F) F k1) (hk : F[k1]? = none) (hS : ∀ fr stk u τ d, Stop fr stk (re u τ d) → Stop fr stk u) {fr : Frame} {cs : List Frame} {u : World}
    (hf : OkFr (PF P F) F k1 fr) (hc : ∀ x ∈ cs, OkFr (PF P F) F k1 x) (hv : NoView u)
    (H : ∀ τ, ∃ n fr' w', runN (PF P F) n (lone fr (cs ++ [c0]) (re u τ 0)) = .next (lone fr' [c0] w') ∧ Stop fr' [c0] w') : Fin_ (PF P F) Stop fr (cs ++ [c0]) u := by
  refine Classical.byContradiction fun hn => ?_
  obtain ⟨n, fr', w', h1, h2⟩ := H (Astray.mk fr cs u hf hc hv hn : Astray (PF P F) F k1 Stop).tape
  exact astray_not hU hk hS ⟨fr, cs, u, hf, hc, hv, hn⟩ h1 h2
/-- the law's frame is done, and what it says is so -/
def StopOf (U : Program) (f : FuncId) (Post : Value → World → Prop) (fr : Frame) (stk : List Frame) (u : World) : Prop :=
  stk = [c0] ∧ fr.fn = f ∧ ∃ τ d v, fr.leaving U (re u τ d) (.returned v) ∧ Post v (re u τ d)
theorem StopOf.low {U : Program} {f : FuncId} {Post : Value → World → Prop} (fr : Frame) (stk : List Frame) (u : World) (h : StopOf U f Post fr stk u) : stk = [c0] ∧ fr.mode ≠ .run := by
  obtain ⟨h1, h2, τ, d, v, h3, h4⟩ := h
  exact ⟨h1, by rw [h3.1]; simp⟩
/-- FROM A CONTRACT FOR EVERY TAPE TO THE TREE -/
theorem fin_of_calls (hU : FitsK (PF P F) F k1) (hk : F[k1]? = none) {f : FuncId} {args : Array Value} {u : World} {Post : Value → World → Prop} (hf : OkFr (PF P F) F k1 (Frame.enter (PF P F) f args .normal)) (hv : NoView u)
    (H : ∀ τ, Calls (PF P F) f args (re u τ 0) fun | .returned v, w => Post v w | _, _ => False) : Fin_ (PF P F) (StopOf (PF P F) f Post) (Frame.enter (PF P F) f args .normal) [c0] u := by
  refine fin_of (cs := []) hU hk (fun fr stk u τ d h => h) hf (by simp) hv (fun τ => ?_)
  obtain ⟨e, w', fr, hR, hC, hfn, hl⟩ := H τ [c0]
  cases e with
  | returned v =>
    obtain ⟨n, hn⟩ := hC
    exact ⟨n, fr, w', hn, rfl, hfn, w'.tape, w'.drawn, v, hl, hR⟩
  | panicked ch => exact hR.elim
  | outgrown => exact hR.elim
end
end Go.Proofs.YtcomppiglhibkaaGreatDoor
/- Goroutine 0 beside goroutines that only leave: till it is picked; its one step. -/
namespace Go.Proofs.YtcomppiglhibkaaGreatDoor
open Go Go.Conc
open Go.ConcN (sumTo upd sumTo_upd upd_ne upd_same)
set_option linter.unusedVariables false
set_option linter.unusedSimpArgs false

/-- what is held of the trace: no race; goroutine 0 knows every touch of memory but atomic ones of shunned places; all is handed over; how deaf goroutine 0 is -/
structure PastD (Shun : Loc → Prop) (d : Nat) (t : Trace) : Prop where
  clean : ∀ said, ¬ Race said t
  known : ∀ i a, touchAt t i = some a → a.loc.isMemory = true → Knows t 0 i ∨ (Shun a.loc ∧ a.kind = .atomic)
  over : t.HandedOver
  deaf : Deaf t 0 = d
/-- what goroutine 0's step may list: a shunned place it does not touch plainly -/
def EvT (Shun : Loc → Prop) (e : Event) : Prop := ∀ x, (MemAct.ofEvent e).touch? = some x → Shun x.loc → x.kind ≠ .plain
section
variable {Shun : Loc → Prop} {d : Nat} {t : Trace}
theorem PastD.own (h : PastD Shun d t) {fn : FuncId} {pos : String} {es : Array Event} (hes : ∀ e ∈ es, EvT Shun e) : PastD Shun (deafBehind d es) (t ++ MemOp.ofEvents 0 fn pos es) := by
  have hu : ∀ op ∈ MemOp.ofEvents 0 fn pos es, op.g = 0 := fun op hop => by obtain ⟨e, _, rfl⟩ := Go.Conc.mem_ofEvents hop; rfl
  refine ⟨fun said => noRace_append (h.clean said) hu fun i a ha op hop b hb hc => ?_, fun i a ha hm => ?_, handedOver_app h.over fun op hop => .inl (hu op hop), by rw [Deaf_own, h.deaf]⟩
  · rcases h.known i a ha hc.2.1 with hk | ⟨hsa, hka⟩
    · exact hk
    · obtain ⟨e, he, rfl⟩ := Go.Conc.mem_ofEvents hop
      have hkb := hes e he b hb (hc.1 ▸ hsa)
      obtain ⟨_, _, _, hcase⟩ := hc
      rw [hka] at hcase
      rcases hcase with x | x | ⟨_, x, _⟩
      · cases x
      · exact absurd x hkb
      · cases x
  · obtain ⟨x, hx, hxa⟩ := touch_of ha
    rcases getElem?_append_cases hx with ⟨_, hx'⟩ | ⟨_, hxu⟩
    · exact (h.known i a (by rw [touchAt_of hx']; exact hxa) hm).imp (·.app _) id
    · have := knows_own hx
      rw [hu x hxu] at this
      exact .inl this
theorem PastD.mute (h : PastD Shun d t) {g : Nat} (hg : g ≠ 0) {fn : FuncId} {pos : String} {es : Array Event} (hm : ∀ e ∈ es, e.mute = true) : PastD Shun d (t ++ MemOp.ofEvents g fn pos es) := by
  have hn : ∀ op ∈ MemOp.ofEvents g fn pos es, op.act.touch? = none := fun op hop => by obtain ⟨e, he, rfl⟩ := Go.Conc.mem_ofEvents hop; exact touch_mute (hm e he)
  refine ⟨fun said => noRace_append (h.clean said) (fun op hop => by obtain ⟨e, _, rfl⟩ := Go.Conc.mem_ofEvents hop; rfl) fun i a _ op hop b hb _ => (by rw [hn op hop] at hb; cases hb), fun i a ha hmm => ?_, handedOver_app h.over fun op hop => .inr (hn op hop), by rw [Deaf_other t hg _ (fun op hop => by obtain ⟨e, _, rfl⟩ := Go.Conc.mem_ofEvents hop; rfl), h.deaf]⟩
  obtain ⟨x, hx, hxa⟩ := touch_of ha
  rcases getElem?_append_cases hx with ⟨_, hx'⟩ | ⟨_, hxu⟩
  · exact (h.known i a (by rw [touchAt_of hx']; exact hxa) hmm).imp (·.app _) id
  · rw [hn x hxu] at hxa; cases hxa
end

section
variable {P : Program} {Shun : Loc → Prop} {B : Nat} {a : Goroutine}
/-- till goroutine 0 is picked others slip away -/
theorem slip (hrun : a.status = .running) : ∀ (M : Nat) (gs : Array Goroutine) (w : World) (sl : Option (Nat × Nat)) (t : Trace) (q : Nat → Nat), sumTo gs.size q ≤ M → gs[0]? = some a → Leavers P t gs q → PastD Shun B t →
    ∃ (N : Nat) (gs' : Array Goroutine) (d0 d : Nat) (sl' sl2 : Option (Nat × Nat)) (t' : Trace) (q' : Nat → Nat), runNT P N (crowd gs w sl) t = (.next (crowd gs' (w.at d0) sl'), t') ∧ gs'.size = gs.size ∧ gs'[0]? = some a ∧ Leavers P t' gs' q' ∧ PastD Shun B t' ∧
      stepT P (crowd gs' (w.at d0) sl') = runT P (crowd gs' (w.at d) sl2) 0 := by
  intro M
  induction M with
  | zero =>
    intro gs w sl t q hM h0 hL hP
    have haw : ∀ g ∈ gs, awake g := by
      intro g hg
      obtain ⟨i, hi, rfl⟩ := Array.mem_iff_getElem.1 hg
      rcases Nat.eq_zero_or_pos i with rfl | hpos
      · have : gs[0] = a := by simpa [Array.getElem?_eq_getElem hi] using h0
        rw [this]; exact awake_of (.inl hrun)
      · exact awake_of ((hL.old i _ hpos (Array.getElem?_eq_getElem hi)).status.elim .inl fun x => .inr (.inr x))
    obtain ⟨i, g, d, sl', hi, hg, hst⟩ := crowd_pick (P := P) (w := w) (sl := sl) haw ⟨0, a, h0, hrun⟩
    rcases Nat.eq_zero_or_pos i with rfl | hpos
    · exact ⟨0, gs, w.drawn, d, sl, sl', t, q, rfl, rfl, h0, hL, hP, hst⟩
    · have hq := hL.old i g hpos hi
      have hlt : i < gs.size := (Array.getElem?_eq_some_iff.1 hi).1
      cases hqi : q i with
      | zero => rw [hqi] at hq; rw [hq.1] at hg; cases hg
      | succ k =>
        have hsum : sumTo gs.size (upd q i k) + (k + 1) = sumTo gs.size q + k := by
          have := sumTo_upd q k id hlt
          simpa [hqi] using this
        omega
  | succ M ih =>
    intro gs w sl t q hM h0 hL hP
    have haw : ∀ g ∈ gs, awake g := by
      intro g hg
      obtain ⟨i, hi, rfl⟩ := Array.mem_iff_getElem.1 hg
      rcases Nat.eq_zero_or_pos i with rfl | hpos
      · have : gs[0] = a := by simpa [Array.getElem?_eq_getElem hi] using h0
        rw [this]; exact awake_of (.inl hrun)
      · exact awake_of ((hL.old i _ hpos (Array.getElem?_eq_getElem hi)).status.elim .inl fun x => .inr (.inr x))
    obtain ⟨i, g, d, sl', hi, hg, hst⟩ := crowd_pick (P := P) (w := w) (sl := sl) haw ⟨0, a, h0, hrun⟩
    rcases Nat.eq_zero_or_pos i with rfl | hpos
    · exact ⟨0, gs, w.drawn, d, sl, sl', t, q, rfl, rfl, h0, hL, hP, hst⟩
    · have hq := hL.old i g hpos hi
      have hi0 : (i == 0) = false := by simp; omega
      have hlt : i < gs.size := (Array.getElem?_eq_some_iff.1 hi).1
      cases hqi : q i with
      | zero => rw [hqi] at hq; rw [hq.1] at hg; cases hg
      | succ k =>
        rw [hqi] at hq
        rcases hq with ⟨hf, _⟩ | ⟨_, g', es, hm, hstp, hq'⟩
        · rw [hf] at hg; cases hg
        have hrunT := runT_crowd_go (P := P) (sl := sl') (i := i) hi (by rw [hi0]; exact hstp (w.at d))
        have hsz : ((gs.map (woken P g g' (w.at d))).setIfInBounds i g').size = gs.size := by simp
        have hsum : sumTo gs.size (upd q i k) + (k + 1) = sumTo gs.size q + k := by
          have := sumTo_upd q k id hlt
          simpa [hqi] using this
        obtain ⟨N, gs', d0, d1, sl1, sl2, t', q', hr, hs', h0', hL', hP', hst'⟩ := ih ((gs.map (woken P g g' (w.at d))).setIfInBounds i g') (w.at d) sl' (t ++ MemOp.ofEvents i g.frame.fn g.frame.place es) (upd q i k) (by rw [hsz]; omega)
          (by
            have hne : i ≠ 0 := by omega
            rw [Array.getElem?_setIfInBounds_ne hne, Array.getElem?_map, h0]
            simp [woken_run hrun])
          ⟨fun j x hj hx => by
            by_cases hji : i = j
            · subst hji
              rw [Array.getElem?_setIfInBounds_self_of_lt (by simpa using hlt)] at hx
              obtain rfl := Option.some.inj hx
              rw [upd_same, Deaf_own]
              exact hq'
            · rw [Array.getElem?_setIfInBounds_ne hji, Array.getElem?_map] at hx
              obtain ⟨y, hy, rfl⟩ := Option.map_eq_some_iff.1 hx
              have hqj := hL.old j y hj hy
              rw [woken_quitsD hqj, upd_ne q k (Ne.symm hji), Deaf_other t hji _ (fun op hop => by obtain ⟨e, _, rfl⟩ := Go.Conc.mem_ofEvents hop; rfl)]
              exact hqj, fun j hj => by
            rw [Deaf_other t (g' := i) (by simp at hj; omega) _ (fun op hop => by obtain ⟨e, _, rfl⟩ := Go.Conc.mem_ofEvents hop; rfl)]
            exact hL.above j (by simpa using hj)⟩
          (hP.mute (by omega) hm)
        exact ⟨N + 1, gs', d0, d1, sl1, sl2, t', q', by simp only [runNT, hst, hrunT]; exact hr, hs'.trans hsz, h0', hL', hP', hst'⟩
/-- its step -/
theorem own_step {gs : Array Goroutine} {w : World} {sl : Option (Nat × Nat)} {t : Trace} {q : Nat → Nat} {a' : Goroutine} {w' : World} {es : Array Event} (h0 : gs[0]? = some a) (hL : Leavers P t gs q) (hP : PastD Shun B t)
    (h : stepG P true a w = .go a' w' es) (hes : ∀ e ∈ es, EvT Shun e) :
    ∃ gs' t', runT P (crowd gs w sl) 0 = (.next (crowd gs' w' sl), t') ∧ gs'.size = gs.size ∧ gs'[0]? = some a' ∧ Leavers P (t ++ t') gs' q ∧ PastD Shun (deafBehind B es) (t ++ t') := by
  have hrunT := runT_crowd_go (P := P) (sl := sl) (i := 0) h0 (show stepG P (0 == 0) a w = _ from h)
  have hlt : 0 < gs.size := (Array.getElem?_eq_some_iff.1 h0).1
  refine ⟨_, _, hrunT, by simp, by simp [hlt], ⟨fun j x hj hx => ?_, fun j hj => ?_⟩, hP.own hes⟩
  · have hne : 0 ≠ j := by omega
    rw [Array.getElem?_setIfInBounds_ne hne, Array.getElem?_map] at hx
    obtain ⟨y, hy, rfl⟩ := Option.map_eq_some_iff.1 hx
    have hq := hL.old j y hj hy
    rw [woken_quitsD hq, Deaf_other t (by omega) _ (fun op hop => by obtain ⟨e, _, rfl⟩ := Go.Conc.mem_ofEvents hop; rfl)]
    exact hq
  · rw [Deaf_other t (g' := 0) (by simp at hj; omega) _ (fun op hop => by obtain ⟨e, _, rfl⟩ := Go.Conc.mem_ofEvents hop; rfl)]
    exact hL.above j (by simpa using hj)
theorem runNT_next (P : Program) : ∀ {N : Nat} {m m' m'' : Machine} {t t' : Trace} {ops : Array MemOp}, runNT P N m t = (.next m', t') → stepT P m' = (.next m'', ops) → runNT P (N + 1) m t = (.next m'', t' ++ ops) := by
  intro N
  induction N with
  | zero =>
    intro m m' m'' t t' ops h1 h2
    simp only [runNT, Prod.mk.injEq, Stepped.next.injEq] at h1
    obtain ⟨rfl, rfl⟩ := h1
    simp only [runNT, h2]
  | succ N ih =>
    intro m m' m'' t t' ops h1 h2
    rw [runNT] at h1 ⊢
    cases hs : stepT P m with
    | mk r o =>
      rw [hs] at h1
      cases r with
      | next m1 => exact ih h1 h2
      | ended a b => cases h1
/-- till it is picked, and its step -/
theorem one_step (hrun : a.status = .running) {gs : Array Goroutine} {w : World} {sl : Option (Nat × Nat)} {t : Trace} {q : Nat → Nat} (h0 : gs[0]? = some a) (hL : Leavers P t gs q) (hP : PastD Shun B t) :
    ∃ d, ∀ a' w' es, stepG P true a (w.at d) = .go a' w' es → (∀ e ∈ es, EvT Shun e) →
      ∃ (N : Nat) (gs' : Array Goroutine) (sl' : Option (Nat × Nat)) (t' : Trace) (q' : Nat → Nat), runNT P N (crowd gs w sl) t = (.next (crowd gs' w' sl'), t') ∧ gs'.size = gs.size ∧ gs'[0]? = some a' ∧ Leavers P t' gs' q' ∧ PastD Shun (deafBehind B es) t' := by
  obtain ⟨N, gs1, d0, d, sl1, sl2, t1, q1, hr, hs, h0', hL', hP', hst⟩ := slip hrun _ gs w sl t q (Nat.le_refl _) h0 hL hP
  refine ⟨d, fun a' w' es h hes => ?_⟩
  obtain ⟨gs2, t2, k1, k2, k3, k4, k5⟩ := own_step (sl := sl2) h0' hL' hP' h hes
  exact ⟨N + 1, gs2, sl2, t1 ++ t2, q1, runNT_next P hr (hst.trans k1), k2.trans hs, k3, k4, k5⟩
theorem runNT_add (P : Program) : ∀ {N M : Nat} {m m' : Machine} {t t' : Trace}, runNT P N m t = (.next m', t') → runNT P (N + M) m t = runNT P M m' t' := by
  intro N
  induction N with
  | zero =>
    intro M m m' t t' h1
    simp only [runNT, Prod.mk.injEq, Stepped.next.injEq] at h1
    obtain ⟨rfl, rfl⟩ := h1
    rw [Nat.zero_add]
  | succ N ih =>
    intro M m m' t t' h1
    rw [show N + 1 + M = (N + M) + 1 by omega]
    rw [runNT] at h1 ⊢
    cases hs : stepT P m with
    | mk r o =>
      rw [hs] at h1
      cases r with
      | next m1 => exact ih h1
      | ended a b => cases h1
end
end Go.Proofs.YtcomppiglhibkaaGreatDoor
/- The transport: a run of the model is carried over to the true program's goroutine 0, beside goroutines that only leave. The call of function k0 is a premise here. -/
namespace Go.Proofs.YtcomppiglhibkaaGreatDoor
open Go Go.Conc
set_option linter.unusedVariables false
set_option linter.unusedSimpArgs false

/-- the places that nobody touches any more -/
def ShunS (S : Nat → Prop) (l : Loc) : Prop := ∃ a, l = .cell a ∧ S a.block
theorem evS_evT {S : Hidn} {Sp : Nat → Prop} (hSp : ∀ b, Sp b → S b) {B : Nat} {e : Event} (h : EvS S B e) : EvT (ShunS Sp) e := by
  intro x hx hs
  rcases h with ⟨a, wr, rfl, h2, h3⟩ | ⟨r, sy, rfl, h2⟩ | rfl | ⟨f, rfl⟩
  · simp only [MemAct.ofEvent, MemAct.touch?, Option.some.injEq] at hx
    subst hx
    obtain ⟨b, hb, hS⟩ := hs
    injection hb with hb; subst hb
    exact absurd (hSp _ hS) h2
  · obtain ⟨b, hb, hS⟩ := hs
    cases sy <;> simp [MemAct.ofEvent, MemAct.touch?] at hx <;> (subst hx; cases hb)
  · simp [MemAct.ofEvent, MemAct.touch?] at hx
  · simp [MemAct.ofEvent, MemAct.touch?] at hx
theorem evS_still {S : Hidn} {B : Nat} {es : Array Event} (h : ∀ e ∈ es, EvS S B e) (d : Nat) : deafBehind d es = d := by
  refine deafBehind_still (fun e he => ?_) d
  rcases h e he with ⟨a, wr, rfl, h2, h3⟩ | ⟨r, sy, rfl, h2⟩ | rfl | ⟨f, rfl⟩
  · simp
  · simp
  · simp
  · simp
/-- the model's world and the true one, the tape apart -/
structure Sim0 (S : Nat → Prop) (K : Nat → Obj) (u w : World) : Prop where
  size : u.heap.size = w.heap.size
  out : ∀ b, ¬ S b → u.heap[b]? = w.heap[b]?
  ins : ∀ b, S b → ∃ o o', u.heap[b]? = some o ∧ w.heap[b]? = some o' ∧ Alike o o'
  views : NoView u
  os : w.os = u.os
  output : w.output = u.output
  kept : ∀ b, S b → w.heap[b]? = some (K b)
section
variable {S : Nat → Prop} {K : Nat → Obj} {u w : World}
theorem Sim0.sim (h : Sim0 S K u w) (T : Nat) : Sim ⟨S, K, T, 0, 0, w.tape⟩ (re u w.tape w.drawn) w := ⟨h.size, h.out, h.ins, h.views, h.os, h.output, fun _ _ _ => rfl, h.kept, rfl, rfl⟩
theorem Sim.sim0 {T a b : Nat} {tp : Nat → Question → Nat} (h : Sim ⟨S, K, T, a, b, tp⟩ u w) : Sim0 S K u w := ⟨h.size, h.out, h.ins, h.views, h.os, h.output, h.kept⟩
theorem Sim0.re_ {τ : Nat → Question → Nat} {d : Nat} (h : Sim0 S K (re u τ d) w) : Sim0 S K u w := ⟨h.size, h.out, h.ins, h.views, h.os, h.output, h.kept⟩
theorem Sim0.at (h : Sim0 S K u w) (d : Nat) : Sim0 S K u (w.at d) := ⟨h.size, h.out, h.ins, h.views, h.os, h.output, h.kept⟩
end

/-- a state of the model -/
abbrev St := Frame × List Frame × World
section
variable {P : Program} {F : Array Func} {k0 : FuncId} {Stop : Frame → List Frame → World → Prop}
/-- y is the next state of x, on some tape -/
def Down (U : Program) (Stop : Frame → List Frame → World → Prop) (y x : St) : Prop := ¬ Stop x.1 x.2.1 x.2.2 ∧ ∃ τ d es, stepG U true (G x.1 x.2.1) (re x.2.2 τ d) = .go (G y.1 y.2.1) y.2.2 es
/-- .. or one of those behind it -/
inductive Desc (U : Program) (Stop : Frame → List Frame → World → Prop) : St → St → Prop
  | refl (x : St) : Desc U Stop x x
  | tail {x y z : St} (h : Desc U Stop y x) (h' : Down U Stop z y) : Desc U Stop z x
theorem Desc.trans {U : Program} {x y z : St} (h : Desc U Stop y x) (h' : Desc U Stop z y) : Desc U Stop z x := by
  induction h' with
  | refl => exact h
  | tail _ d ih => exact (ih h).tail d
theorem Desc.head {U : Program} {x z : St} (h : Desc U Stop z x) : z = x ∨ ∃ y, Down U Stop y x ∧ Desc U Stop z y := by
  induction h with
  | refl => exact .inl rfl
  | tail _ d ih =>
    rcases ih with rfl | ⟨y, h1, h2⟩
    · exact .inr ⟨_, d, .refl _⟩
    · exact .inr ⟨y, h1, h2.tail d⟩
/-- the machine comes from here to there, by the by: S the hidden blocks, Sp (among them) those whose touches goroutine 0 may not know -/
def Comes_ (P : Program) (gs : Array Goroutine) (w : World) (sl : Option (Nat × Nat)) (t : Trace) (S : Nat → Prop) (K : Nat → Obj) (Sp : Nat → Prop) (a' : Goroutine) (u' : World) : Prop :=
  ∃ (N : Nat) (gs' : Array Goroutine) (w' : World) (sl' : Option (Nat × Nat)) (t' : Trace) (q' : Nat → Nat) (S' : Nat → Prop) (K' : Nat → Obj) (Sp' : Nat → Prop),
    runNT P N (crowd gs w sl) t = (.next (crowd gs' w' sl'), t') ∧ gs'[0]? = some a' ∧ Leavers P t' gs' q' ∧ PastD (ShunS Sp') 0 t' ∧ Sim0 S' K' u' w' ∧ (∀ b, S b → S' b ∧ K' b = K b) ∧
      (∀ b, Sp' b → S' b) ∧ (∀ b, Sp b → Sp' b) ∧ (∀ b, Sp' b → Sp b ∨ w.heap.size ≤ b) ∧ w.heap.size ≤ w'.heap.size
/-- from this state of the model the lowest plain frame comes to leave, and so it does in the true program -/
def Trans (P : Program) (F : Array Func) (k0 : FuncId) (Stop : Frame → List Frame → World → Prop) (x : St) : Prop :=
  ∀ (cs bm bt : List Frame) (S : Nat → Prop) (K : Nat → Obj) (Sp : Nat → Prop) (gs : Array Goroutine) (w : World) (sl : Option (Nat × Nat)) (t : Trace) (q : Nat → Nat), (∀ b, Sp b → S b) →
    x.2.1 = cs ++ bm → bm ≠ [] → Fin_ (PF P F) Stop x.1 x.2.1 x.2.2 → OkFr P F k0 x.1 → (∀ c ∈ cs, OkFr P F k0 c) → Sim0 S K x.2.2 w → gs[0]? = some (G x.1 (cs ++ bt)) → Leavers P t gs q → PastD (ShunS Sp) 0 t →
    ∃ fr' u', OkFr P F k0 fr' ∧ fr'.mode ≠ .run ∧ Desc (PF P F) Stop (fr', bm, u') x ∧ Fin_ (PF P F) Stop fr' bm u' ∧ Comes_ P gs w sl t S K Sp (G fr' bt) u'
/-- what is asked of a call of function k0: it comes back to its caller on both sides -/
def PassOk (P : Program) (F : Array Func) (k0 : FuncId) (Stop : Frame → List Frame → World → Prop) : Prop :=
  ∀ (args : Array Value) (fr : Frame) (sm stt : List Frame) (u : World) (S : Nat → Prop) (K : Nat → Obj) (Sp : Nat → Prop) (gs : Array Goroutine) (w : World) (sl : Option (Nat × Nat)) (t : Trace) (q : Nat → Nat), (∀ b, Sp b → S b) →
    (∀ y z, Down (PF P F) Stop y (Frame.enter (PF P F) k0 args .normal, fr :: sm, u) → Desc (PF P F) Stop z y → Trans P F k0 Stop z) →
    Fin_ (PF P F) Stop (Frame.enter (PF P F) k0 args .normal) (fr :: sm) u → Sim0 S K u w → gs[0]? = some (G (Frame.enter P k0 args .normal) (fr :: stt)) → Leavers P t gs q → PastD (ShunS Sp) 0 t →
    ∃ fr' u', ((∃ v, fr' = fr.finish v) ∨ ∃ ch, fr' = fr.raise ch) ∧ Desc (PF P F) Stop (fr', sm, u') (Frame.enter (PF P F) k0 args .normal, fr :: sm, u) ∧ Fin_ (PF P F) Stop fr' sm u' ∧ Comes_ P gs w sl t S K Sp (G fr' stt) u'
theorem Comes_.refl {gs : Array Goroutine} {w : World} {sl : Option (Nat × Nat)} {t : Trace} {S : Nat → Prop} {K : Nat → Obj} {Sp : Nat → Prop} {a : Goroutine} {u : World} {q : Nat → Nat} (hSp : ∀ b, Sp b → S b) (h0 : gs[0]? = some a) (hL : Leavers P t gs q) (hP : PastD (ShunS Sp) 0 t) (hs : Sim0 S K u w) : Comes_ P gs w sl t S K Sp a u :=
  ⟨0, gs, w, sl, t, q, S, K, Sp, rfl, h0, hL, hP, hs, fun b h => ⟨h, rfl⟩, hSp, fun _ h => h, fun _ h => .inl h, Nat.le_refl _⟩
theorem Comes_.step {N : Nat} {gs gs' : Array Goroutine} {w w' : World} {sl sl' : Option (Nat × Nat)} {t t' : Trace} {S S' : Nat → Prop} {K K' : Nat → Obj} {Sp Sp' : Nat → Prop} {a : Goroutine} {u : World} (hr : runNT P N (crowd gs w sl) t = (.next (crowd gs' w' sl'), t'))
    (h1 : ∀ b, S b → S' b ∧ K' b = K b) (h2 : ∀ b, Sp b → Sp' b) (h3 : ∀ b, Sp' b → Sp b ∨ w.heap.size ≤ b) (h4 : w.heap.size ≤ w'.heap.size) (h : Comes_ P gs' w' sl' t' S' K' Sp' a u) : Comes_ P gs w sl t S K Sp a u := by
  obtain ⟨M, gs2, w2, sl2, t2, q2, S2, K2, Sp2, r, c1, c2, c3, c4, c5, c6, c7, c8, c9⟩ := h
  exact ⟨N + M, gs2, w2, sl2, t2, q2, S2, K2, Sp2, (runNT_add P hr).trans r, c1, c2, c3, c4, fun b hb => ⟨(c5 b (h1 b hb).1).1, (c5 b (h1 b hb).1).2.trans (h1 b hb).2⟩, c6, fun b hb => c7 b (h2 b hb),
    fun b hb => (c8 b hb).elim (fun q => h3 b q) (fun q => .inr (Nat.le_trans h4 q)), Nat.le_trans h4 c9⟩
theorem raise_ok {fr : Frame} (h : OkFr P F k0 fr) (ch : List PanicEntry) : OkFr P F k0 (fr.raise ch) := by
  unfold Frame.raise
  split
  · exact ⟨h.fn, h.fun_, h.todo, h.defers, h.kind, h.round⟩
  · exact ⟨h.fn, h.fun_, h.todo, h.defers, h.kind, h.round⟩
set_option maxHeartbeats 1000000 in
theorem transport (hK : FitsK P F k0) (hS : ∀ fr stk u, Stop fr stk u → stk = [c0] ∧ fr.mode ≠ .run) (hpass : PassOk P F k0 Stop) {fr : Frame} {stk : List Frame} {u : World} (hF : Fin_ (PF P F) Stop fr stk u) :
    ∀ z, Desc (PF P F) Stop z (fr, stk, u) → Trans P F k0 Stop z := by
  have done : ∀ (x : St), (∀ cs bm : List Frame, x.2.1 = cs ++ bm → bm ≠ [] → cs = [] ∧ x.1.mode ≠ .run) → Trans P F k0 Stop x := by
    intro x hx cs bm bt S K Sp gs w sl t q hSp h1 hbm hFin hf hc hs h0 hL hP
    obtain ⟨rfl, hm⟩ := hx cs bm h1 hbm
    obtain ⟨fr, stk, u⟩ := x
    simp only [List.nil_append] at h1 h0
    subst h1
    exact ⟨fr, u, hf, hm, .refl _, hFin, Comes_.refl hSp h0 hL hP hs⟩
  have stop : ∀ (fr : Frame) (stk : List Frame) (u : World), Stop fr stk u → Trans P F k0 Stop (fr, stk, u) := by
    intro fr stk u h
    obtain ⟨h1, h2⟩ := hS _ _ _ h
    refine done _ (fun cs bm e hb => ⟨?_, h2⟩)
    simp only [] at e
    rw [h1] at e
    cases cs with
    | nil => rfl
    | cons c cs =>
      simp only [List.cons_append, List.cons.injEq] at e
      have := e.2
      simp at this
      exact absurd this.2 hb
  induction hF with
  | @stop fr stk u h =>
    intro z hz
    rcases hz.head with rfl | ⟨y, hd, _⟩
    · exact stop _ _ _ h
    · exact absurd h hd.1
  | @step fr stk u h1 h2 ih =>
    intro z hz
    rcases hz.head with rfl | ⟨⟨fr', stk', u'⟩, hd, hzy⟩
    rotate_left
    · obtain ⟨_, τ, d, es, e⟩ := hd
      exact ih τ d fr' stk' u' es e z hzy
    by_cases hst : Stop fr stk u
    · exact stop _ _ _ hst
    have down : ∀ {τ d fr' stk' u' es}, stepG (PF P F) true (G fr stk) (re u τ d) = .go (G fr' stk') u' es → Down (PF P F) Stop (fr', stk', u') (fr, stk, u) := fun {τ d fr' stk' u' es} e => ⟨hst, τ, d, es, e⟩
    intro cs bm bt S K Sp gs w sl t q hSp hx hbm hFin hf hc hs h0 hL hP
    simp only [] at hx hFin hf hs h0
    subst hx
    by_cases hm : fr.mode = .run ∨ cs ≠ []
    rotate_left
    · have hcs : cs = [] := Classical.byContradiction fun h => hm (.inr h)
      subst hcs
      exact ⟨fr, u, hf, fun h => hm (.inl h), .refl _, hFin, Comes_.refl hSp h0 hL hP hs⟩
    obtain ⟨d, one⟩ := one_step (sl := sl) (w := w) rfl h0 hL hP
    have hs1 := (hs.at d).sim (gw (stepG (PF P F) true (G fr (cs ++ bm)) (re u (w.at d).tape (w.at d).drawn))).drawn
    rcases lock_step (bm := bm) (bt := bt) hK hs1 hf hc hm (Nat.le_refl _) with ⟨o, x, y, e⟩ | ⟨fr', cs', u', w', es, es', k1, k2, k3, k4, k5, k6, k7⟩ | ⟨args, u', w', es, es', k1, k2, _, k3, k4, k5⟩
    · obtain ⟨a, b, c, e', h⟩ := h1 (w.at d).tape (w.at d).drawn
      rw [e] at h; cases h
    · obtain ⟨N, gs', sl', t', q', r1, r2, r3, r4, r5⟩ := one _ _ _ k2 (fun e he => evS_evT (S := ⟨S, K, _, 0, 0, _⟩) hSp (k5 e he))
      rw [evS_still k5 0] at r5
      obtain ⟨fr2, u2, m1, m2, m3, m4, hc2⟩ := ih _ _ _ _ _ _ k1 _ (.refl _) cs' bm bt S K Sp gs' w' sl' t' q' hSp rfl hbm (h2 _ _ _ _ _ _ k1) k6 k7 k3.sim0 r3 r4 r5
      have hsz : w.heap.size ≤ w'.heap.size := by have := k3.size; have := hs.size; have k4' : u.heap.size ≤ u'.heap.size := k4; omega
      exact ⟨fr2, u2, m1, m2, (Desc.refl _ |>.tail (down k1)).trans m3, m4, hc2.step r1 (fun _ h => ⟨h, rfl⟩) (fun _ h => h) (fun _ h => .inl h) hsz⟩
    · obtain ⟨N, gs', sl', t', q', r1, r2, r3, r4, r5⟩ := one _ _ _ k2 (fun e he => evS_evT (S := ⟨S, K, _, 0, 0, _⟩) hSp (k5 e he))
      rw [evS_still k5 0] at r5
      have hsz : w.heap.size ≤ w'.heap.size := by have := k3.size; have := hs.size; have k4' : u.heap.size ≤ u'.heap.size := k4; omega
      obtain ⟨fr1, u1, p1, p2, p3, N1, gs1, w1, sl1, t1, q1, S1, K1, Sp1, b1, b2, b3, b4, b5, b6, b7, b8, b9, b10⟩ := hpass args fr (cs ++ bm) (cs ++ bt) u' S K Sp gs' w' sl' t' q' hSp (fun y z hy hz => ih _ _ _ _ _ _ k1 z ((Desc.refl _ |>.tail hy).trans hz)) (h2 _ _ _ _ _ _ k1) k3.sim0 r3 r4 r5
      have hf1 : OkFr P F k0 fr1 := by
        rcases p1 with ⟨v, rfl⟩ | ⟨ch, rfl⟩
        · exact finish_ok hf v
        · exact raise_ok hf ch
      obtain ⟨fr2, u2, m1, m2, m3, m4, hc2⟩ := ih _ _ _ _ _ _ k1 _ p2 cs bm bt S1 K1 Sp1 gs1 w1 sl1 t1 q1 b7 rfl hbm p3 hf1 hc b5 b2 b3 b4
      exact ⟨fr2, u2, m1, m2, ((Desc.refl _ |>.tail (down k1)).trans p2).trans m3, m4, (hc2.step b1 b6 b8 b9 b10).step r1 (fun _ h => ⟨h, rfl⟩) (fun _ h => h) (fun _ h => .inl h) hsz⟩
end
end Go.Proofs.YtcomppiglhibkaaGreatDoor
/- Function k0's own frame, in the model beside the true program: one operation, one move, one call at a time; what is to be shown is passed along. -/
namespace Go.Proofs.YtcomppiglhibkaaGreatDoor
open Go Go.Conc
set_option linter.unusedVariables false
set_option linter.unusedSimpArgs false

section
variable {P : Program} {F : Array Func} {k0 : FuncId} {Stop : Frame → List Frame → World → Prop}
/-- the call comes back, on both sides; S, K, Sp: what is hidden now -/
def Concl (P : Program) (F : Array Func) (Stop : Frame → List Frame → World → Prop) (fr : Frame) (sm stt : List Frame) (S : Nat → Prop) (K : Nat → Obj) (Sp : Nat → Prop) (x : St) (gs : Array Goroutine) (w : World) (sl : Option (Nat × Nat)) (t : Trace) : Prop :=
  ∃ fr' u', ((∃ v, fr' = fr.finish v) ∨ ∃ ch, fr' = fr.raise ch) ∧ Desc (PF P F) Stop (fr', sm, u') x ∧ Fin_ (PF P F) Stop fr' sm u' ∧ Comes_ P gs w sl t S K Sp (G fr' stt) u'
variable {fr : Frame} {sm stt : List Frame} {S S' : Nat → Prop} {K K' : Nat → Obj} {Sp Sp' : Nat → Prop} {x y : St} {gs gs' : Array Goroutine} {w w' : World} {sl sl' : Option (Nat × Nat)} {t t' : Trace}
theorem Concl.model (hd : Desc (PF P F) Stop y x) (h : Concl P F Stop fr sm stt S K Sp y gs w sl t) : Concl P F Stop fr sm stt S K Sp x gs w sl t := by
  obtain ⟨fr', u', h1, h2, h3⟩ := h
  exact ⟨fr', u', h1, hd.trans h2, h3⟩
theorem Concl.step {N : Nat} (hr : runNT P N (crowd gs w sl) t = (.next (crowd gs' w' sl'), t')) (h1 : ∀ b, S b → S' b ∧ K' b = K b) (h2 : ∀ b, Sp b → Sp' b) (h3 : ∀ b, Sp' b → Sp b ∨ w.heap.size ≤ b) (h4 : w.heap.size ≤ w'.heap.size)
    (h : Concl P F Stop fr sm stt S' K' Sp' x gs' w' sl' t') : Concl P F Stop fr sm stt S K Sp x gs w sl t := by
  obtain ⟨fr', u', c1, c2, c3, c4⟩ := h
  exact ⟨fr', u', c1, c2, c3, c4.step hr h1 h2 h3 h4⟩
theorem Concl.mach {N : Nat} (hr : runNT P N (crowd gs w sl) t = (.next (crowd gs' w' sl'), t')) (h1 : ∀ b, S b → S' b ∧ K' b = K b) (h4 : w.heap.size ≤ w'.heap.size)
    (h : Concl P F Stop fr sm stt S' K' Sp x gs' w' sl' t') : Concl P F Stop fr sm stt S K Sp x gs w sl t := h.step hr h1 (fun _ h => h) (fun _ h => .inl h) h4
/-- more is hidden -/
theorem Concl.hide (h1 : ∀ b, S b → S' b ∧ K' b = K b) (h : Concl P F Stop fr sm stt S' K' Sp x gs w sl t) : Concl P F Stop fr sm stt S K Sp x gs w sl t := h.mach (N := 0) rfl h1 (Nat.le_refl _)
/-- how things stand: the model at frm over fr :: sm, in world u; the true goroutine 0 at frt over fr :: stt, beside leavers -/
structure Here (P : Program) (F : Array Func) (Stop : Frame → List Frame → World → Prop) (fr : Frame) (sm stt : List Frame) (Sp : Nat → Prop) (n : Nat) (x1 : St) (frm : Frame) (u : World) (frt : Frame) (gs : Array Goroutine) (t : Trace) (q : Nat → Nat) : Prop where
  desc : Desc (PF P F) Stop (frm, fr :: sm, u) x1
  fin : Fin_ (PF P F) Stop frm (fr :: sm) u
  h0 : gs[0]? = some (G frt (fr :: stt))
  lv : Leavers P t gs q
  past : PastD (ShunS Sp) 0 t
  size : gs.size = n
variable {n : Nat} {x1 : St} {frm frm' frt frt' : Frame} {u u' : World} {q q' : Nat → Nat}
/-- the stop lies over the bottom frame, and is no frame of function k0's -/
def NoStop (k0 : FuncId) (Stop : Frame → List Frame → World → Prop) : Prop := ∀ fr stk u, Stop fr stk u → fr.fn ≠ k0 ∧ stk = [c0]
theorem Fin_.go (h : Fin_ (PF P F) Stop frm sm u) (hns : ¬ Stop frm sm u) (τ : Nat → Question → Nat) (d : Nat) :
    ∃ f' s' u' es, stepG (PF P F) true (G frm sm) (re u τ d) = .go (G f' s') u' es ∧ Fin_ (PF P F) Stop f' s' u' ∧ Down (PF P F) Stop (f', s', u') (frm, sm, u) := by
  cases h with
  | stop h => exact absurd h hns
  | step h1 h2 =>
    obtain ⟨f', s', u', es, h⟩ := h1 τ d
    exact ⟨f', s', u', es, h, h2 _ _ _ _ _ _ h, hns, τ, d, es, h⟩
theorem NoStop.at (hS : NoStop k0 Stop) (hm : frm.fn = k0) : ¬ Stop frm sm u := fun h => (hS _ _ _ h).1 hm
/-- the model moves alone -/
theorem Here.model (hS : NoStop k0 Stop) (hm : frm.fn = k0) (h : Here P F Stop fr sm stt Sp n x1 frm u frt gs t q) (hgo : ∀ τ d, ∃ es, stepG (PF P F) true (G frm (fr :: sm)) (re u τ d) = .go (G frm' (fr :: sm)) (re u' τ d) es)
    (next : Here P F Stop fr sm stt Sp n x1 frm' (re u' u.tape u.drawn) frt gs t q → Concl P F Stop fr sm stt S K Sp' (frm', fr :: sm, re u' u.tape u.drawn) gs w sl t) : Concl P F Stop fr sm stt S K Sp' (frm, fr :: sm, u) gs w sl t := by
  obtain ⟨f', s', u2, es, h1, h2, h3⟩ := h.fin.go (hS.at hm) u.tape u.drawn
  obtain ⟨es', h4⟩ := hgo u.tape u.drawn
  rw [h4] at h1
  injection h1 with e1 e2 e3
  injection e1 with e4 e5
  subst e4 e5 e2
  exact Concl.model ((Desc.refl _).tail h3) (next ⟨h.desc.tail h3, h2, h.h0, h.lv, h.past, h.size⟩)
/-- goroutine 0 moves alone -/
theorem Here.true_ (h : Here P F Stop fr sm stt Sp n x1 frm u frt gs t q) {Q : World → Prop} (hQ : ∀ w', Q w' → w.heap.size ≤ w'.heap.size) (hgo : ∀ d, ∃ w' es, stepG P true (G frt (fr :: stt)) (w.at d) = .go (G frt' (fr :: stt)) w' es ∧ (∀ e ∈ es, EvT (ShunS Sp) e ∧ e.loc ≠ .mark .disable ∧ e.loc ≠ .mark .enable) ∧ Q w')
    (next : ∀ gs' w' sl' t' q', Q w' → Here P F Stop fr sm stt Sp n x1 frm u frt' gs' t' q' → Concl P F Stop fr sm stt S K Sp' x gs' w' sl' t') : Concl P F Stop fr sm stt S K Sp' x gs w sl t := by
  obtain ⟨d, one⟩ := one_step (sl := sl) (w := w) rfl h.h0 h.lv h.past
  obtain ⟨w', es, e1, e2, e3⟩ := hgo d
  obtain ⟨N, gs', sl', t', q', r1, r2, r3, r4, r5⟩ := one _ _ _ e1 (fun e he => (e2 e he).1)
  rw [deafBehind_still (fun e he => (e2 e he).2) 0] at r5
  exact Concl.mach r1 (fun _ h => ⟨h, rfl⟩) (hQ _ e3) (next gs' w' sl' t' q' e3 ⟨h.desc, h.fin, r3, r4, r5, r2.trans h.size⟩)
/-- .. a move of control -/
theorem Here.ctl (h : Here P F Stop fr sm stt Sp n x1 frm u frt gs t q) (hgo : ∀ w, stepG P true (G frt (fr :: stt)) w = .go (G frt' (fr :: stt)) w #[])
    (next : ∀ gs' d sl' t' q', Here P F Stop fr sm stt Sp n x1 frm u frt' gs' t' q' → Concl P F Stop fr sm stt S K Sp' x gs' (w.at d) sl' t') : Concl P F Stop fr sm stt S K Sp' x gs w sl t := by
  obtain ⟨d, one⟩ := one_step (sl := sl) (w := w) rfl h.h0 h.lv h.past
  obtain ⟨N, gs', sl', t', q', r1, r2, r3, r4, r5⟩ := one _ _ _ (hgo _) (by simp)
  exact Concl.mach r1 (fun _ h => ⟨h, rfl⟩) (Nat.le_refl _) (next gs' d sl' t' q' ⟨h.desc, h.fin, r3, r4, r5, r2.trans h.size⟩)
/-- the model makes a move of control -/
theorem Here.mctl (hS : NoStop k0 Stop) (hm : frm.fn = k0) (h : Here P F Stop fr sm stt Sp n x1 frm u frt gs t q) (hgo : ∀ w, stepG (PF P F) true (G frm (fr :: sm)) w = .go (G frm' (fr :: sm)) w #[])
    (next : Here P F Stop fr sm stt Sp n x1 frm' u frt gs t q → Concl P F Stop fr sm stt S K Sp' (frm', fr :: sm, u) gs w sl t) : Concl P F Stop fr sm stt S K Sp' (frm, fr :: sm, u) gs w sl t :=
  h.model hS hm (u' := u) (fun τ d => ⟨_, hgo _⟩) next

/-- a frame of function k0 -/
abbrev kf (k0 : FuncId) (a : Act) (todo : List Item) : Frame := (base k0).at a todo
variable {a : Act} {km kt : List Item} {ops ops' : Array Oper} {i i' : Nat} {l l' : List Nat} {o : Oper} {S1 : Nat → Prop} {K1 : Nat → Obj}
theorem kf_finish (v : Value) (k : List Item) : (kf k0 a (.inRegion ops (i :: l) :: k)).finish v = kf k0 (a.put ((ops[i]?).bind (·.dst)) v) (.inRegion ops l :: k) := Frame.finish_at _ _ _ _ _ _ _
/-- the same operation, both sides: what it comes to -/
theorem two_apply (hF : FitsF P F) (hE : ∀ (fr : Frame) (cs : List Frame) (d : Option Dying) (g : Nat) (w : World), ∃ o w' es, early (PF P F) fr cs d g w = .ended o w' es) {U : Program} (hU : U = PF P F) (ho : ops[i]? = some o) (hw : Region.wanted o (yielded ops a.tmps) = true) (ho' : ops'[i']? = some o) (hw' : Region.wanted o (yielded ops' a.tmps) = true) (hop : okOp P o = true) {T : Nat} {u w : World} {cm ct : List Frame} (hs : Sim ⟨S1, K1, T, 0, 0, w.tape⟩ u w)
    (hT : (gw (stepG U true (G (kf k0 a (.inRegion ops (i :: l) :: km)) cm) u)).drawn ≤ T) :
    (∃ oc x y, stepG U true (G (kf k0 a (.inRegion ops (i :: l) :: km)) cm) u = .ended oc x y) ∨
    (∃ v u' w' es es', stepG U true (G (kf k0 a (.inRegion ops (i :: l) :: km)) cm) u = .go (G (kf k0 (a.put o.dst v) (.inRegion ops l :: km)) cm) u' es ∧ stepG P true (G (kf k0 a (.inRegion ops' (i' :: l') :: kt)) ct) w = .go (G (kf k0 (a.put o.dst v) (.inRegion ops' l' :: kt)) ct) w' es' ∧
      Sim ⟨S1, K1, T, 0, 0, w.tape⟩ u' w' ∧ (∀ e ∈ es', EvS ⟨S1, K1, T, 0, 0, w.tape⟩ u'.heap.size e) ∧ u.heap.size ≤ u'.heap.size ∧ (execOp a.eval o).run U u = .ok (.value v) u') ∨
    (∃ v u' w' es es', stepG U true (G (kf k0 a (.inRegion ops (i :: l) :: km)) cm) u = .go (G (kf k0 (a.put o.dst v) (.inRegion ops l :: km)) cm) u' es ∧ stepG P true (G (kf k0 a (.inRegion ops' (i' :: l') :: kt)) ct) w = .go (G (kf k0 (a.put o.dst v) (.inRegion ops' l' :: kt)) ct) w' es' ∧
      Sim ⟨S1, K1, T, 0, 0, w.tape⟩ u' w' ∧ (∀ e ∈ es', EvS ⟨S1, K1, T, 0, 0, w.tape⟩ u'.heap.size e) ∧ u.heap.size ≤ u'.heap.size ∧ (execOp a.eval o).run U u = .ok .skip u' ∧ v = undef) ∨
    (∃ f args u' w' es es', stepG U true (G (kf k0 a (.inRegion ops (i :: l) :: km)) cm) u = .go (G (Frame.enter U f args .normal) (kf k0 a (.inRegion ops (i :: l) :: km) :: cm)) u' es ∧
      stepG P true (G (kf k0 a (.inRegion ops' (i' :: l') :: kt)) ct) w = .go (G (Frame.enter P f args .normal) (kf k0 a (.inRegion ops' (i' :: l') :: kt) :: ct)) w' es' ∧ Sim ⟨S1, K1, T, 0, 0, w.tape⟩ u' w' ∧ (∀ e ∈ es', EvS ⟨S1, K1, T, 0, 0, w.tape⟩ u'.heap.size e) ∧ u.heap.size ≤ u'.heap.size ∧
      (∃ g, F[f]? = some g ∧ g.body.isNone = false) ∧ (execOp a.eval o).run U u = .ok (.enter f args) u') ∨
    (∃ ch u' w' es es', stepG U true (G (kf k0 a (.inRegion ops (i :: l) :: km)) cm) u = .go (G { kf k0 a (.inRegion ops (i :: l) :: km) with mode := .panicking ch } cm) u' es ∧
      stepG P true (G (kf k0 a (.inRegion ops' (i' :: l') :: kt)) ct) w = .go (G { kf k0 a (.inRegion ops' (i' :: l') :: kt) with mode := .panicking ch } ct) w' es' ∧ Sim ⟨S1, K1, T, 0, 0, w.tape⟩ u' w' ∧ (∀ e ∈ es', EvS ⟨S1, K1, T, 0, 0, w.tape⟩ u'.heap.size e) ∧ u.heap.size ≤ u'.heap.size) := by
  subst hU
  have hk : (base k0).kind ≠ .early := by intro h; cases h
  have hρ : ∀ f, a.eval (.func f) = .func (.func f) #[] #[] := fun f => rfl
  have hss := sim_execOp hF a.eval hρ o hop ⟨S1, K1, T, 0, 0, w.tape⟩ u w #[] hs
  have hy := next_execOp hF a.eval hρ o hop
  have hfin : ∀ v k, (kf k0 a (.inRegion ops (i :: l) :: k)).finish v = kf k0 (a.put o.dst v) (.inRegion ops l :: k) := fun v k => by rw [kf_finish, ho]; rfl
  have hfin' : ∀ v k, (kf k0 a (.inRegion ops' (i' :: l') :: k)).finish v = kf k0 (a.put o.dst v) (.inRegion ops' l' :: k) := fun v k => by rw [kf_finish, ho']; rfl
  rw [stepG_oper ho hw] at hT ⊢
  rw [stepG_oper ho' hw']
  generalize execOp a.eval o = s at hss hy hT ⊢
  have hfst := Sem.runT_fst (PF P F) s u #[]
  unfold stepG.apply at hT ⊢
  generalize hrT : s.runT (PF P F) u #[] = rt at hfst hT ⊢
  obtain ⟨r, es⟩ := rt
  dsimp only at hfst
  subst hfst
  cases hr : s.run (PF P F) u with
  | ok nx u' =>
    rw [hr] at hss hT
    have hd : u'.drawn ≤ T := by
      rcases hy u nx u' hr with ⟨v, rfl⟩ | rfl | ⟨f, args, g, rfl, hf, hb⟩
      · exact hT
      · exact hT
      · exact hT
    obtain ⟨w', es', e1, e2, e3, e4⟩ := hss hd
    simp only [e1, if_true]
    have ev : ∀ e ∈ seen P k0 (#[] ++ es') ++ #[], EvS ⟨S1, K1, T, 0, 0, w.tape⟩ u'.heap.size e := fun e he => e4 e (by have := mem_seen (by simpa using he : e ∈ seen P k0 (#[] ++ es')); simpa using this)
    rcases hy u nx u' hr with ⟨v, rfl⟩ | rfl | ⟨f, args, g, rfl, hf, hb⟩
    · refine .inr (.inl ⟨v, u', w', seen (PF P F) k0 es ++ #[], seen P k0 (#[] ++ es') ++ #[], ?_, ?_, e2, ev, e3, rfl⟩)
      · rw [← hfin]; rfl
      · rw [← hfin']; rfl
    · refine .inr (.inr (.inl ⟨undef, u', w', seen (PF P F) k0 es ++ #[], seen P k0 (#[] ++ es') ++ #[], ?_, ?_, e2, ev, e3, rfl, rfl⟩))
      · rw [← hfin]; rfl
      · rw [← hfin']; rfl
    · refine .inr (.inr (.inr (.inl ⟨f, args, u', w', seen (PF P F) k0 es ++ #[], seen P k0 (#[] ++ es') ++ #[], ?_, ?_, e2, ev, e3, ⟨g, hf, hb⟩, rfl⟩)))
      · rfl
      · rfl
  | halt x u' =>
    rw [hr] at hss hT
    cases x with
    | stuck m => exact .inl ⟨_, _, _, rfl⟩
    | unsupported m =>
      cases m
      case initOrder g =>
        obtain ⟨oc, w2, es2, q⟩ := hE (kf k0 a (.inRegion ops (i :: l) :: km)) cm none g u'
        have e : GStep.after (seen (PF P F) k0 #[]) (early (PF P F) (kf k0 a (.inRegion ops (i :: l) :: km)) cm none g u') = .ended oc w2 (seen (PF P F) k0 #[] ++ es2) := by rw [q]; rfl
        exact .inl ⟨_, _, _, e⟩
      all_goals exact .inl ⟨_, _, _, rfl⟩
    | fatal m =>
      have hd : u'.drawn ≤ T := Nat.le_trans (endFatal_drawn _ _ _ _ m u') (by rw [gw_after] at hT; exact hT)
      rcases hss hd with hx | ⟨⟨v, hx⟩, _⟩ <;> cases hx
    | exit c => rcases hss hT with hx | ⟨⟨v, hx⟩, _⟩ <;> cases hx
    | throw m => rcases hss hT with hx | ⟨⟨v, hx⟩, _⟩ <;> cases hx
    | blocked => rcases hss hT with hx | ⟨⟨v, hx⟩, _⟩ <;> cases hx
    | waiting => rcases hss hT with hx | ⟨⟨v, hx⟩, _⟩ <;> cases hx
    | goexit => rcases hss hT with hx | ⟨⟨v, hx⟩, _⟩ <;> cases hx
    | panic v =>
      obtain ⟨w', es', e1, e2, e3, e4⟩ := (hss hT).elim (fun q => q.elim) (fun q => q.2)
      simp only [e1, if_true]
      exact .inr (.inr (.inr (.inr ⟨[{ v, recovered := false }], u', w', seen (PF P F) k0 es ++ #[], seen P k0 (#[] ++ es') ++ #[], rfl, rfl, e2, fun e he => e4 e (by have := mem_seen (by simpa using he : e ∈ seen P k0 (#[] ++ es')); simpa using this), e3⟩)))
end
end Go.Proofs.YtcomppiglhibkaaGreatDoor
