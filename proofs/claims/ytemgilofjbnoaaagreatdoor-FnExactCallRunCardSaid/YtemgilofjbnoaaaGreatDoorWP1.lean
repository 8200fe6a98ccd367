/- Texts of this claim, joined: WriteS PutP Err TakeI WriteI Put Quiet PutC. -/
import Derived.LaidEql
import Derived.WalkKit
import Derived.Lib.QuietBelow
import Derived.Test.YtemgilofjbnoaaaGreatDoorWB3
import Derived.Test.YtemgilofjbnoaaaGreatDoorWB4
import Derived.Test.YtemgilofjbnoaaaGreatDoorWA4
import Derived.Test.YtemgilofjbnoaaaGreatDoorWB2
set_option linter.unusedSimpArgs false
set_option linter.unusedVariables false
namespace Go.Proofs.YtemgilofjbnoaaaGreatDoor
open Go.RowKit Go.Sort
def writeM (v : Int) (l : List Nod) (u : Upd) : Option (Int × List Nod) := if chainOk v l then l[0]?.bind fun y => takeAtM v l 0 y u else none
theorem writeM_bad {v : Int} {l : List Nod} {u : Upd} (h : chainOk v l = false) : writeM v l u = none := by simp [writeM, h]
theorem writeM_at {v : Int} {l : List Nod} {u : Upd} {y : Nod} (h : chainOk v l = true) (hy : l[0]? = some y) : writeM v l u = takeAtM v l 0 y u := by simp [writeM, h, hy]
theorem write_start {w w1 : World} {view : Int} {nv : Value} {u : Upd} (hb : Below (((w.alloc (.cells #[.int .i64 view, nv] 25)).alloc (.cells #[.int .i64 u.key, .int .i64 u.value] 28)).alloc (.cells #[.int .i64 0, .slice none 0 0] 25)).heap.size (((w.alloc (.cells #[.int .i64 view, nv] 25)).alloc (.cells #[.int .i64 u.key, .int .i64 u.value] 28)).alloc (.cells #[.int .i64 0, .slice none 0 0] 25)) w1) :
    Blk w1 w.heap.size #[.int .i64 view, nv] 25 ∧ Blk w1 (w.heap.size + 1) #[.int .i64 u.key, .int .i64 u.value] 28 ∧ Blk w1 (w.heap.size + 1 + 1) #[.int .i64 0, .slice none 0 0] 25 ∧ Below w.heap.size w w1 := by
  have a := (((Blk.new w #[.int .i64 view, nv] 25).alloc (.cells #[.int .i64 u.key, .int .i64 u.value] 28)).alloc (.cells #[.int .i64 0, .slice none 0 0] 25)).below hb
  have b := ((Blk.new (w.alloc (.cells #[.int .i64 view, nv] 25)) #[.int .i64 u.key, .int .i64 u.value] 28).alloc (.cells #[.int .i64 0, .slice none 0 0] 25)).below hb
  have d := (Blk.new ((w.alloc (.cells #[.int .i64 view, nv] 25)).alloc (.cells #[.int .i64 u.key, .int .i64 u.value] 28)) #[.int .i64 0, .slice none 0 0] 25).below hb
  simp only [World.size_alloc] at a b d
  exact ⟨a, b, d, below_box (below_box (below_box hb))⟩
set_option maxRecDepth 100000 in
set_option maxHeartbeats 4000000 in
theorem specChainWrite_any (view : Int) (A : Option Addr) (n c : Nat) (l : List Nod) (u : Upd) (w : World) (h : Nods w 0 w.heap.size A n c l) (hn : n ≤ 1048576) (hlog : ∀ x ∈ l, x.log.length ≤ 1048576) :
    Calls Mo.prog 76 #[.agg #[.int .i64 view, .slice A n c], .agg #[.int .i64 u.key, .int .i64 u.value]] w (ChainRes w (writeM view l u)) := by
  have HL := Lib.hid h.len
  have HG := Lib.hid hlog
  have H := Lib.hid h
  have F0 := Lib.hid (((h.box (.cells #[.int .i64 view, .slice A n c] 25)).box (.cells #[.int .i64 u.key, .int .i64 u.value] 28)).box (.cells #[.int .i64 0, .slice none 0 0] 25))
  clear h hlog
  cases hok : chainOk view l
  · have HO := Lib.hid hok
    have e0 := writeM_bad (u := u) hok
    rw [e0]
    clear hok e0
    go_enter Mo.func76, Tryz.ntmps76
    go_wp2_with fail
    refine (specChainValid_any view A n c l _ F0.out hn HG.out).mono ?_
    rintro e w1 ⟨rfl, hb1⟩
    rw [HO.out]
    obtain ⟨_, _, k2, b1⟩ := write_start hb1
    have FF := Lib.hid (res_two (a := .int .i64 0) (b := .slice none 0 0) k2 (show w.heap.size ≤ w.heap.size + 1 + 1 by omega) b1)
    obtain ⟨z0, z1, y0, y1⟩ := FF.out.1
    clear hb1 k2 b1
    go_wp2
    exact bodyPost_ret (v := .tuple #[.agg #[.int .i64 0, .slice none 0 0], .bool false]) (by simp [results, Tryz.results76, go_sem, FF.out.2.1.1, FF.out.2.1.2]) rfl (ChainRes.none_ FF.out.2.2)
  · have HO := Lib.hid hok
    obtain ⟨y, hy⟩ : ∃ y, l[0]? = some y := ⟨_, List.getElem?_eq_getElem (by have := (good_iff.1 hok).2.2.1; omega)⟩
    have e0 := writeM_at (u := u) hok hy
    rw [e0]
    obtain ⟨o, ho⟩ : ∃ o, takeAtM view l 0 y u = o := ⟨_, rfl⟩
    rw [ho]
    have T := Lib.hid (show ∀ (w1 : World), Nods w1 0 w1.heap.size A n c l → Calls Mo.prog 97 #[.agg #[.int .i64 view, .slice A n c], .int .i64 0, .agg #[.int .i64 u.key, .int .i64 u.value]] w1 (ChainRes w1 o) from fun w1 h1 => by
      rw [← ho]; exact l4Take_any view A n c 0 l y u w1 h1 hn HG.out hy)
    clear hok e0 hy ho
    go_enter Mo.func76, Tryz.ntmps76
    go_wp2_with fail
    refine (specChainValid_any view A n c l _ F0.out hn HG.out).mono ?_
    rintro e w1 ⟨rfl, hb1⟩
    rw [HO.out]
    obtain ⟨k0, k1, k2, b1⟩ := write_start hb1
    have a0 := k0.cell (i := 0) (v := .int .i64 view) rfl
    have a1 := k0.cell (i := 1) (v := .slice A n c) rfl
    have u0 := k1.cell (i := 0) (v := .int .i64 u.key) rfl
    have u1 := k1.cell (i := 1) (v := .int .i64 u.value) rfl
    have F1 := Lib.hid (H.out.on b1)
    have K2 := Lib.hid k2
    have B1 := Lib.hid b1
    clear hb1 k0 k1 k2 b1
    go_wp2_with fail
    refine (T.out _ F1.out).mono ?_
    rintro e w2 ⟨v1, A1, n1, c1, l1, hv1, rfl, hl1, hr1, hb2⟩
    have k2 := K2.out.below hb2
    have b2 := B1.out.trans (hb2.mono B1.out.size)
    have FF := Lib.hid (res_two (a := .int .i64 v1) (b := .slice A1 n1 c1) k2 (show w.heap.size ≤ w.heap.size + 1 + 1 by omega) b2)
    have NN := Lib.hid (res_row (u := .int .i64 v1) (v := .slice A1 n1 c1) (hr1.lower B1.out.size) k2)
    obtain ⟨z0, z1, y0, y1⟩ := FF.out.1
    have HV := Lib.hid hv1
    clear hb2 hr1 k2 b2 hv1 a0 a1 u0 u1
    go_wp2
    exact bodyPost_ret (v := .tuple #[.agg #[.int .i64 v1, .slice A1 n1 c1], .bool o.isSome]) (by simp [results, Tryz.results76, go_sem, FF.out.2.1.1, FF.out.2.1.2]) rfl ⟨v1, A1, n1, c1, l1, HV.out, rfl, hl1, NN.out, FF.out.2.2⟩
end Go.Proofs.YtemgilofjbnoaaaGreatDoor
namespace Go.Proofs.YtemgilofjbnoaaaGreatDoor
open Go.RowKit
def wrote (l : List Nod) (y : Nod) (u : Upd) : Nod := ⟨y.id, y.log ++ [u], if l.length = 1 then ((y.log.length + 1 : Nat) : Int) else y.done⟩
theorem write_some {v : Int} {l : List Nod} {u : Upd} {c : Int × List Nod} (h : writeM v l u = some c) :
    ∃ y, Good v l ∧ l[0]? = some y ∧ updOk u.key u.value = true ∧ y.log.length ≠ 12 ∧ c = (v, l.set 0 (wrote l y u)) := by
  unfold writeM at h
  split at h
  · rename_i hok
    obtain ⟨y, hy, h⟩ := Option.bind_eq_some_iff.1 h
    unfold takeAtM at h
    obtain ⟨z, hz, rfl⟩ := Option.map_eq_some_iff.1 h
    unfold takeM at hz
    split at hz
    · rename_i hc
      injection hz with hz
      subst hz
      refine ⟨y, good_iff.1 hok, hy, hc.2.1, hc.2.2, ?_⟩
      unfold wrote
      by_cases e : l.length = 1
      · simp [e]
      · have : ¬ 0 + 1 = l.length := by omega
        rw [if_neg this, if_neg e]
    · cases hz
  · cases h
theorem updOk_log {l : List Upd} {u : Upd} (h : logOk l = true) (hu : updOk u.key u.value = true) (h12 : l.length ≠ 12) : logOk (l ++ [u]) = true := by
  unfold logOk at h ⊢
  simp only [Bool.and_eq_true, decide_eq_true_eq, List.all_eq_true] at h ⊢
  refine ⟨by simp; omega, fun x hx => ?_⟩
  rcases List.mem_append.1 hx with hx | hx
  · exact h.2 x hx
  · obtain rfl := List.mem_singleton.1 hx
    exact hu
theorem good_wrote {v : Int} {l : List Nod} {u : Upd} {y : Nod} (h : Good v l) (hy : l[0]? = some y) (hu : updOk u.key u.value = true) (h12 : y.log.length ≠ 12) : Good v (l.set 0 (wrote l y u)) := by
  have hyk := nodeOk_iff.1 (goodl_ok h hy)
  have hl := (List.getElem?_eq_some_iff.1 hy).1
  refine good_set h hl (nodeOk_iff.2 ⟨hyk.1, hyk.2.1, updOk_log hyk.2.2.1 hu h12, ?_, ?_⟩) (fun j x hj _ => by omega) (fun j x hj hx => ?_) (fun e => ?_)
  · show 0 ≤ (if l.length = 1 then ((y.log.length + 1 : Nat) : Int) else y.done)
    have := hyk.2.2.2.1
    split <;> omega
  · show (if l.length = 1 then ((y.log.length + 1 : Nat) : Int) else y.done) ≤ ((y.log ++ [u]).length : Int)
    have := hyk.2.2.2.2
    simp only [List.length_append, List.length_singleton]
    split <;> omega
  · have hyx := good_at h hy hx hj
    have hjl := (List.getElem?_eq_some_iff.1 hx).1
    refine ⟨hyx.1, hyx.2.1.trans (List.prefix_append _ _), ?_⟩
    show (if l.length = 1 then ((y.log.length + 1 : Nat) : Int) else y.done) ≤ x.done
    rw [if_neg (by omega)]
    exact hyx.2.2
  · show (if l.length = 1 then ((y.log.length + 1 : Nat) : Int) else y.done) = ((y.log ++ [u]).length : Int)
    rw [if_pos (by omega)]
    simp
theorem good_write {v : Int} {l : List Nod} {u : Upd} {c : Int × List Nod} (h : writeM v l u = some c) : Good c.1 c.2 := by
  obtain ⟨y, hg, hy, hu, h12, rfl⟩ := write_some h
  exact good_wrote hg hy hu h12
def putM (v : Int) (l : List Nod) (u : Upd) : Option (Int × List Nod) := (writeM v l u).map fun c => (settleM c.1 c.2).1
def putL (l : List Nod) (u : Upd) : List Nod := l.map fun x => ⟨x.id, hd l ++ [u], ((hd l).length + 1 : Nat)⟩
theorem settled_wrote {l : List Nod} {u : Upd} {y : Nod} (hy : l[0]? = some y) : settledM (l.set 0 (wrote l y u)) = putL l u := by
  cases l with
  | nil => cases hy
  | cons x l =>
    simp only [List.getElem?_cons_zero, Option.some.injEq] at hy
    subst hy
    simp [settledM, putL, hd, wrote]
theorem put_some {v : Int} {l : List Nod} {u : Upd} {c : Int × List Nod} (h : putM v l u = some c) : Good v l ∧ updOk u.key u.value = true ∧ (hd l).length ≠ 12 ∧ c = (v, putL l u) := by
  obtain ⟨d, hd', rfl⟩ := Option.map_eq_some_iff.1 h
  obtain ⟨y, hg, hy, hu, h12, rfl⟩ := write_some hd'
  refine ⟨hg, hu, by rw [hd_at hy]; exact h12, ?_⟩
  have := good_wrote hg hy hu h12
  simp [settleM, good_iff.2 this, settled_wrote hy]
end Go.Proofs.YtemgilofjbnoaaaGreatDoor
namespace Go.Proofs.YtemgilofjbnoaaaGreatDoor
open Go.RowKit Go.Extern
set_option linter.unusedVariables false
def errV (a : Addr) : Value := .iface 210 (.pointer (some a))
theorem Mo.underlyingErr : Mo.prog.underlying 132 = some (.interface #[("Error", 211)]) := by kernel_rfl
theorem Mo.underlyingErrP : Mo.prog.underlying 210 = some (.pointer 235) := by kernel_rfl
theorem Mo.isComp : (Mo.prog.info? 210).map (·.comparable) = some true := by kernel_rfl
theorem Mo.isSize : (Mo.prog.info? 235).map (·.size) = some 1 := by kernel_rfl
theorem Mo.isTypeOf (v : Value) (w : World) : (Extern.ReflectliteType.typeOf #[.iface 210 v]).run Mo.prog w = .ok (.iface 161 (.agg #[.pointer (some ⟨1, 210, none⟩)])) w := by kernel_rfl
theorem Mo.isComparable (w : World) : ((Extern.ReflectliteType.method fun t => do Extern.Rtype.noPackHeld "Comparable" t; (fun a => Value.bool a.comparable) <$> typeInfo t) #[.agg #[.pointer (some ⟨1, 210, none⟩)]]).run Mo.prog w = .ok (.bool true) w := by kernel_rfl
theorem Mo.isMethod (v : Value) (w : World) : (Go.method 346 161 v "Comparable").run Mo.prog w = .ok (185, v) w := by kernel_rfl
theorem callTypeOf (args : Array Value) (w : World) : (callFunc 117 args).run Mo.prog w = ((Extern.ReflectliteType.typeOf args).run Mo.prog w).andThen fun v w' => .ok (.value v) w' :=
  run_callFunc_extern (mo_fn fmoTypeOf) (by kernel_rfl) (by kernel_rfl) (by kernel_rfl) (by kernel_rfl) args w
theorem callComparable (args : Array Value) (w : World) : (callFunc 185 args).run Mo.prog w = ((Extern.ReflectliteType.method (fun t => do Extern.Rtype.noPackHeld "Comparable" t; pure (.bool (← typeInfo t).comparable)) args).run Mo.prog w).andThen fun v w' => .ok (.value v) w' :=
  run_callFunc_extern (mo_fn fmoComparable) (by kernel_rfl) (by kernel_rfl) (by kernel_rfl) (by kernel_rfl) args w
theorem is_nil (b : Addr) (w : World) : Calls Mo.prog 106 #[.nilIface, .iface 210 (.pointer (some b))] w fun e w' => e = .returned (.bool false) ∧ Below w.heap.size w w' := by
  have hn := run_eql_iface_nil_left (P := Mo.prog) w 210 (.pointer (some b)) Mo.underlyingErr
  go_enter Mo.func106, Tryz.ntmps106
  go_wp2
  go_ret
  exact ⟨rfl, Below.refl _ _⟩
set_option maxRecDepth 100000 in
theorem is_loop (a : Addr) (w : World) : Calls Mo.prog 118 #[.iface 210 (.pointer (some a)), .iface 210 (.pointer (some a)), .bool true] w fun e w' => e = .returned (.bool true) ∧ Below w.heap.size w w' := by
  obtain ⟨i, hi, hcmp⟩ := Option.map_eq_some_iff.1 Mo.isComp
  obtain ⟨j, hj, hjs⟩ := Option.map_eq_some_iff.1 Mo.isSize
  have heq := run_eql_iface_ptr_same (P := Mo.prog) w a Mo.underlyingErr Mo.underlyingErrP hi hcmp hj
  go_enter Mo.func118, Tryz.ntmps118
  go_wp2
  refine wp_loop_rounds 1 ?_
  rw [rounds_succ]
  go_wp2
  go_ret
  exact ⟨rfl, Below.refl _ _⟩
set_option maxRecDepth 100000 in
theorem is_same (a : Addr) (w : World) : Calls Mo.prog 106 #[.iface 210 (.pointer (some a)), .iface 210 (.pointer (some a))] w fun e w' => e = .returned (.bool true) ∧ Below w.heap.size w w' := by
  obtain ⟨i, hi, hcmp⟩ := Option.map_eq_some_iff.1 Mo.isComp
  obtain ⟨j, hj, hjs⟩ := Option.map_eq_some_iff.1 Mo.isSize
  have h8 := callTypeOf
  have h32 := callComparable
  have tT := Mo.isTypeOf
  have cT := Mo.isComparable
  have mR := Mo.isMethod
  have heq := run_eql_iface_ptr_same (P := Mo.prog) w a Mo.underlyingErr Mo.underlyingErrP hi hcmp hj
  go_enter Mo.func106, Tryz.ntmps106
  go_wp2_with fail
  refine (is_loop a _).mono ?_
  rintro e w1 ⟨rfl, hb⟩
  go_wp2
  go_ret
  exact ⟨rfl, hb⟩
end Go.Proofs.YtemgilofjbnoaaaGreatDoor
namespace Go.Proofs.YtemgilofjbnoaaaGreatDoor
open Go.RowKit Go.Sort
def ErrAt (a : Addr) (w : World) : Prop := w.cell? ⟨0, 0, none⟩ = some (.iface 210 (.pointer (some a))) ∧ 0 < w.heap.size
theorem ErrAt.on {a : Addr} {w w' : World} {n : Nat} (h : ErrAt a w) (hb : Below n w w') (hn : 0 < n) : ErrAt a w' := ⟨(hb.cell (p := ⟨0, 0, none⟩) hn).trans h.1, Nat.lt_of_lt_of_le h.2 hb.size⟩
theorem ErrAt.below {a : Addr} {w w' : World} (h : ErrAt a w) (hb : Below w.heap.size w w') : ErrAt a w' := h.on hb h.2
theorem ErrAt.box {a : Addr} {w : World} (h : ErrAt a w) (o : Obj) : ErrAt a (w.alloc o) := h.below ((Below.refl _ w).alloc (Nat.le_refl _) o)
def errOf (a : Addr) (b : Bool) : Value := if b then .nilIface else .iface 210 (.pointer (some a))
theorem takeM_isSome (x : Nod) (u : Upd) : (takeM x u).isSome = (nodeOk x && updOk u.key u.value && decide (x.log.length ≠ 12)) := by
  unfold takeM
  split <;> simp_all
set_option maxRecDepth 100000 in
set_option maxHeartbeats 4000000 in
theorem takeCheck_any (a : Addr) (x : Nod) (u : Upd) (A : Option Addr) (n c : Nat) (w : World) (he : ErrAt a w) (h : Flat Upd.enc 2 w 0 w.heap.size A n c x.log) (hn : n ≤ 1048576) :
    Calls Mo.prog 107 #[.agg #[.int .i64 x.id, .slice A n c, .int .i64 x.done], .agg #[.int .i64 u.key, .int .i64 u.value]] w fun e w' => e = .returned (errOf a (takeM x u).isSome) ∧ Below w.heap.size w w' := by
  have HL := Lib.hid h.len
  have H0 := Lib.hid ((h.box (.cells #[.int .i64 x.id, .slice A n c, .int .i64 x.done] 78)).box (.cells #[.int .i64 u.key, .int .i64 u.value] 28))
  have E0 := Lib.hid ((he.box (.cells #[.int .i64 x.id, .slice A n c, .int .i64 x.done] 78)).box (.cells #[.int .i64 u.key, .int .i64 u.value] 28))
  have K := Lib.hid (show ∀ w1 : World, Below ((w.alloc (.cells #[.int .i64 x.id, .slice A n c, .int .i64 x.done] 78)).alloc (.cells #[.int .i64 u.key, .int .i64 u.value] 28)).heap.size ((w.alloc (.cells #[.int .i64 x.id, .slice A n c, .int .i64 x.done] 78)).alloc (.cells #[.int .i64 u.key, .int .i64 u.value] 28)) w1 →
      Blk w1 w.heap.size #[.int .i64 x.id, .slice A n c, .int .i64 x.done] 78 ∧ Blk w1 (w.heap.size + 1) #[.int .i64 u.key, .int .i64 u.value] 28 ∧ Below w.heap.size w w1 from fun w1 hb => by
    have a := ((Blk.new w #[.int .i64 x.id, .slice A n c, .int .i64 x.done] 78).alloc (.cells #[.int .i64 u.key, .int .i64 u.value] 28)).below hb
    have b := (Blk.new (w.alloc (.cells #[.int .i64 x.id, .slice A n c, .int .i64 x.done] 78)) #[.int .i64 u.key, .int .i64 u.value] 28).below hb
    simp only [World.size_alloc] at a b
    exact ⟨a, b, below_box (below_box hb)⟩)
  have HT := Lib.hid (takeM_isSome x u)
  clear h he
  cases hok : nodeOk x
  · have HO := Lib.hid hok
    have HV := Lib.hid (show (takeM x u).isSome = false by rw [HT.out, hok]; rfl)
    clear hok
    go_enter Mo.func107, Tryz.ntmps107
    go_wp2_with fail
    refine (nodeValid_any x A n c _ H0.out hn).mono ?_
    rintro e w1 ⟨rfl, hb1⟩
    rw [HO.out]
    have e1 := (E0.out.below hb1).1
    obtain ⟨_, _, b1⟩ := K.out _ hb1
    have B1 := Lib.hid b1
    clear hb1 b1
    go_wp2
    go_ret
    exact ⟨by rw [HV.out]; rfl, B1.out⟩
  · have HO := Lib.hid hok
    have hl12 : x.log.length ≤ 12 := by
      have := (nodeOk_log' hok)
      unfold logOk at this
      simp only [Bool.and_eq_true, decide_eq_true_eq] at this
      exact this.1
    rw [HL.out] at hl12
    cases hu : updOk u.key u.value
    · have HU := Lib.hid hu
      have HV := Lib.hid (show (takeM x u).isSome = false by rw [HT.out, hu]; simp)
      clear hu hok
      go_enter Mo.func107, Tryz.ntmps107
      go_wp2_with fail
      refine (nodeValid_any x A n c _ H0.out hn).mono ?_
      rintro e w1 ⟨rfl, hb1⟩
      rw [HO.out]
      have e1 := E0.out.below hb1
      obtain ⟨_, k1, b1⟩ := K.out _ hb1
      have u0 := k1.cell (i := 0) (v := .int .i64 u.key) rfl
      have u1 := k1.cell (i := 1) (v := .int .i64 u.value) rfl
      have E1 := Lib.hid e1
      have B1 := Lib.hid b1
      clear hb1 k1 b1 e1
      go_wp2_with fail
      refine (updateValid_any _ _ _).mono ?_
      rintro e w2 ⟨rfl, hb2⟩
      rw [HU.out]
      have e2 := (E1.out.below hb2).1
      have B2 := Lib.hid (B1.out.trans (hb2.mono B1.out.size))
      clear hb2 u0 u1
      go_wp2
      go_ret
      exact ⟨by rw [HV.out]; rfl, B2.out⟩
    · have HU := Lib.hid hu
      by_cases h12 : n = 12
      · have hq : (12 : Int) ≤ (n : Int) := by omega
        have HV := Lib.hid (show (takeM x u).isSome = false by rw [HT.out, HL.out, h12]; simp)
        clear hu hok h12
        go_enter Mo.func107, Tryz.ntmps107
        go_wp2_with fail
        refine (nodeValid_any x A n c _ H0.out hn).mono ?_
        rintro e w1 ⟨rfl, hb1⟩
        rw [HO.out]
        have e1 := E0.out.below hb1
        obtain ⟨k0, k1, b1⟩ := K.out _ hb1
        have u0 := k1.cell (i := 0) (v := .int .i64 u.key) rfl
        have u1 := k1.cell (i := 1) (v := .int .i64 u.value) rfl
        have K0 := Lib.hid k0
        have E1 := Lib.hid e1
        have B1 := Lib.hid b1
        clear hb1 k1 b1 e1 k0
        go_wp2_with fail
        refine (updateValid_any _ _ _).mono ?_
        rintro e w2 ⟨rfl, hb2⟩
        rw [HU.out]
        have e2 := (E1.out.below hb2).1
        have a1 := (K0.out.below hb2).cell (i := 1) (v := .slice A n c) rfl
        have B2 := Lib.hid (B1.out.trans (hb2.mono B1.out.size))
        clear hb2 u0 u1
        go_wp2
        go_ret
        exact ⟨by rw [HV.out]; rfl, B2.out⟩
      · have hq : ¬ (12 : Int) ≤ (n : Int) := by omega
        have HV := Lib.hid (show (takeM x u).isSome = true by rw [HT.out, HL.out, hok, hu]; simp [h12])
        clear hu hok h12
        go_enter Mo.func107, Tryz.ntmps107
        go_wp2_with fail
        refine (nodeValid_any x A n c _ H0.out hn).mono ?_
        rintro e w1 ⟨rfl, hb1⟩
        rw [HO.out]
        have e1 := E0.out.below hb1
        obtain ⟨k0, k1, b1⟩ := K.out _ hb1
        have u0 := k1.cell (i := 0) (v := .int .i64 u.key) rfl
        have u1 := k1.cell (i := 1) (v := .int .i64 u.value) rfl
        have K0 := Lib.hid k0
        have B1 := Lib.hid b1
        clear hb1 k1 b1 e1 k0
        go_wp2_with fail
        refine (updateValid_any _ _ _).mono ?_
        rintro e w2 ⟨rfl, hb2⟩
        rw [HU.out]
        have a1 := (K0.out.below hb2).cell (i := 1) (v := .slice A n c) rfl
        have B2 := Lib.hid (B1.out.trans (hb2.mono B1.out.size))
        clear hb2 u0 u1
        go_wp2
        go_ret
        exact ⟨by rw [HV.out]; rfl, B2.out⟩
set_option maxRecDepth 100000 in
set_option maxHeartbeats 4000000 in
theorem nodeTake_any (a : Addr) (x : Nod) (u : Upd) (A : Option Addr) (n c : Nat) (w : World) (he : ErrAt a w) (h : Flat Upd.enc 2 w 0 w.heap.size A n c x.log) (hn : n ≤ 1048576) :
    Calls Mo.prog 86 #[.agg #[.int .i64 x.id, .slice A n c, .int .i64 x.done], .agg #[.int .i64 u.key, .int .i64 u.value]] w (NodeRes w (takeM x u)) := by
  obtain ⟨i0, hi, hz0, hz1, hz2⟩ := info_parts infoUpd
  have HL := Lib.hid h.len
  obtain ⟨W, hW⟩ : ∃ W : World, (((w.alloc (.cells #[.int .i64 x.id, .slice A n c, .int .i64 x.done] 78)).alloc (.cells #[.int .i64 u.key, .int .i64 u.value] 28)).alloc (.cells #[.int .i64 0, .slice none 0 0, .int .i64 0] 78)) = W := ⟨_, rfl⟩
  have H0 := Lib.hid (hW ▸ ((h.box (.cells #[.int .i64 x.id, .slice A n c, .int .i64 x.done] 78)).box (.cells #[.int .i64 u.key, .int .i64 u.value] 28)).box (.cells #[.int .i64 0, .slice none 0 0, .int .i64 0] 78))
  have E0 := Lib.hid (hW ▸ ((he.box (.cells #[.int .i64 x.id, .slice A n c, .int .i64 x.done] 78)).box (.cells #[.int .i64 u.key, .int .i64 u.value] 28)).box (.cells #[.int .i64 0, .slice none 0 0, .int .i64 0] 78))
  have K := Lib.hid (show Blk W w.heap.size #[.int .i64 x.id, .slice A n c, .int .i64 x.done] 78 ∧ Blk W (w.heap.size + 1) #[.int .i64 u.key, .int .i64 u.value] 28 ∧ Blk W (w.heap.size + 1 + 1) #[.int .i64 0, .slice none 0 0, .int .i64 0] 78 ∧ Below w.heap.size w W from by
    have a := ((((Blk.new w #[.int .i64 x.id, .slice A n c, .int .i64 x.done] 78).alloc (.cells #[.int .i64 u.key, .int .i64 u.value] 28)).alloc (.cells #[.int .i64 0, .slice none 0 0, .int .i64 0] 78)))
    have b := ((Blk.new (w.alloc (.cells #[.int .i64 x.id, .slice A n c, .int .i64 x.done] 78)) #[.int .i64 u.key, .int .i64 u.value] 28).alloc (.cells #[.int .i64 0, .slice none 0 0, .int .i64 0] 78))
    have d := (Blk.new ((w.alloc (.cells #[.int .i64 x.id, .slice A n c, .int .i64 x.done] 78)).alloc (.cells #[.int .i64 u.key, .int .i64 u.value] 28)) #[.int .i64 0, .slice none 0 0, .int .i64 0] 78)
    simp only [World.size_alloc] at a b d
    rw [hW] at a b d
    exact ⟨a, b, d, hW ▸ below_box (below_box (below_box (Below.refl _ _)))⟩)
  have HW := Lib.hid hW
  have HCk := Lib.hid (show ∀ (q : Nat) (os : Array Obj), Calls Mo.prog 107 #[.agg #[.int .i64 x.id, .slice A n c, .int .i64 x.done], .agg #[.int .i64 u.key, .int .i64 u.value]] (grow (redrawn W q) os) fun e w' => e = .returned (errOf a (takeM x u).isSome) ∧ Below (grow (redrawn W q) os).heap.size (grow (redrawn W q) os) w' from fun q os =>
    takeCheck_any a x u A n c _ (E0.out.below (below_regrown W q os)) (H0.out.on (below_regrown W q os)) hn)
  clear h he hW
  obtain ⟨x0, x1, x2⟩ : W.cell? ⟨w.heap.size, 0, none⟩ = some (.int .i64 x.id) ∧ W.cell? ⟨w.heap.size, 1, none⟩ = some (.slice A n c) ∧ W.cell? ⟨w.heap.size, 2, none⟩ = some (.int .i64 x.done) := ⟨K.out.1.cell (i := 0) rfl, K.out.1.cell (i := 1) rfl, K.out.1.cell (i := 2) rfl⟩
  obtain ⟨v0, v1⟩ : W.cell? ⟨w.heap.size + 1, 0, none⟩ = some (.int .i64 u.key) ∧ W.cell? ⟨w.heap.size + 1, 1, none⟩ = some (.int .i64 u.value) := ⟨K.out.2.1.cell (i := 0) rfl, K.out.2.1.cell (i := 1) rfl⟩
  have g0 := E0.out.1
  have X0 := Lib.hid x0
  have X1 := Lib.hid x1
  have X2 := Lib.hid x2
  have V0 := Lib.hid v0
  have V1 := Lib.hid v1
  have d0 := cell_regrown x0
  have d1 := cell_regrown x1
  have d2 := cell_regrown x2
  have d3 := cell_regrown v0
  have d4 := cell_regrown v1
  have d5 := cell_regrown g0
  clear x0 x1 x2 v0 v1 g0
  cases ht : takeM x u with
  | none =>
    have HC' := Lib.hid (show ∀ (q : Nat) (os : Array Obj), Calls Mo.prog 107 #[.agg #[.int .i64 x.id, .slice A n c, .int .i64 x.done], .agg #[.int .i64 u.key, .int .i64 u.value]] (grow (redrawn W q) os) fun e w' => e = .returned (.iface 210 (.pointer (some a))) ∧ Below (grow (redrawn W q) os).heap.size (grow (redrawn W q) os) w' from fun q os => by
      have := HCk.out q os
      rw [ht] at this
      exact this)
    clear HCk ht
    go_enter Mo.func86, Tryz.ntmps86
    go_wp2_with fail
    rw [HW.out]
    refine wp_region_quiet_below (by kernel_rfl) (by kernel_rfl) ?_
    repeat (go_big_quiet_step ((first | (go_at_call 107; exact Calls.regrown_of (HC'.out _ _)) | (go_at_call 106; exact Calls.regrown_of (is_same a _)))))
    refine wpQuiet_nil ?_
    intro w2 hw2
    have hb2 := below_of_regrown hw2
    have k2 := K.out.2.2.1.below hb2
    have FF := Lib.hid (res_three (a := .int .i64 0) (b := .slice none 0 0) (c := .int .i64 0) k2 (by omega) (K.out.2.2.2.trans (hb2.mono K.out.2.2.2.size)))
    obtain ⟨z0, z1, z2, y0, y1, y2⟩ := FF.out.1
    clear hw2 hb2 d0 d1 d2 d3 d4 d5 k2
    go_wp2
    exact bodyPost_ret (v := .tuple #[.agg #[.int .i64 0, .slice none 0 0, .int .i64 0], .bool false]) (by simp [results, Tryz.results86, go_sem, FF.out.2.1.1, FF.out.2.1.2.1, FF.out.2.1.2.2]) rfl (NodeRes.none_ FF.out.2.2.1)
  | some z =>
    have HC' := Lib.hid (show ∀ (q : Nat) (os : Array Obj), Calls Mo.prog 107 #[.agg #[.int .i64 x.id, .slice A n c, .int .i64 x.done], .agg #[.int .i64 u.key, .int .i64 u.value]] (grow (redrawn W q) os) fun e w' => e = .returned .nilIface ∧ Below (grow (redrawn W q) os).heap.size (grow (redrawn W q) os) w' from fun q os => by
      have := HCk.out q os
      rw [ht] at this
      exact this)
    obtain rfl : z = ⟨x.id, x.log ++ [u], x.done⟩ := by
      unfold takeM at ht
      split at ht
      · injection ht with ht; exact ht.symm
      · cases ht
    have hn12 : n ≤ 12 := by
      have h1 : (takeM x u).isSome = true := by rw [ht]; rfl
      rw [takeM_isSome] at h1
      simp only [Bool.and_eq_true] at h1
      have := nodeOk_log' h1.1.1
      unfold logOk at this
      simp only [Bool.and_eq_true, decide_eq_true_eq] at this
      have := this.1
      rw [HL.out] at this
      exact this
    have hpn : (x.log ++ [u]).length = n + 1 := by simp [HL.out]
    have HPN := Lib.hid hpn
    clear HCk ht hpn
    go_enter Mo.func86, Tryz.ntmps86
    go_wp2_with fail
    rw [HW.out]
    refine wp_region_quiet_below (by kernel_rfl) (by kernel_rfl) ?_
    repeat (go_big_quiet_step ((first | (go_at_call 107; exact Calls.regrown_of (HC'.out _ _)) | (go_at_call 106; exact Calls.regrown_of (is_nil a _)))))
    refine wpQuiet_nil ?_
    intro w2 hw2
    have hb2 := below_of_regrown hw2
    have K1' := Lib.hid (K.out.2.1.below hb2)
    have K2' := Lib.hid (K.out.2.2.1.below hb2)
    have B2 := Lib.hid (K.out.2.2.2.trans (hb2.mono K.out.2.2.2.size))
    have F2 := Lib.hid (H0.out.on hb2)
    have a0 := (K.out.1.below hb2).cell (i := 0) (v := .int .i64 x.id) rfl
    have a1 := (K.out.1.below hb2).cell (i := 1) (v := .slice A n c) rfl
    have a2 := (K.out.1.below hb2).cell (i := 2) (v := .int .i64 x.done) rfl
    have hs2 := B2.out.size
    clear hw2 hb2 d0 d1 d2 d3 d4 d5
    go_wp2_with fail
    refine (copyNode_any x A n c _ F2.out hn).mono ?_
    rintro e w3 ⟨g3, rfl, hown3, hb3⟩
    obtain ⟨w4, hw4⟩ : ∃ w4 : World, w3.alloc (.cells #[.int .i64 x.id, .slice (some ⟨g3, 0, none⟩) n n, .int .i64 x.done] 78) = w4 := ⟨_, rfl⟩
    have nb := Blk.new w3 #[.int .i64 x.id, .slice (some ⟨g3, 0, none⟩) n n, .int .i64 x.done] 78
    have O4 := (hown3.mono hs2).alloc (.cells #[.int .i64 x.id, .slice (some ⟨g3, 0, none⟩) n n, .int .i64 x.done] 78)
    have B4 := (B2.out.trans (hb3.mono hs2)).alloc (B2.out.trans (hb3.mono hs2)).size (.cells #[.int .i64 x.id, .slice (some ⟨g3, 0, none⟩) n n, .int .i64 x.done] 78)
    have K14 := (K1'.out.below hb3).alloc (.cells #[.int .i64 x.id, .slice (some ⟨g3, 0, none⟩) n n, .int .i64 x.done] 78)
    have K24 := (K2'.out.below hb3).alloc (.cells #[.int .i64 x.id, .slice (some ⟨g3, 0, none⟩) n n, .int .i64 x.done] 78)
    rw [hw4] at nb O4 B4 K14 K24
    have v1 := nb.cell (i := 1) (v := .slice (some ⟨g3, 0, none⟩) n n) rfl
    have u0 := K14.cell (i := 0) (v := .int .i64 u.key) rfl
    have u1 := K14.cell (i := 1) (v := .int .i64 u.value) rfl
    have NB := Lib.hid nb
    have HO4 := Lib.hid O4
    have HB4 := Lib.hid B4
    have HK24 := Lib.hid K24
    have hs3 : w.heap.size ≤ w3.heap.size := Nat.le_trans hs2 hb3.size
    have hs23 := hb3.size
    have hs22 := K2'.out.lt
    have hs4 : w3.heap.size < w4.heap.size := nb.lt
    clear a0 a1 a2 hown3 hb3 nb O4 B4 K14 K24
    go_wp2_with (at_builtin; go_loud (refine wpList_append_src _ rfl (.tmp 16) (.tmp 18) 76 rfl w.heap.size 28 i0 _ 2 16 Mo.underlying76 hi hz0 hz1 hz2 rfl (by omega) (.slice (some ⟨g3, 0, none⟩) n n) n (x.log.flatMap Upd.enc) rfl (HO4.out.alloc _) (some ⟨_, 0, none⟩) 1 1 u.enc rfl (src_row _ #[.int .i64 u.key, .int .i64 u.value] 28 2 _ rfl rfl) (Upd.one u) (by unfold maxLen; omega) (by omega) (by simp; omega) ?_; intro v6 w6 hown6 hg6; rw [show x.log.flatMap Upd.enc ++ u.enc = (x.log ++ [u]).flatMap Upd.enc by simp] at hown6; obtain ⟨A6, c6, rfl, _⟩ := own_flat Upd.len hown6 HPN.out; have nb6 := (NB.out.alloc _).grown hg6 (fun e => by obtain ⟨ds, hd⟩ := own_blk HO4.out e.symm; exact absurd (blk_type NB.out hd) (by decide)); have rb6 := (HK24.out.alloc _).grown hg6 (fun e => by obtain ⟨ds, hd⟩ := own_blk HO4.out e.symm; exact absurd (blk_type HK24.out hd) (by decide)); have B6 := (HB4.out.alloc HB4.out.size (.cells #[.int .i64 u.key, .int .i64 u.value] 28)).grown hg6 (by simp; omega) (fun k e => (HO4.out.lt k e).1); have t1 := nb6.cell (i := 1) (v := .slice (some ⟨g3, 0, none⟩) n n) rfl; have f1 := nb6.free 1; have nb7 := nb6.set 1 (.slice A6 (n + 1) c6); have rb7 := rb6.far (a := ⟨w3.heap.size, 1, none⟩) (by show w.heap.size + 1 + 1 ≠ w3.heap.size; omega) (.slice A6 (n + 1) c6); have B7 := B6.setCell (p := ⟨w3.heap.size, 1, none⟩) hs3 (.slice A6 (n + 1) c6); have O7 := own_keep hown6 (W' := w6.setCell ⟨w3.heap.size, 1, none⟩ (.slice A6 (n + 1) c6)) (fun g e => Below.heap_setCell _ _ _ _ (by rintro rfl; obtain ⟨ds, hd⟩ := own_blk hown6 e; exact absurd (blk_type hd nb6) (by decide))); obtain ⟨w7, hw7⟩ : ∃ w7 : World, w6.setCell ⟨w3.heap.size, 1, none⟩ (.slice A6 (n + 1) c6) = w7 := ⟨_, rfl⟩; rw [hw7] at nb7 rb7 B7 O7; have r0 := nb7.cell (i := 0) (v := .int .i64 x.id) rfl; have r1 := nb7.cell (i := 1) (v := .slice A6 (n + 1) c6) rfl; have r2 := nb7.cell (i := 2) (v := .int .i64 x.done) rfl; have FF := Lib.hid (res_three (a := .int .i64 x.id) (b := .slice A6 (n + 1) c6) (c := .int .i64 x.done) rb7 (show w.heap.size ≤ w.heap.size + 1 + 1 by omega) B7); obtain ⟨z0, z1, z2, y0, y1, y2⟩ := FF.out.1; have HO7 := Lib.hid O7; clear hown6 hg6 nb6 rb6 B6 nb7 rb7 B7 O7))
    exact bodyPost_ret (v := .tuple #[.agg #[.int .i64 x.id, .slice A6 (n + 1) c6, .int .i64 x.done], .bool true]) (by simp [results, Tryz.results86, go_sem, FF.out.2.1.1, FF.out.2.1.2.1, FF.out.2.1.2.2]) rfl ⟨⟨x.id, x.log ++ [u], x.done⟩, A6, n + 1, c6, rfl, rfl, HPN.out, FF.out.2.2.2 HO7.out, FF.out.2.2.1⟩
end Go.Proofs.YtemgilofjbnoaaaGreatDoor
namespace Go.Proofs.YtemgilofjbnoaaaGreatDoor
open Go.RowKit Go.Sort
set_option maxRecDepth 100000 in
set_option maxHeartbeats 8000000 in
theorem chainWrite_any (a : Addr) (view : Int) (A : Option Addr) (n c : Nat) (l : List Nod) (u : Upd) (w : World) (he : ErrAt a w) (h : Nods w 0 w.heap.size A n c l) (hn : n ≤ 1048576) (hlog : ∀ x ∈ l, x.log.length ≤ 1048576) :
    Calls Mo.prog 58 #[.agg #[.int .i64 view, .slice A n c], .agg #[.int .i64 u.key, .int .i64 u.value]] w (ChainRes w (writeM view l u)) := by
  have HL := Lib.hid h.len
  have HG := Lib.hid hlog
  have H := Lib.hid h
  have F0' := Lib.hid (((h.box (.cells #[.int .i64 view, .slice A n c] 25)).box (.cells #[.int .i64 u.key, .int .i64 u.value] 28)).box (.cells #[.int .i64 0, .slice none 0 0] 25))
  cases hok : chainOk view l
  · have HO := Lib.hid hok
    have e0 := writeM_bad (u := u) hok
    rw [e0]
    clear hok e0 h hlog he
    go_enter Mo.func58, Tryz.ntmps58
    go_wp2_with fail
    refine (chainValid_any view A n c l _ F0'.out hn HG.out).mono ?_
    rintro e w1 ⟨rfl, hb1⟩
    rw [HO.out]
    obtain ⟨_, _, k2, b1⟩ := write_start hb1
    have FF := Lib.hid (res_two (a := .int .i64 0) (b := .slice none 0 0) k2 (show w.heap.size ≤ w.heap.size + 1 + 1 by omega) b1)
    obtain ⟨z0, z1, y0, y1⟩ := FF.out.1
    clear hb1 k2 b1
    go_wp2
    exact bodyPost_ret (v := .tuple #[.agg #[.int .i64 0, .slice none 0 0], .bool false]) (by simp [results, Tryz.results58, go_sem, FF.out.2.1.1, FF.out.2.1.2]) rfl (ChainRes.none_ FF.out.2.2)
  have HOK := Lib.hid hok
  obtain ⟨y, hy⟩ : ∃ y, l[0]? = some y := ⟨_, List.getElem?_eq_getElem (by have := (good_iff.1 hok).2.2.1; omega)⟩
  rw [writeM_at (u := u) hok hy]
  have hk : 0 < n := by have := (List.getElem?_eq_some_iff.1 hy).1; have := h.len; omega
  obtain ⟨b, off, y', A2, m2, q2, rfl, _, hb, hy', c0, c1, c2, hf2⟩ := h.nod hk
  obtain rfl : y = y' := by rw [hy] at hy'; injection hy'
  simp only [Nat.zero_mul, Nat.add_zero] at c0 c1 c2
  have hm2 : m2 ≤ 1048576 := by have := hlog y (List.mem_of_getElem? hy); rw [hf2.len] at this; exact this
  have HY := Lib.hid hy
  have HE := Lib.hid he
  have i1 : (0 : Int) < (n : Int) := by omega
  obtain ⟨o, ho⟩ : ∃ o, takeM y u = o := ⟨_, rfl⟩
  have HO := Lib.hid ho
  clear h hlog hy hy' ho he hok
  go_enter Mo.func58, Tryz.ntmps58
  go_wp2_with fail
  refine (chainValid_any view _ n c l _ F0'.out hn HG.out).mono ?_
  rintro e w0 ⟨rfl, hb0⟩
  rw [HOK.out]
  obtain ⟨k0, k1, k2, b0⟩ := write_start hb0
  have K0 := Lib.hid k0
  have K1 := Lib.hid k1
  have K2 := Lib.hid k2
  have W0B := Lib.hid b0
  have d1 := k0.cell (i := 1) (v := .slice (some ⟨b, off, none⟩) n c) rfl
  have u0 := k1.cell (i := 0) (v := .int .i64 u.key) rfl
  have u1 := k1.cell (i := 1) (v := .int .i64 u.value) rfl
  have v0 := (W0B.out.cell (p := ⟨b, _, none⟩) hb).trans c0
  have v1 := (W0B.out.cell (p := ⟨b, _, none⟩) hb).trans c1
  have v2 := (W0B.out.cell (p := ⟨b, _, none⟩) hb).trans c2
  have F0 := Lib.hid (hf2.on W0B.out)
  have E0 := Lib.hid (HE.out.below W0B.out)
  have hs0a : w.heap.size + 1 + 1 < w0.heap.size := k2.lt
  clear hb0 k0 k1 k2 b0 c0 c1 c2 hf2
  go_upto_region 3 with fail
  go_cut [6, 7] from 13 to 22 (fun s8 s9 wx => ∃ (gn : Nat) (z : Nod) (Az : Option Addr) (mz cz : Nat), s8 = .pointer (some ⟨gn, 0, none⟩) ∧ s9 = .bool o.isSome ∧ Hid (z = o.getD ⟨0, [], 0⟩) ∧ Blk wx gn #[.int .i64 z.id, .slice Az mz cz, .int .i64 z.done] 78 ∧ w0.heap.size ≤ gn ∧ z.log.length = mz ∧
    wx.ownsRow w.heap.size 28 2 (.slice Az mz cz) mz (z.log.flatMap Upd.enc) ∧ Below w0.heap.size w0 wx)
  case first =>
    have FD := Lib.hid (show Flat Upd.enc 2 w0.drew 0 w0.drew.heap.size A2 m2 q2 y.log from F0.out.below (Below.refl w0.heap.size w0).drew (Nat.le_refl _))
    have FE := Lib.hid ((F0.out.box (.cells #[.int .i64 0, .slice none 0 0, .int .i64 0] 78)).below (Below.refl _ _).drew (Nat.le_refl _))
    have ED := Lib.hid (show ErrAt a w0.drew from ⟨E0.out.1, E0.out.2⟩)
    have EE := Lib.hid (show ErrAt a (w0.alloc (.cells #[.int .i64 0, .slice none 0 0, .int .i64 0] 78)).drew from ⟨(E0.out.box _).1, (E0.out.box _).2⟩)
    have DD := Lib.hid (show Calls Mo.prog 86 #[.agg #[.int .i64 y.id, .slice A2 m2 q2, .int .i64 y.done], .agg #[.int .i64 u.key, .int .i64 u.value]] w0.drew (NodeRes w0.drew o) by rw [← HO.out]; exact nodeTake_any a y u A2 m2 q2 _ ED.out FD.out hm2)
    have DE := Lib.hid (show Calls Mo.prog 86 #[.agg #[.int .i64 y.id, .slice A2 m2 q2, .int .i64 y.done], .agg #[.int .i64 u.key, .int .i64 u.value]] (w0.alloc (.cells #[.int .i64 0, .slice none 0 0, .int .i64 0] 78)).drew (NodeRes (w0.alloc (.cells #[.int .i64 0, .slice none 0 0, .int .i64 0] 78)).drew o) by rw [← HO.out]; exact nodeTake_any a y u A2 m2 q2 _ EE.out FE.out hm2)
    have NB := Lib.hid (Blk.new w0 #[.int .i64 0, .slice none 0 0, .int .i64 0] 78).drew
    have BA := Lib.hid (show Below w0.heap.size w0 (w0.alloc (.cells #[.int .i64 0, .slice none 0 0, .int .i64 0] 78)).drew from ((Below.refl _ _).alloc (Nat.le_refl _) _).drew)
    have BD := Lib.hid (show Below w0.heap.size w0 w0.drew from (Below.refl _ _).drew)
    have hbw0 : b < w0.heap.size := by omega
    have l0 : w.heap.size < w0.heap.size := by omega
    have l1 : w.heap.size + 1 < w0.heap.size := by omega
    have e1 : b ≠ w0.heap.size := by omega
    have e2 : w.heap.size ≠ w0.heap.size := by omega
    have e3 : w.heap.size + 1 ≠ w0.heap.size := by omega
    have e4 : w0.heap.size ≠ b := by omega
    have e5 : w0.heap.size ≠ w.heap.size := by omega
    have e6 : w0.heap.size ≠ w.heap.size + 1 := by omega
    go_region_held3 (fun V => V.cell? ⟨w.heap.size, 1, none⟩ = some (.slice (some ⟨b, off, none⟩) n c) ∧ V.cell? ⟨b, off, none⟩ = some (.int .i64 y.id) ∧ V.cell? ⟨b, off + 1, none⟩ = some (.slice A2 m2 q2) ∧ V.cell? ⟨b, off + 2, none⟩ = some (.int .i64 y.done) ∧ V.cell? ⟨w.heap.size + 1, 0, none⟩ = some (.int .i64 u.key) ∧ V.cell? ⟨w.heap.size + 1, 1, none⟩ = some (.int .i64 u.value)) (go_keep) ((first
      | (go_at_call 86; (with_reducible refine DE.out.mono ?_); rintro e w4 ⟨z, Az, mz, cz, hz, rfl, hzl, hown4, hb4⟩; have O4 := Lib.hid hown4; have HZ := Lib.hid hz; have HZL := Lib.hid hzl; have HB4 := Lib.hid (BA.out.trans (hb4.mono (by simp))); have a1 := (HB4.out.cell (p := ⟨w.heap.size, 1, none⟩) l0).trans d1; have a2 := (HB4.out.cell (p := ⟨b, off, none⟩) hbw0).trans v0; have a3 := (HB4.out.cell (p := ⟨b, off + 1, none⟩) hbw0).trans v1; have a4 := (HB4.out.cell (p := ⟨b, off + 2, none⟩) hbw0).trans v2; have a5 := (HB4.out.cell (p := ⟨w.heap.size + 1, 0, none⟩) l1).trans u0; have a6 := (HB4.out.cell (p := ⟨w.heap.size + 1, 1, none⟩) l1).trans u1; have kk := NB.out.below hb4; have n0 := kk.cell (i := 0) (v := .int .i64 0) rfl; have n1 := kk.cell (i := 1) (v := .slice none 0 0) rfl; have n2 := kk.cell (i := 2) (v := .int .i64 0) rfl; have fz0 := kk.free 0; have fz1 := kk.free 1; have fz2 := kk.free 2; have KK := Lib.hid kk; have tag := FE; clear hown4 hb4 kk hz hzl)
      | (go_at_call 86; (with_reducible refine DD.out.mono ?_); rintro e w4 ⟨z, Az, mz, cz, hz, rfl, hzl, hown4, hb4⟩; have O4 := Lib.hid hown4; have HZ := Lib.hid hz; have HZL := Lib.hid hzl; have HB4 := Lib.hid (BD.out.trans (hb4.mono (by simp))); have a1 := (HB4.out.cell (p := ⟨w.heap.size, 1, none⟩) l0).trans d1; have a2 := (HB4.out.cell (p := ⟨b, off, none⟩) hbw0).trans v0; have a3 := (HB4.out.cell (p := ⟨b, off + 1, none⟩) hbw0).trans v1; have a4 := (HB4.out.cell (p := ⟨b, off + 2, none⟩) hbw0).trans v2; have a5 := (HB4.out.cell (p := ⟨w.heap.size + 1, 0, none⟩) l1).trans u0; have a6 := (HB4.out.cell (p := ⟨w.heap.size + 1, 1, none⟩) l1).trans u1; have s4 := HB4.out.size; have g1 : b < w4.heap.size := (by omega); have g2 : w.heap.size < w4.heap.size := (by omega); have g3 : w.heap.size + 1 < w4.heap.size := (by omega); clear hown4 hb4 hz hzl)))
    all_goals
      go_wp2_with fail
      go_meet
      case rel =>
        have ho4 := O4.out
        simp only [World.size_drew, World.size_alloc] at ho4
        first
          | exact ⟨w4.heap.size, z, Az, mz, cz, rfl, rfl, HZ.out, Blk.new w4 _ _, HB4.out.size, HZL.out, own_keep (ho4.mono (by omega)) (fun q hq => Below.heap_alloc _ _ _ (ho4.lt q hq).2), HB4.out.alloc HB4.out.size _⟩
          | exact ⟨w0.heap.size, z, Az, mz, cz, rfl, rfl, HZ.out, ((KK.out.set 0 _).set 1 _).set 2 _, Nat.le_refl _, HZL.out, own_keep (ho4.mono (by omega)) (fun q hq => by
              have hne : q ≠ w0.heap.size := by have := (ho4.lt q hq).1; omega
              rw [Below.heap_setCell _ _ _ _ hne, Below.heap_setCell _ _ _ _ hne, Below.heap_setCell _ _ _ _ hne]),
              ((HB4.out.setCell (p := ⟨w0.heap.size, 0, none⟩) (Nat.le_refl _) _).setCell (p := ⟨w0.heap.size, 1, none⟩) (Nat.le_refl _) _).setCell (p := ⟨w0.heap.size, 2, none⟩) (Nat.le_refl _) _⟩
  case rest =>
    obtain ⟨gn, z, Az, mz, cz, rfl, rfl, HZ, hnb, hgn, hzl, hown, hbel⟩ := hcut
    obtain ⟨w5, rfl⟩ : ∃ w5 : World, w5 = wc := ⟨_, rfl⟩
    have B5 := Lib.hid (W0B.out.trans (hbel.mono W0B.out.size))
    clear d1 u0 u1 v0 v1 v2
    cases o with
    | none =>
      have HT := Lib.hid (show takeAtM view l 0 y u = none by unfold takeAtM; rw [HO.out]; rfl)
      have FF := Lib.hid (res_two (a := .int .i64 0) (b := .slice none 0 0) (K2.out.below hbel) (show w.heap.size ≤ w.heap.size + 1 + 1 by omega) B5.out)
      obtain ⟨z0, z1, y0, y1⟩ := FF.out.1
      clear hnb hown hbel
      go_wp2
      exact bodyPost_ret (v := .tuple #[.agg #[.int .i64 0, .slice none 0 0], .bool false]) (by simp [results, Tryz.results58, go_sem, FF.out.2.1.1, FF.out.2.1.2]) rfl (by rw [HT.out]; exact ChainRes.none_ FF.out.2.2)
    | some zz =>
      obtain rfl : z = zz := HZ.out
      have HT := Lib.hid (show takeAtM view l 0 y u = some (view, l.set 0 (if n = 1 then ⟨z.id, z.log, (z.log.length : Nat)⟩ else z)) by unfold takeAtM; rw [HO.out, HL.out, Option.map_some]; by_cases hh : n = 1; { rw [if_pos hh, if_pos (by omega)] }; { rw [if_neg hh, if_neg (by omega)] })
      have e1 := (K0.out.below hbel).cell (i := 1) (v := .slice (some ⟨b, off, none⟩) n c) rfl
      have n1 := hnb.cell (i := 1) (v := .slice Az mz cz) rfl
      have n2 := hnb.cell (i := 2) (v := .int .i64 z.done) rfl
      have f2 := hnb.free 2
      have NB := Lib.hid hnb
      have OW := Lib.hid hown
      have BL := Lib.hid hbel
      have HZL := Lib.hid hzl
      clear hnb hown hbel hzl
      go_upto_if 28 with fail
      go_cut [6] from 29 to 33 (fun s8 wx => s8 = .pointer (some ⟨gn, 0, none⟩) ∧ Blk wx gn #[.int .i64 z.id, .slice Az mz cz, .int .i64 (if n = 1 then (mz : Int) else z.done)] 78 ∧
        Hid (wx.ownsRow w.heap.size 28 2 (.slice Az mz cz) mz (z.log.flatMap Upd.enc)) ∧ Below w0.heap.size w0 wx)
      case first =>
        by_cases ht : n = 1
        · have hq : ((n : Int) == 1) = true := by simp [ht]
          go_wp2_with fail
          go_meet
          case rel =>
            rw [if_pos ht]
            exact ⟨rfl, NB.out.set 2 _, own_keep OW.out (fun q hq => Below.heap_setCell _ _ _ _ (by
              rintro rfl
              obtain ⟨ds, hd⟩ := own_blk OW.out hq
              exact absurd (blk_type hd NB.out) (by decide))), BL.out.setCell (p := ⟨gn, 2, none⟩) hgn _⟩
        · have hq : ((n : Int) == 1) = false := by simp; omega
          go_wp2_with fail
          go_meet
          case rel =>
            rw [if_neg ht]
            exact ⟨rfl, NB.out, OW.out, BL.out⟩
      case rest =>
        obtain ⟨rfl, hnb6, hown6, hb6⟩ := hcut
        obtain ⟨w6, rfl⟩ : ∃ w6 : World, w6 = wc := ⟨_, rfl⟩
        obtain ⟨dn, hdn⟩ : ∃ dn : Int, (if n = 1 then (mz : Int) else z.done) = dn := ⟨_, rfl⟩
        rw [hdn] at hnb6
        have HZ' := Lib.hid (show takeAtM view l 0 y u = some (view, l.set 0 ⟨z.id, z.log, dn⟩) by
          rw [HT.out, ← hdn]
          split
          · rw [HZL.out]
          · rfl)
        have B6 := Lib.hid (W0B.out.trans (hb6.mono W0B.out.size))
        have F6 := Lib.hid (H.out.on B6.out)
        have KK0 := K0.out.below hb6
        have KK2 := Lib.hid (K2.out.below hb6)
        have e0 := KK0.cell (i := 0) (v := .int .i64 view) rfl
        have e1' := KK0.cell (i := 1) (v := .slice (some ⟨b, off, none⟩) n c) rfl
        have NB6 := Lib.hid hnb6
        have s6 := B6.out.size
        have hgn6 : gn < w6.heap.size := hnb6.lt
        clear hnb6 hb6 KK0 e1 n1 n2 f2 hdn
        go_wp2_with fail
        refine (copyChain_any view _ n c l _ F6.out hn HG.out).mono ?_
        rintro e w7 ⟨A7, n7, c7, rfl, hl7, hrow7, hb7⟩
        obtain rfl : n7 = n := by rw [← hl7]; exact HL.out
        obtain ⟨g, c4, e4, hg1, hg2, _⟩ := hrow7.form (by omega)
        injection e4 with e4 e6 e5
        subst e4; subst e5; clear e6
        have hKK2 := KK2.out.lt
        have cb := CB.made (view := view) (B6.out.trans (hb7.mono s6)) (hrow7.lower s6) (Oth.cons (Oth.nil _ _) (KK2.out.below hb7) (by have := hb7.size; omega) (by decide))
        have NB8 := (NB6.out.below hb7).alloc (.cells #[.int .i64 view, .slice (some ⟨g, 0, none⟩) n7 c7] 25)
        have R8 := (hrow7.keep (w' := w7.alloc (.cells #[.int .i64 view, .slice (some ⟨g, 0, none⟩) n7 c7] 25)) (fun _ _ h => Below.heap_alloc _ _ _ h)).mono (show w7.heap.size ≤ (w7.alloc (.cells #[.int .i64 view, .slice (some ⟨g, 0, none⟩) n7 c7] 25)).heap.size by simp)
        have O8 : (w7.alloc (.cells #[.int .i64 view, .slice (some ⟨g, 0, none⟩) n7 c7] 25)).ownsRow w.heap.size 28 2 (.slice Az mz cz) mz (z.log.flatMap Upd.enc) :=
          (own_keep hown6 (fun q hq => hb7.block q (hown6.lt q hq).2)).alloc _
        obtain ⟨w8, hw8⟩ : ∃ w8 : World, w7.alloc (.cells #[.int .i64 view, .slice (some ⟨g, 0, none⟩) n7 c7] 25) = w8 := ⟨_, rfl⟩
        rw [hw8] at cb NB8 R8 O8
        have R9 := R8.setNod (z := ⟨z.id, z.log, dn⟩) HY.out O8 HZL.out (fun q hq => .inl (hown6.lt q hq).2) s6 (Nat.le_refl _)
        have cb9 := cb.raise.setNod R9
        obtain ⟨_, _, _, _, _, _, _, _, _, _, fr8⟩ := R8.at_ (k := 0) (by have := HL.out; omega)
        have x0 := fr8 (0)
        have x1 := fr8 (1)
        have x2 := fr8 (2)
        obtain ⟨ds8, hds8⟩ : ∃ cs, w8.heap[g]? = some (.cells cs 78 (0, 0)) := by obtain ⟨rs, ho, _⟩ := R8; exact own_blk ho rfl
        obtain ⟨p0, p1, p2⟩ : (∃ v, w8.cell? ⟨g, 0, none⟩ = some v) ∧ (∃ v, w8.cell? ⟨g, 1, none⟩ = some v) ∧ (∃ v, w8.cell? ⟨g, 2, none⟩ = some v) := by
          obtain ⟨_, _, _, _, _, a, b, c, _⟩ := R8.at_ (k := 0) (by have := HL.out; omega)
          exact ⟨⟨_, a⟩, ⟨_, b⟩, ⟨_, c⟩⟩
        obtain ⟨pv0, p0⟩ := p0
        obtain ⟨pv1, p1⟩ := p1
        obtain ⟨pv2, p2⟩ := p2
        have t1 := cb.chn.cell (i := 1) (v := .slice (some ⟨g, 0, none⟩) n7 c7) rfl
        have m0 := NB8.cell (i := 0) (v := .int .i64 z.id) rfl
        have m1 := NB8.cell (i := 1) (v := .slice Az mz cz) rfl
        have m2' := NB8.cell (i := 2) (v := .int .i64 dn) rfl
        obtain ⟨w9, hw9⟩ : ∃ w9 : World, ((w8.setCell ⟨g, 0, none⟩ (.int .i64 z.id)).setCell ⟨g, 1, none⟩ (.slice Az mz cz)).setCell ⟨g, 2, none⟩ (.int .i64 dn) = w9 := ⟨_, rfl⟩
        rw [show ((w8.setCell ⟨g, 0, none⟩ (.int .i64 (⟨z.id, z.log, dn⟩ : Nod).id)).setCell ⟨g, 1, none⟩ (.slice Az mz cz)).setCell ⟨g, 2, none⟩ (.int .i64 (⟨z.id, z.log, dn⟩ : Nod).done) = w9 from hw9] at cb9
        have r0 := cb9.chn.cell (i := 0) (v := .int .i64 view) rfl
        have r1 := cb9.chn.cell (i := 1) (v := .slice (some ⟨g, 0, none⟩) n7 c7) rfl
        have FF := Lib.hid (res_two (a := .int .i64 view) (b := .slice (some ⟨g, 0, none⟩) n7 c7) (cb9.blk (List.mem_singleton.2 rfl)) (show w.heap.size ≤ w.heap.size + 1 + 1 by omega) cb9.bel)
        have NN := Lib.hid (cb9.out (u := .int .i64 view) (v := .slice (some ⟨g, 0, none⟩) n7 c7) (cb9.blk (List.mem_singleton.2 rfl)) (show w.heap.size ≤ w.heap.size + 1 + 1 by omega))
        obtain ⟨z0, z1, y0, y1⟩ := FF.out.1
        clear cb NB8 R8 O8 R9 cb9 fr8 hds8 hrow7 hb7 e0 e1' hown6
        go_wp2
        exact bodyPost_ret (v := .tuple #[.agg #[.int .i64 view, .slice (some ⟨g, 0, none⟩) n7 c7], .bool true]) (by simp [results, Tryz.results58, go_sem, FF.out.2.1.1, FF.out.2.1.2]) rfl (by rw [HZ'.out]; exact ChainRes.has (by rw [List.length_set]; exact hl7) NN.out.1 NN.out.2)
end Go.Proofs.YtemgilofjbnoaaaGreatDoor
namespace Go.Proofs.YtemgilofjbnoaaaGreatDoor
open Go.RowKit Go.Sort
set_option maxRecDepth 100000 in
set_option maxHeartbeats 4000000 in
theorem chainPut_any (a : Addr) (view : Int) (A : Option Addr) (n c : Nat) (l : List Nod) (u : Upd) (w : World) (he : ErrAt a w) (h : Nods w 0 w.heap.size A n c l) (hn : n ≤ 1048576) (hlog : ∀ x ∈ l, x.log.length ≤ 1048576) :
    Calls Mo.prog 28 #[.agg #[.int .i64 view, .slice A n c], .agg #[.int .i64 u.key, .int .i64 u.value]] w (ChainRes w (putM view l u)) := by
  have F0 := ((h.box (.cells #[.int .i64 view, .slice A n c] 25)).box (.cells #[.int .i64 u.key, .int .i64 u.value] 28)).box (.cells #[.int .i64 0, .slice none 0 0] 25)
  have E0 := ((he.box (.cells #[.int .i64 view, .slice A n c] 25)).box (.cells #[.int .i64 u.key, .int .i64 u.value] 28)).box (.cells #[.int .i64 0, .slice none 0 0] 25)
  obtain ⟨w0, hw0⟩ : ∃ w0 : World, ((w.alloc (.cells #[.int .i64 view, .slice A n c] 25)).alloc (.cells #[.int .i64 u.key, .int .i64 u.value] 28)).alloc (.cells #[.int .i64 0, .slice none 0 0] 25) = w0 := ⟨_, rfl⟩
  have T := chainWrite_any a view A n c l u (((w.alloc (.cells #[.int .i64 view, .slice A n c] 25)).alloc (.cells #[.int .i64 u.key, .int .i64 u.value] 28)).alloc (.cells #[.int .i64 0, .slice none 0 0] 25)) E0 F0 hn hlog
  obtain ⟨k0, k1, k2, b0⟩ := write_start (Below.refl _ (((w.alloc (.cells #[.int .i64 view, .slice A n c] 25)).alloc (.cells #[.int .i64 u.key, .int .i64 u.value] 28)).alloc (.cells #[.int .i64 0, .slice none 0 0] 25)))
  rw [hw0] at k0 k1 k2 b0 T
  have K2 := Lib.hid k2
  have B0 := Lib.hid b0
  have a0 := k0.cell (i := 0) (v := .int .i64 view) rfl
  have a1 := k0.cell (i := 1) (v := .slice A n c) rfl
  have u0 := k1.cell (i := 0) (v := .int .i64 u.key) rfl
  have u1 := k1.cell (i := 1) (v := .int .i64 u.value) rfl
  clear F0 h hlog k0 k1 k2 b0 E0 he 
  cases hw : writeM view l u with
  | none =>
    rw [hw] at T
    have HT := Lib.hid T
    have HP := Lib.hid (show putM view l u = none by unfold putM; rw [hw]; rfl)
    clear hw T
    go_enter Mo.func28, Tryz.ntmps28
    go_wp2_with fail
    refine HT.out.mono ?_
    rintro e w1 ⟨v1, A1, n1, c1, l1, hv1, rfl, hl1, hr1, hb1⟩
    have k2 := K2.out.below hb1
    have b1 := B0.out.trans (hb1.mono B0.out.size)
    have FF := Lib.hid (res_two (a := .int .i64 0) (b := .slice none 0 0) (k2.alloc (.cells #[.int .i64 v1, .slice A1 n1 c1] 25)) (show w.heap.size ≤ w.heap.size + 1 + 1 by omega) (b1.alloc b1.size _))
    obtain ⟨z0, z1, y0, y1⟩ := FF.out.1
    clear hb1 hr1 k2 b1 hv1 a0 a1 u0 u1
    go_wp2
    exact bodyPost_ret (v := .tuple #[.agg #[.int .i64 0, .slice none 0 0], .bool false]) (by simp [results, Tryz.results28, go_sem, FF.out.2.1.1, FF.out.2.1.2]) rfl (by rw [HP.out]; exact ChainRes.none_ FF.out.2.2)
  | some d =>
    rw [hw] at T
    have HT := Lib.hid T
    have HP := Lib.hid (show putM view l u = some (settleM d.1 d.2).1 by unfold putM; rw [hw]; rfl)
    have HG := Lib.hid (good_write hw)
    clear hw T
    obtain ⟨v1, l1⟩ := d
    go_enter Mo.func28, Tryz.ntmps28
    go_wp2_with fail
    refine HT.out.mono ?_
    rintro e w1 ⟨v1', A1, n1, c1, l1', hv1, rfl, hl1, hr1, hb1⟩
    injection hv1 with e1 e2
    subst e1; subst e2
    have hn5 : n1 ≤ 5 := by have h5 : l1'.length ≤ 5 := HG.out.2.2.2.1; omega
    have N1 := hr1.nods'.2
    have F1 := Lib.hid ((N1.mono (Nat.zero_le _) (Nat.le_refl _)).box (.cells #[.int .i64 v1', .slice A1 n1 c1] 25))
    have B1 := Lib.hid (B0.out.trans (hb1.mono B0.out.size))
    have K21 := Lib.hid (K2.out.below hb1)
    have k4 := Blk.new w1 #[.int .i64 v1', .slice A1 n1 c1] 25
    have a4 := k4.cell (i := 0) (v := .int .i64 v1') rfl
    have a5 := k4.cell (i := 1) (v := .slice A1 n1 c1) rfl
    have ht1 : (some (v1', l1') : Option (Int × List Nod)).isSome = true := rfl
    clear hb1 hr1 N1 a0 a1 u0 u1 k4
    go_wp2_with fail
    refine (chainSettle_any v1' A1 n1 c1 l1' _ F1.out (by omega) (good_logs HG.out)).mono ?_
    rintro e w2 ⟨v2, A2, n2, c2, l2, hv2, rfl, hl2, hr2, hb2⟩
    have HV := Lib.hid hv2
    have b2 := below_box hb2
    have k2 := (K21.out.alloc (.cells #[.int .i64 v1', .slice A1 n1 c1] 25)).below hb2
    have B2 := B1.out.trans (b2.mono B1.out.size)
    have k5 := Blk.new w2 #[.int .i64 v2, .slice A2 n2 c2] 25
    have a6 := k5.cell (i := 0) (v := .int .i64 v2) rfl
    have a7 := k5.cell (i := 1) (v := .slice A2 n2 c2) rfl
    have r3 := (hr2.lower (show w.heap.size ≤ (w1.alloc (.cells #[.int .i64 v1', .slice A1 n1 c1] 25)).heap.size by have := B1.out.size; simp; omega)).keep (w' := w2.alloc (.cells #[.int .i64 v2, .slice A2 n2 c2] 25)) (fun _ _ h => Below.heap_alloc _ _ _ h)
    have FF := Lib.hid (res_two (a := .int .i64 v2) (b := .slice A2 n2 c2) (k2.alloc (.cells #[.int .i64 v2, .slice A2 n2 c2] 25)) (show w.heap.size ≤ w.heap.size + 1 + 1 by omega) (B2.alloc B2.size _))
    have NN := Lib.hid (res_row (u := .int .i64 v2) (v := .slice A2 n2 c2) (r3.mono (show w2.heap.size ≤ _ by simp)) (k2.alloc (.cells #[.int .i64 v2, .slice A2 n2 c2] 25)))
    obtain ⟨z0, z1, y0, y1⟩ := FF.out.1
    clear hb2 hr2 b2 k2 B2 k5 r3 hv2 a4 a5
    go_wp2
    exact bodyPost_ret (v := .tuple #[.agg #[.int .i64 v2, .slice A2 n2 c2], .bool true]) (by simp [results, Tryz.results28, go_sem, FF.out.2.1.1, FF.out.2.1.2]) rfl (by rw [HP.out]; exact ⟨v2, A2, n2, c2, l2, HV.out, rfl, hl2, NN.out, FF.out.2.2⟩)
set_option maxRecDepth 100000 in
set_option maxHeartbeats 4000000 in
theorem specChainPut_any (view : Int) (A : Option Addr) (n c : Nat) (l : List Nod) (u : Upd) (w : World) (h : Nods w 0 w.heap.size A n c l) (hn : n ≤ 1048576) (hlog : ∀ x ∈ l, x.log.length ≤ 1048576) :
    Calls Mo.prog 44 #[.agg #[.int .i64 view, .slice A n c], .agg #[.int .i64 u.key, .int .i64 u.value]] w (ChainRes w (putM view l u)) := by
  have F0 := ((h.box (.cells #[.int .i64 view, .slice A n c] 25)).box (.cells #[.int .i64 u.key, .int .i64 u.value] 28)).box (.cells #[.int .i64 0, .slice none 0 0] 25)
  obtain ⟨w0, hw0⟩ : ∃ w0 : World, ((w.alloc (.cells #[.int .i64 view, .slice A n c] 25)).alloc (.cells #[.int .i64 u.key, .int .i64 u.value] 28)).alloc (.cells #[.int .i64 0, .slice none 0 0] 25) = w0 := ⟨_, rfl⟩
  have T := specChainWrite_any view A n c l u (((w.alloc (.cells #[.int .i64 view, .slice A n c] 25)).alloc (.cells #[.int .i64 u.key, .int .i64 u.value] 28)).alloc (.cells #[.int .i64 0, .slice none 0 0] 25)) F0 hn hlog
  obtain ⟨k0, k1, k2, b0⟩ := write_start (Below.refl _ (((w.alloc (.cells #[.int .i64 view, .slice A n c] 25)).alloc (.cells #[.int .i64 u.key, .int .i64 u.value] 28)).alloc (.cells #[.int .i64 0, .slice none 0 0] 25)))
  rw [hw0] at k0 k1 k2 b0 T
  have K2 := Lib.hid k2
  have B0 := Lib.hid b0
  have a0 := k0.cell (i := 0) (v := .int .i64 view) rfl
  have a1 := k0.cell (i := 1) (v := .slice A n c) rfl
  have u0 := k1.cell (i := 0) (v := .int .i64 u.key) rfl
  have u1 := k1.cell (i := 1) (v := .int .i64 u.value) rfl
  clear F0 h hlog k0 k1 k2 b0 
  cases hw : writeM view l u with
  | none =>
    rw [hw] at T
    have HT := Lib.hid T
    have HP := Lib.hid (show putM view l u = none by unfold putM; rw [hw]; rfl)
    clear hw T
    go_enter Mo.func44, Tryz.ntmps44
    go_wp2_with fail
    refine HT.out.mono ?_
    rintro e w1 ⟨v1, A1, n1, c1, l1, hv1, rfl, hl1, hr1, hb1⟩
    have k2 := K2.out.below hb1
    have b1 := B0.out.trans (hb1.mono B0.out.size)
    have FF := Lib.hid (res_two (a := .int .i64 0) (b := .slice none 0 0) (k2.alloc (.cells #[.int .i64 v1, .slice A1 n1 c1] 25)) (show w.heap.size ≤ w.heap.size + 1 + 1 by omega) (b1.alloc b1.size _))
    obtain ⟨z0, z1, y0, y1⟩ := FF.out.1
    clear hb1 hr1 k2 b1 hv1 a0 a1 u0 u1
    go_wp2
    exact bodyPost_ret (v := .tuple #[.agg #[.int .i64 0, .slice none 0 0], .bool false]) (by simp [results, Tryz.results44, go_sem, FF.out.2.1.1, FF.out.2.1.2]) rfl (by rw [HP.out]; exact ChainRes.none_ FF.out.2.2)
  | some d =>
    rw [hw] at T
    have HT := Lib.hid T
    have HP := Lib.hid (show putM view l u = some (settleM d.1 d.2).1 by unfold putM; rw [hw]; rfl)
    have HG := Lib.hid (good_write hw)
    clear hw T
    obtain ⟨v1, l1⟩ := d
    go_enter Mo.func44, Tryz.ntmps44
    go_wp2_with fail
    refine HT.out.mono ?_
    rintro e w1 ⟨v1', A1, n1, c1, l1', hv1, rfl, hl1, hr1, hb1⟩
    injection hv1 with e1 e2
    subst e1; subst e2
    have hn5 : n1 ≤ 5 := by have h5 : l1'.length ≤ 5 := HG.out.2.2.2.1; omega
    have N1 := hr1.nods'.2
    have F1 := Lib.hid ((N1.mono (Nat.zero_le _) (Nat.le_refl _)).box (.cells #[.int .i64 v1', .slice A1 n1 c1] 25))
    have B1 := Lib.hid (B0.out.trans (hb1.mono B0.out.size))
    have K21 := Lib.hid (K2.out.below hb1)
    have k4 := Blk.new w1 #[.int .i64 v1', .slice A1 n1 c1] 25
    have a4 := k4.cell (i := 0) (v := .int .i64 v1') rfl
    have a5 := k4.cell (i := 1) (v := .slice A1 n1 c1) rfl
    have ht1 : (some (v1', l1') : Option (Int × List Nod)).isSome = true := rfl
    clear hb1 hr1 N1 a0 a1 u0 u1 k4
    go_wp2_with fail
    refine (specChainSettle_any v1' A1 n1 c1 l1' _ F1.out (by omega) (good_logs HG.out)).mono ?_
    rintro e w2 ⟨v2, A2, n2, c2, l2, hv2, rfl, hl2, hr2, hb2⟩
    have HV := Lib.hid hv2
    have b2 := below_box hb2
    have k2 := (K21.out.alloc (.cells #[.int .i64 v1', .slice A1 n1 c1] 25)).below hb2
    have B2 := B1.out.trans (b2.mono B1.out.size)
    have k5 := Blk.new w2 #[.int .i64 v2, .slice A2 n2 c2] 25
    have a6 := k5.cell (i := 0) (v := .int .i64 v2) rfl
    have a7 := k5.cell (i := 1) (v := .slice A2 n2 c2) rfl
    have r3 := (hr2.lower (show w.heap.size ≤ (w1.alloc (.cells #[.int .i64 v1', .slice A1 n1 c1] 25)).heap.size by have := B1.out.size; simp; omega)).keep (w' := w2.alloc (.cells #[.int .i64 v2, .slice A2 n2 c2] 25)) (fun _ _ h => Below.heap_alloc _ _ _ h)
    have FF := Lib.hid (res_two (a := .int .i64 v2) (b := .slice A2 n2 c2) (k2.alloc (.cells #[.int .i64 v2, .slice A2 n2 c2] 25)) (show w.heap.size ≤ w.heap.size + 1 + 1 by omega) (B2.alloc B2.size _))
    have NN := Lib.hid (res_row (u := .int .i64 v2) (v := .slice A2 n2 c2) (r3.mono (show w2.heap.size ≤ _ by simp)) (k2.alloc (.cells #[.int .i64 v2, .slice A2 n2 c2] 25)))
    obtain ⟨z0, z1, y0, y1⟩ := FF.out.1
    clear hb2 hr2 b2 k2 B2 k5 r3 hv2 a4 a5
    go_wp2
    exact bodyPost_ret (v := .tuple #[.agg #[.int .i64 v2, .slice A2 n2 c2], .bool true]) (by simp [results, Tryz.results44, go_sem, FF.out.2.1.1, FF.out.2.1.2]) rfl (by rw [HP.out]; exact ⟨v2, A2, n2, c2, l2, HV.out, rfl, hl2, NN.out, FF.out.2.2⟩)
end Go.Proofs.YtemgilofjbnoaaaGreatDoor
namespace Go.Proofs.YtemgilofjbnoaaaGreatDoor
open Go.RowKit Go.Sort
def quietAt (l : List Nod) (x : Nod) : Bool := decide (x.log.length = (hd l).length) && decide (x.done = ((hd l).length : Int))
def quietM (v : Int) (l : List Nod) : Bool := chainOk v l && l.all (quietAt l)
end Go.Proofs.YtemgilofjbnoaaaGreatDoor
namespace Go.Proofs.YtemgilofjbnoaaaGreatDoor
open Go.RowKit
theorem good_put {v v' : Int} {l r : List Nod} {u : Upd} (h : putM v l u = some (v', r)) : Good v' r ∧ v' = v ∧ r = putL l u ∧ r.length = l.length ∧ hd r = hd l ++ [u] := by
  obtain ⟨hg, hu, h12, e⟩ := put_some h
  injection e with e1 e2
  subst e1; subst e2
  obtain ⟨y, hy, hh⟩ := hd_pos hg
  rw [hh] at h12
  have g := good_settled (good_wrote hg hy hu h12)
  rw [settled_wrote hy] at g
  refine ⟨g.1, rfl, rfl, by simp [putL], ?_⟩
  cases l with
  | nil => cases hy
  | cons x l => simp [putL, hd]
end Go.Proofs.YtemgilofjbnoaaaGreatDoor
