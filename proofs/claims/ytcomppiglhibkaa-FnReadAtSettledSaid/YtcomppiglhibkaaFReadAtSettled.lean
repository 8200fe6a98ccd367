/- The texts LostS ReadS LReadAtSettled ClaimReadAtSettled, joined. -/
import Derived.Conc.LeavingOf
import Derived.Test.YtcomppiglhibkaaB3
import Derived.Test.YtcomppiglhibkaaH1
import Derived.Test.YtcomppiglhibkaaC1
import Derived.Test.YtcomppiglhibkaaJ1
import Derived.Test.YtcomppiglhibkaaB4
import Derived.Test.YtcomppiglhibkaaB1
/- In a settled chain nothing is lost: plain Lean. -/
namespace Go.Proofs.Ytcomppiglhibkaa
open Go.RowKit

theorem settled_at {l : List Nod} {i : Nat} {x : Nod} (h : (settledM l)[i]? = some x) : ∃ y, l[i]? = some y ∧ x = ⟨y.id, hd l, ((hd l).length : Nat)⟩ := by
  unfold settledM at h
  rw [List.getElem?_map, Option.map_eq_some_iff] at h
  obtain ⟨y, hy, rfl⟩ := h
  exact ⟨y, hy, rfl⟩
theorem lost_settled (v : Int) (l : List Nod) (id : Int) : lost v (settledM l) id = [] := by
  unfold lost
  split
  · split
    · rename_i x y hx hy
      obtain ⟨a, _, rfl⟩ := settled_at hx
      obtain ⟨b, _, rfl⟩ := settled_at hy
      exact List.drop_length
    · rfl
  · rfl
end Go.Proofs.Ytcomppiglhibkaa
/- In a settled chain all nodes tell the same: plain Lean. -/
namespace Go.Proofs.Ytcomppiglhibkaa
open Go.RowKit

/-- a node that knows all it has to be everywhere tells what the tail has -/
theorem readAt_full {v : Int} {l : List Nod} {id key : Int} {k : Nat} {x : Nod} (h : (chainOk v l && inB key 0 4) = true) (hp : placeOf l id = some k) (hx : l[k]? = some x) (hd : x.done = x.log.length) :
    chainReadAt v l id key = ((chainRead v l key).1, if (chainRead v l key).2 then 0 else 2) := by
  have hbb := h
  simp only [Bool.and_eq_true] at hbb
  have g := good_iff.1 hbb.1
  have htm := List.mem_of_getElem? hx
  have hgx := g.2.2.2.2.1 x htm
  have hw : keyWaits x key = false := by unfold keyWaits; rw [hd]; simp [keyIn]
  rw [readAt_node h hp hx]
  rcases nodeRead_cases (x := x) (key := key) (by rw [hgx, hbb.2]; rfl) with ⟨hw', _⟩ | ⟨_, e⟩
  · rw [hw] at hw'; cases hw'
  · have hct := clean_tail g hbb.2 htm hw
    rw [chainRead_ok h, ← hct, e]
    by_cases hneg : valOf x.log key x.done.toNat < 0
    · rw [if_pos hneg, told_neg hneg]; rfl
    · rw [if_neg hneg, told_pos hneg]; rfl
theorem place_settled (l : List Nod) (id : Int) : placeOf (settledM l) id = placeOf l id := by
  unfold placeOf settledM
  rw [List.findIdx?_map]
  rfl
theorem settled_tells {v : Int} {l : List Nod} {id key : Int} (g : Good v l) (h : (chainReadAt v l id key).2 ≠ 3) :
    ∃ v2 d2 : Int, d2 ≠ 1 ∧ chainReadAt v (settledM l) id key = (v2, d2) ∧ ∀ x ∈ settledM l, chainReadAt v (settledM l) x.id key = (v2, d2) := by
  obtain ⟨g1, _, _⟩ := good_settled g
  have hk : inB key 0 4 = true := by
    cases hk : inB key 0 4 with
    | true => rfl
    | false => rw [readAt_bad (by rw [hk, Bool.and_false])] at h; exact absurd rfl h
  have hb : (chainOk v (settledM l) && inB key 0 4) = true := by rw [good_iff.2 g1, hk]; rfl
  refine ⟨(chainRead v (settledM l) key).1, if (chainRead v (settledM l) key).2 then 0 else 2, by split <;> decide, ?_, fun x hx => ?_⟩
  · cases hp : placeOf l id with
    | none => rw [readAt_none hp] at h; exact absurd rfl h
    | some k =>
      have hp' := (place_settled l id).trans hp
      obtain ⟨x, hx, _⟩ := place_get hp'
      obtain ⟨y, _, rfl⟩ := settled_at hx
      exact readAt_full hb hp' hx rfl
  · obtain ⟨k, hx'⟩ := List.getElem?_of_mem hx
    obtain ⟨y, _, rfl⟩ := settled_at hx'
    exact readAt_full hb (good_place g1 hx') hx' rfl
end Go.Proofs.Ytcomppiglhibkaa
/- The walk of a law on settling (laws.FnReadAtSettled): it returns true, and writes nothing that was there. Printed by genlawst.py. -/
namespace Go.Proofs.Ytcomppiglhibkaa
open Go.RowKit Go.Sort

set_option maxRecDepth 100000 in
set_option maxHeartbeats 16000000 in
theorem readAtSettled_walk (A : Option Addr) (n c : Nat) (l : List Int) (w : World) (h : Flat encU8 1 w 0 w.heap.size A n c l) (hl : ∀ x ∈ l, 0 ≤ x ∧ x ≤ 255) :
    Calls Mo.prog 6 #[.slice A n c] w fun e w' => e = .returned (.bool true) ∧ Below w.heap.size w w' := by
  have H := Lib.hid h
  have HL := Lib.hid hl
  clear h hl
  by_cases hn : 1048576 < n
  · go_enter Mo.func6, Try.ntmps6
    go_wp2
    go_ret
    exact ⟨rfl, Below.refl _ _⟩
  go_enter Mo.func6, Try.ntmps6
  go_wp2_with fail
  refine (drawChainReadAt_any _ _ _ l _ H.out HL.out).mono ?_
  rintro e w1 ⟨view, A1, n1, c1, r, id, key, rfl, h1, h2, h3, h4, h6, hb1⟩
  obtain ⟨hn1, hl1⟩ := nods_ok h1 h3 h4
  have HG := Lib.hid hl1
  have M1 := Lib.hid h1
  have Vc := Lib.hid (Var.row h6 view)
  have HB := Lib.hid (hb1.alloc hb1.size (.cells #[.int .i64 view, .slice A1 n1 c1] 25))
  have p1 : 0 < n1 := by omega
  clear h1 h4 h6 hb1 H HL hl1
  obtain ⟨a1, ha1⟩ : ∃ a1, (chainReadAt view r id key).1 = a1 := ⟨_, rfl⟩
  obtain ⟨a2, ha2⟩ : ∃ a2, (chainReadAt view r id key).2 = a2 := ⟨_, rfl⟩
  have A1' := Lib.hid ha1
  have A2' := Lib.hid ha2
  have e1 : (a1 != a1) = false := by simp
  have e2 : (a2 != a2) = false := by simp
  have e3 : (a1 == a1) = true := by simp
  have e4 : (a2 == a2) = true := by simp
  clear ha1 ha2
  go_wp2_with fail
  refine (chainReadAt_any view _ _ _ r id key _ Vc.out.nods hn1 HG.out).mono ?_
  rintro e w2 ⟨rfl, hb⟩
  rw [A1'.out, A2'.out]
  have Nc := Lib.hid (Vc.out.on hb)
  have NB := Lib.hid (HB.out.trans (hb.mono HB.out.size))
  clear hb HB Vc
  have Vc := Lib.hid Nc.out
  clear Nc
  have HB := Lib.hid NB.out
  clear NB
  have fc0 := Vc.out.c0
  have fc1 := Vc.out.c1
  have fcl := Vc.out.lt
  go_wp2_with fail
  refine (specChainReadAt_any view _ _ _ r id key _ Vc.out.nods hn1 HG.out).mono ?_
  rintro e w3 ⟨rfl, hb⟩
  rw [A1'.out, A2'.out]
  clear fc0 fc1 fcl
  have Nc := Lib.hid (Vc.out.on hb)
  have NB := Lib.hid (HB.out.trans (hb.mono HB.out.size))
  clear hb HB Vc
  have Vc := Lib.hid Nc.out
  clear Nc
  have HB := Lib.hid NB.out
  clear NB
  have fc0 := Vc.out.c0
  have fc1 := Vc.out.c1
  have fcl := Vc.out.lt
  by_cases ha : a2 = 3
  · have hne : (a2 == 3) = true := by simp [ha]
    clear ha
    go_wp2
    go_ret
    exact ⟨rfl, HB.out⟩
  have hne : (a2 == 3) = false := by simp [ha]
  have hb3 : (chainOk view r && inB key 0 4) = true := by
    cases hb : (chainOk view r && inB key 0 4) with
    | true => rfl
    | false => have := readAt_bad (id := id) hb; have h2 := A2'.out; rw [this] at h2; exact absurd h2.symm ha
  have HB3 := Lib.hid hb3
  have hgr : Good view r := good_iff.1 (by simp only [Bool.and_eq_true] at hb3; exact hb3.1)
  obtain ⟨p, hp⟩ : ∃ p : Nat, pot r = p := ⟨_, rfl⟩
  have HS := Lib.hid (settle_good hgr hp)
  have GS := Lib.hid (good_settled hgr)
  have HGS := Lib.hid (good_logs GS.out.1)
  obtain ⟨v2, d2, hd2, hr1, hr2⟩ := settled_tells hgr (id := id) (key := key) (by rw [A2'.out]; exact ha)
  have R1 := Lib.hid hr1
  have R2 := Lib.hid hr2
  have e5 : (v2 == v2) = true := by simp
  have e6 : (d2 == d2) = true := by simp
  have e7 : (d2 != 1) = true := by simp [hd2]
  have nf := node_field0
  clear hgr hp hr1 hr2 hd2 hb3 ha
  go_wp2_with fail
  refine (chainSettle_any view _ _ _ r _ Vc.out.nods hn1 HG.out).mono ?_
  rintro e w4 hq
  obtain ⟨A4, n4, c4, rfl, hq1, hq2, hb⟩ := hq.yes HS.out
  clear hq
  have MLx := Lib.hid hq1
  clear hq1
  clear fc0 fc1 fcl
  have Nc := Lib.hid (Vc.out.on hb)
  have NB := Lib.hid (HB.out.trans (hb.mono HB.out.size))
  clear hb HB Vc
  have Vc := Lib.hid Nc.out
  clear Nc
  have HB := Lib.hid NB.out
  clear NB
  have fc0 := Vc.out.c0
  have fc1 := Vc.out.c1
  have fcl := Vc.out.lt
  have Nc := Lib.hid (Vc.out.alloc (.cells #[.int .i64 view, .slice A4 n4 c4] 25))
  have Nx := Lib.hid (Var.new hq2 view)
  have NB := Lib.hid (HB.out.alloc HB.out.size (.cells #[.int .i64 view, .slice A4 n4 c4] 25))
  clear hq2
  obtain rfl : n1 = n4 := by rw [← M1.out, ← MLx.out]; exact GS.out.2.2.symm
  clear HB Vc
  have Vc := Lib.hid Nc.out
  clear Nc
  have Vx := Lib.hid Nx.out
  clear Nx
  have HB := Lib.hid NB.out
  clear NB
  go_wp2_with fail
  have D := chainReadAt_any view _ _ _ (settledM r) id key _ Vx.out.nods hn1 HGS.out
  rw [R1.out] at D
  refine D.mono ?_
  rintro e w5 ⟨rfl, hb⟩
  clear D
  clear fc0 fc1 fcl
  have Nc := Lib.hid (Vc.out.on hb)
  have Nx := Lib.hid (Vx.out.on hb)
  have NB := Lib.hid (HB.out.trans (hb.mono HB.out.size))
  clear hb HB Vc Vx
  have Vc := Lib.hid Nc.out
  clear Nc
  have Vx := Lib.hid Nx.out
  clear Nx
  have HB := Lib.hid NB.out
  clear NB
  have fc0 := Vc.out.c0
  have fc1 := Vc.out.c1
  have fcl := Vc.out.lt
  have fx0 := Vx.out.c0
  have fx1 := Vx.out.c1
  have fxl := Vx.out.lt
  obtain ⟨x, A5, m5, c5, hx, hf, ht⟩ := tail_regrown (view := view) Vx.out.nods p1 hn1
  have hrx := R2.out x (List.mem_of_getElem? hx)
  have T1 := Lib.hid ht
  have T2 := Lib.hid (show ∀ (q : Nat) (os : Array Obj), Calls Mo.prog 19 #[.agg #[.int .i64 view, .slice A4 n1 c4], .int .i64 x.id, .int .i64 key] (grow (redrawn w5 q) os) fun e w' => e = .returned (.tuple #[.int .i64 v2, .int .i64 d2]) ∧ Below (grow (redrawn w5 q) os).heap.size (grow (redrawn w5 q) os) w' from fun q os => by
    have hc := chainReadAt_any view A4 n1 c4 (settledM r) x.id key (grow (redrawn w5 q) os) (Vx.out.nods.on (below_regrown w5 q os)) hn1 HGS.out
    rw [hrx] at hc
    exact hc)
  have d0 := cell_regrown fx0
  have d1 := cell_regrown fx1
  clear hx hf ht hrx
  go_wp2_with fail
  refine wp_region_quiet_below (by kernel_rfl) (by kernel_rfl) ?_
  repeat (go_big_quiet_step ((first | (go_at_call 21; with_reducible exact Calls.regrown_of (T1.out _ _)) | (go_at_call 19; with_reducible exact Calls.regrown_of (T2.out _ _)))))
  refine wpQuiet_nil ?_
  intro w6 hw6
  have hb := Lib.hid (below_of_regrown hw6)
  clear hw6 d0 d1
  go_wp2
  go_ret
  exact ⟨rfl, HB.out.trans (hb.out.mono HB.out.size)⟩
end Go.Proofs.Ytcomppiglhibkaa
/- 'Rows.FnReadAtSettledSaid': the law returns true for every input, on every tape, race-free, and each argument reads behind the call as it read before; no condition. The walk over the model is readAtSettled_walk; here it is carried over to the true program and lifted into the given row. -/
namespace Go.Proofs.Ytcomppiglhibkaa.fnReadAtSettled
open Go Go.Conc Go.ChangeShapes Go.WideShapes Go.ChangeAt Go.RowKit
set_option linter.unusedVariables false

set_option maxRecDepth 100000 in
theorem lifted (os : Os) (started : os.Started) (H : Type) (enc : TypeId × Value → H) :
    ReturnsInLeavingWide {} Try.checked os 6 .any (Rows.fnReadAtSettledSpec.pre6 enc Try.prog Try.f6 Rows.fnReadAtSettledRow.domain false) (Rows.fnReadAtSettledSpec.post enc Try.prog Try.f6 false true false false) := by
  refine returnsInLeavingWide_of_change_sized (C := Try.checked) ownK started Try.func6
    (ChangeSpec.witness6 (enc := enc) (C := Try.checked) false ⟨#[], #[.slice none 0 0], []⟩ 8 (by kernel_rfl) (by kernel_rfl) (by kernel_rfl) (by kernel_rfl)) ?_
  intro W base args ds gs before hval0 hW hcnd _ _
  have hval : ∀ (j : Nat) t v, Try.f6.params[j]? = some t → args[j]? = some v → Value.okWide Try.prog W .any base t v := hval0
  have hW' := hW
  obtain ⟨p, q, hA0, hV, rfl, hfz, hnd⟩ := hW
  have hA : DataW.TrodAll enc Try.prog W 0 (fun _ => true) true Try.f6.params.toList args.toList ds p := hA0
  rw [Try.params6] at hA hval
  obtain ⟨v0, vs0, d0, ds0, p0, q0, hargs, rfl, rfl, h0, r0⟩ := trodAll_cons hA
  obtain ⟨rfl, rfl, rfl⟩ := trodAll_nil r0
  obtain rfl : args = #[v0] := by cases args; simp_all
  obtain ⟨rfl, rfl⟩ := trodVars_none hV
  have k0 := h0
  have lt0 : ∀ x ∈ p0, x.block < W.heap.size := by obtain ⟨m, hm⟩ := k0; exact DataW.trod_lt m _ _ _ hm
  obtain ⟨A0, n0, c0, l0, rfl, f0, g0⟩ := reads_bytes (hval 0 22 v0 rfl rfl) h0
  clear hA0 hval0
  obtain ⟨M, last, o, w', t', h1, h2, h3, h4⟩ := mo_run fmo6 (by kernel_rfl) (by decide) (by kernel_rfl) #[.slice A0 n0 c0] W (fun w hw => readAtSettled_walk A0 n0 c0 l0 w (brk_flat hw f0) g0)
  refine ⟨M, last, o, w', t', h1, h2, h3, h4.mono fun v hp => ?_⟩
  obtain ⟨rfl, bel⟩ := hp
  exact ⟨_, _, _, [], _, [], hW', trodAll_mk1 (shut_bool Try.underlying4 _), (trodAll_cons_mk (BelowT.trod laidOut (by kernel_rfl) (of_decide_eq_true (by kernel_rfl)) k0 bel lt0) trodAll_mk0), rfl, bel.frame _, fun h => by cases h⟩

theorem over : Rows.fnReadAtSettledRow.holds Try.pinned (OpenSpec.ofChange Rows.fnReadAtSettledSpec) :=
  OpenClaim.holds_of_wide_leaving 6 Try.f6 rfl rfl rfl rfl rfl rfl rfl ⟨rfl, rfl, rfl, rfl, rfl⟩ rfl rfl rfl rfl rfl (by kernel_rfl) Try.func6 (by kernel_rfl)
    (of_decide_eq_true (by kernel_rfl)) (by unfold Func.isWrapper; first | (rw [if_pos (by decide +kernel)]; kernel_rfl) | (rw [if_neg (by decide +kernel)]; exact ⟨rfl, rfl⟩))
    (fun os started H enc _ => lifted os started H enc)

theorem proved : Rows.FnReadAtSettledSaid := over
#print axioms proved
end Go.Proofs.Ytcomppiglhibkaa.fnReadAtSettled
