/- The texts Quiet Var, joined. -/
import Derived.Test.YtcomppiglhibkaaGreatDoorB3
import Derived.Test.YtcomppiglhibkaaGreatDoorB1
import Derived.Test.YtcomppiglhibkaaGreatDoorB2
/- Settling: impl.ChainQuiet. -/
namespace Go.Proofs.YtcomppiglhibkaaGreatDoor
open Go.RowKit Go.Sort

def quietAt (l : List Nod) (x : Nod) : Bool := decide (x.log.length = (hd l).length) && decide (x.done = ((hd l).length : Int))
def quietM (v : Int) (l : List Nod) : Bool := chainOk v l && l.all (quietAt l)
theorem all_take {α : Type} {p : α → Bool} {l : List α} {k : Nat} {x : α} (h : (l.take k).all p = true) (hx : l[k]? = some x) (hp : p x = true) : (l.take (k + 1)).all p = true := by
  rw [List.take_add_one, hx, List.all_append, h]; simp [hp]
theorem all_bad {α : Type} {p : α → Bool} {l : List α} {k : Nat} {x : α} (hx : l[k]? = some x) (hp : p x = false) : l.all p = false := by
  rw [List.all_eq_false]; exact ⟨x, List.mem_of_getElem? hx, by simp [hp]⟩
/-- nothing is left to do just where the chain is quiet -/
theorem quiet_pot {v : Int} {l : List Nod} (h : Good v l) : quietM v l = decide (pot l = 0) := by
  unfold quietM
  rw [good_iff.2 h, Bool.true_and]
  rw [Bool.eq_iff_iff]
  simp only [List.all_eq_true, quietAt, Bool.and_eq_true, decide_eq_true_eq]
  constructor
  · intro ha
    exact (settled_of h (fun j x hx => (ha x (List.mem_of_getElem? hx)).1) (fun j x _ hx => (ha x (List.mem_of_getElem? hx)).2)).2
  · intro hp x hx
    obtain ⟨i, hi⟩ := List.getElem?_of_mem hx
    have hlt := (List.getElem?_eq_some_iff.1 hi).1
    unfold pot at hp
    have h1 := sumR_pos (f := lagA l) hlt
    have hz : lagA l i = 0 := by omega
    rw [lagA_at hi] at hz
    have hle := (log_hd h hi).length_le
    have hf : x.log.length = (hd l).length := by omega
    refine ⟨hf, ?_⟩
    by_cases ht : i + 1 = l.length
    · rw [tail_done h hi ht, hf]
    · have h2 := sumR_pos (f := dueA l) (show i < l.length - 1 by omega)
      have hd0 : dueA l i = 0 := by omega
      rw [dueA_at hi] at hd0
      by_cases e : x.done = ((hd l).length : Int)
      · exact e
      · rw [if_neg e] at hd0; omega
theorem quiet_settled {v : Int} {l : List Nod} (h : Good v l) : quietM v (settledM l) = true := by
  obtain ⟨h1, h2, h3⟩ := good_settled h
  unfold quietM
  rw [good_iff.2 h1, Bool.true_and, List.all_eq_true]
  intro x hx
  obtain ⟨y, _, rfl⟩ := List.mem_map.1 hx
  simp [quietAt, h2]
set_option maxRecDepth 100000 in
set_option maxHeartbeats 4000000 in
theorem chainQuiet_any (view : Int) (A : Option Addr) (n c : Nat) (l : List Nod) (w : World) (h : Nods w 0 w.heap.size A n c l) (hn : n ≤ 1048576) (hlog : ∀ x ∈ l, x.log.length ≤ 1048576) :
    Calls Mo.prog 10 #[.agg #[.int .i64 view, .slice A n c]] w fun e w' => e = .returned (.bool (quietM view l)) ∧ Below w.heap.size w w' := by
  have HL := Lib.hid h.len
  have HG := Lib.hid hlog
  have H := Lib.hid h
  have H0 := Lib.hid (h.box (.cells #[.int .i64 view, .slice A n c] 25))
  clear h hlog
  cases hok : chainOk view l
  · have e0 : quietM view l = false := by simp [quietM, hok]
    rw [e0]
    have HO := Lib.hid hok
    clear hok e0
    go_enter Mo.func10, Tryz.ntmps10
    go_wp2_with fail
    refine (chainValid_any _ _ _ _ l _ H0.out hn HG.out).mono ?_
    rintro e w1 ⟨rfl, hb1⟩
    rw [HO.out]
    have B1 := Lib.hid (below_box hb1)
    clear hb1
    go_wp2
    go_ret
    exact ⟨rfl, B1.out⟩
  · have hg := good_iff.1 hok
    have e0 : quietM view l = l.all (quietAt l) := by simp [quietM, hok]
    rw [e0]
    have GG := Lib.hid hg
    have hn5 : n ≤ 5 := by have := hg.2.2.2.1; have := HL.out; omega
    have hn1 : 1 ≤ n := by have := hg.2.2.1; have := HL.out; omega
    obtain ⟨b, off, x0, A0, m0, q0, rfl, _, hbB, hx0, _, c01, _, hf0⟩ := H.out.nod (k := 0) (by omega)
    have HD := Lib.hid (show (hd l).length = m0 by rw [hd_at hx0, hf0.len])
    have hm0 : m0 ≤ 12 := by have := hd_len hg; rw [hd_at hx0, hf0.len] at this; exact this
    have hz0' : (0 : Int) < (n : Int) := by omega
    have hz1' : 0 < n := by omega
    simp only [Nat.zero_mul, Nat.add_zero] at c01
    have HO := Lib.hid hok
    clear hok hg hf0 hx0 e0
    go_enter Mo.func10, Tryz.ntmps10
    go_wp2_with fail
    refine (chainValid_any _ _ _ _ l _ H0.out hn HG.out).mono ?_
    rintro e w1 ⟨rfl, hb1⟩
    rw [HO.out]
    have B1 := below_box hb1
    have k0 := (Blk.new w #[.int .i64 view, .slice (some ⟨b, off, none⟩) n c] 25).below hb1
    have a1 := k0.cell (i := 1) (v := .slice (some ⟨b, off, none⟩) n c) rfl
    have y1 := (B1.cell (p := ⟨b, off + 1, none⟩) hbB).trans c01
    have HB1 := Lib.hid B1
    clear hb1 k0 B1
    go_wp2_with fail
    clear a1 y1
    go_loopw [18] (fun i wr => ∃ k : Nat, k ≤ n ∧ i = .int .i64 k ∧ Hid ((l.take k).all (quietAt l) = true) ∧ Below w.heap.size w wr) (fun i _ => n - (intOf i).toNat)
    case atStart => exact ⟨0, Nat.zero_le _, rfl, rfl, HB1.out⟩
    case round =>
      obtain ⟨k, hk, rfl, HA, hBr⟩ := hrel
      have BR := Lib.hid hBr
      have hsz := hBr.size
      by_cases hlt : k < n
      · obtain ⟨b', off', x, A', m, d, e, _, _, hx, x0, x1, x2, hf⟩ := (H.out.below hBr (Nat.le_refl _)).nod hlt
        injection e with e; injection e with e1 e2
        subst e1; subst e2
        have hxl := (log_hd GG.out hx).length_le
        rw [hf.len, HD.out] at hxl
        have HX := Lib.hid hx
        have HM := Lib.hid hf.len
        have BA := Lib.hid (hBr.alloc hsz (.cells #[.int .i64 x.id, .slice A' m d, .int .i64 x.done] 38))
        clear hx hf hBr HB1
        by_cases h1 : m = m0
        · subst h1
          by_cases h2 : x.done = (m : Int)
          · have e2 : (x.done == (m : Int)) = true := by simp [h2]
            have hq : quietAt l x = true := by simp [quietAt, HM.out, HD.out, h2]
            have HQ := Lib.hid (all_take HA.out HX.out hq)
            clear h2 hq
            go_wp2_with fail
            refine ⟨⟨k + 1, by omega, by go_num, HQ.out, BA.out⟩, ?_⟩
            simp [intOf]; omega
          · have e2 : (x.done == (m : Int)) = false := by simp [h2]
            have hq : quietAt l x = false := by simp [quietAt, HM.out, HD.out, h2]
            have HQ := Lib.hid (all_bad HX.out hq)
            clear h2 hq
            go_wp2
            go_ret
            exact ⟨ret_bool HQ.out.symm, BA.out⟩
        · have e1 : ((m : Int) == (m0 : Int)) = false := by simp; omega
          have hq : quietAt l x = false := by simp [quietAt, HM.out, HD.out, h1]
          have HQ := Lib.hid (all_bad HX.out hq)
          clear h1 hq
          go_wp2
          go_ret
          exact ⟨ret_bool HQ.out.symm, BA.out⟩
      · obtain rfl : n = k := by omega
        have HQ := Lib.hid (show l.all (quietAt l) = true by
          have := HA.out
          rwa [List.take_of_length_le (by rw [HL.out]; exact Nat.le_refl _)] at this)
        go_wp2
        go_ret
        exact ⟨ret_bool HQ.out.symm, BR.out⟩
end Go.Proofs.YtcomppiglhibkaaGreatDoor
/- A chain that a variable of a law holds, kept over calls; results of calls, told apart. -/
namespace Go.Proofs.YtcomppiglhibkaaGreatDoor
open Go.RowKit

/-- the chain (view, l) in block b -/
structure Var (w : World) (b : Nat) (view : Int) (A : Option Addr) (n c : Nat) (l : List Nod) : Prop where
  blk : Blk w b #[.int .i64 view, .slice A n c] 25
  nods : Nods w 0 w.heap.size A n c l
section
variable {w w' : World} {b : Nat} {view : Int} {A : Option Addr} {n c : Nat} {l : List Nod}
theorem Var.on (h : Var w b view A n c l) (hb : Below w.heap.size w w') : Var w' b view A n c l := ⟨h.blk.below hb, h.nods.on hb⟩
theorem Var.alloc (h : Var w b view A n c l) (o : Obj) : Var (w.alloc o) b view A n c l := ⟨h.blk.alloc o, h.nods.box o⟩
theorem Var.drew (h : Var w b view A n c l) : Var w.drew b view A n c l := ⟨h.blk.drew, h.nods.below (Below.refl w.heap.size w).drew (Nat.le_refl _)⟩
theorem Var.c0 (h : Var w b view A n c l) : w.cell? ⟨b, 0, none⟩ = some (.int .i64 view) := h.blk.cell rfl
theorem Var.c1 (h : Var w b view A n c l) : w.cell? ⟨b, 1, none⟩ = some (.slice A n c) := h.blk.cell rfl
theorem Var.lt (h : Var w b view A n c l) : b < w.heap.size := h.blk.lt
theorem Var.new (h : Nods w 0 w.heap.size A n c l) (view : Int) : Var (w.alloc (.cells #[.int .i64 view, .slice A n c] 25)) w.heap.size view A n c l := ⟨Blk.new w _ _, h.box _⟩
theorem Var.row {lo : Nat} (h : NodRow w lo w.heap.size (.slice A n c) l) (view : Int) : Var (w.alloc (.cells #[.int .i64 view, .slice A n c] 25)) w.heap.size view A n c l := Var.new (h.nods'.2.mono (Nat.zero_le _) (Nat.le_refl _)) view
end
/-- a chain and true -/
def ChainYes (w : World) (view : Int) (l : List Nod) (e : Ending) (w' : World) : Prop :=
  ∃ (A : Option Addr) (n c : Nat), e = .returned (.tuple #[.agg #[.int .i64 view, .slice A n c], .bool true]) ∧ l.length = n ∧ Nods w' 0 w'.heap.size A n c l ∧ Below w.heap.size w w'
/-- no chain and false -/
def ChainNot (w : World) (e : Ending) (w' : World) : Prop :=
  ∃ (A : Option Addr) (c : Nat), e = .returned (.tuple #[.agg #[.int .i64 0, .slice A 0 c], .bool false]) ∧ Nods w' 0 w'.heap.size A 0 c [] ∧ Below w.heap.size w w'
theorem ChainRes.yes {w w' : World} {o : Option (Int × List Nod)} {e : Ending} {view : Int} {l : List Nod} (h : ChainRes w o e w') (ho : o = some (view, l)) : ChainYes w view l e w' := by
  obtain ⟨v, A, n, c, l', e1, rfl, hl, hrow, hb⟩ := h
  subst ho
  injection e1 with e1 e2
  subst e1; subst e2
  exact ⟨A, n, c, rfl, hl, hrow.nods'.2.mono (Nat.zero_le _) (Nat.le_refl _), hb⟩
theorem ChainRes.not {w w' : World} {o : Option (Int × List Nod)} {e : Ending} (h : ChainRes w o e w') (ho : o = none) : ChainNot w e w' := by
  obtain ⟨v, A, n, c, l', e1, rfl, hl, hrow, hb⟩ := h
  subst ho
  injection e1 with e1 e2
  subst e1; subst e2
  have hl' : 0 = n := hl
  subst hl'
  exact ⟨A, c, rfl, hrow.nods'.2.mono (Nat.zero_le _) (Nat.le_refl _), hb⟩
theorem nods_ok {l : List Nod} {n : Nat} (hl : l.length = n) (hn : n ≤ 5) (h : ∀ x ∈ l, x.log.length ≤ 13) : n ≤ 1048576 ∧ ∀ x ∈ l, x.log.length ≤ 1048576 := ⟨by omega, fun x hx => by have := h x hx; omega⟩
theorem good_ok {v : Int} {l : List Nod} (h : Good v l) : l.length ≤ 5 ∧ ∀ x ∈ l, x.log.length ≤ 13 := ⟨h.2.2.2.1, fun x hx => by
  have := nodeOk_log' (h.2.2.2.2.1 x hx)
  unfold logOk at this; simp only [Bool.and_eq_true, decide_eq_true_eq] at this; omega⟩
/-- a chain and a bool, whatever they are -/
def ChainAny (w : World) (e : Ending) (w' : World) : Prop :=
  ∃ (view : Int) (A : Option Addr) (n c : Nat) (l : List Nod) (b : Bool), e = .returned (.tuple #[.agg #[.int .i64 view, .slice A n c], .bool b]) ∧ l.length = n ∧ n ≤ 1048576 ∧ (∀ x ∈ l, x.log.length ≤ 1048576) ∧ Nods w' 0 w'.heap.size A n c l ∧ Below w.heap.size w w'
theorem ChainRes.any {w w' : World} {o : Option (Int × List Nod)} {e : Ending} (h : ChainRes w o e w') (ho : ∀ v l, o = some (v, l) → Good v l) : ChainAny w e w' := by
  obtain ⟨v, A, n, c, l, e1, rfl, hl, hrow, hb⟩ := h
  have key : l.length ≤ 5 ∧ ∀ x ∈ l, x.log.length ≤ 13 := by
    cases o with
    | none => injection e1 with e1 e2; subst e2; exact ⟨by simp, fun x hx => by cases hx⟩
    | some p =>
      obtain ⟨v', l'⟩ := p
      injection e1 with e1 e2
      subst e1; subst e2
      exact good_ok (ho _ _ rfl)
  exact ⟨v, A, n, c, l, o.isSome, rfl, hl, by omega, fun x hx => by have := key.2 x hx; omega, hrow.nods'.2.mono (Nat.zero_le _) (Nat.le_refl _), hb⟩
theorem dropM_good {v u : Int} {l r : List Nod} {id : Int} (h : dropM v l id = some (u, r)) : Good u r := by
  obtain ⟨_, rfl, _, _, _, _, rfl, g, _⟩ := dropM_some h; exact g
theorem addM_good {v u : Int} {l r : List Nod} {id : Int} (h : addM v l id = some (u, r)) : Good u r := by
  obtain ⟨_, rfl, _, rfl, g, _⟩ := addM_some h; exact g
end Go.Proofs.YtcomppiglhibkaaGreatDoor
