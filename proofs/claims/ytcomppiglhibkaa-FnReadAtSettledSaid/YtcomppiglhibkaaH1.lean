/- The texts NodeG ReadM Read ReadAt, joined. -/
import Derived.Test.YtcomppiglhibkaaB2
/- The plain laws of what a node answers; no walk. -/
namespace Go.Proofs.Ytcomppiglhibkaa
open Go.RowKit

theorem nodeRead_ok {x : Nod} {key : Int} (h : (nodeRead x key).2 ≠ 3) : nodeOk x = true ∧ inB key 0 4 = true := by
  cases hb : (nodeOk x && inB key 0 4)
  · exact absurd (by rw [nodeRead_bad hb]) h
  · simpa using hb
theorem nodeRead_waits {x : Nod} {key : Int} (h : (nodeRead x key).2 ≠ 3) : ((nodeRead x key).2 == 1) = keyWaits x key := by
  obtain ⟨h1, h2⟩ := nodeRead_ok h
  have hb : (nodeOk x && inB key 0 4) = true := by rw [h1, h2]; rfl
  cases hw : keyWaits x key
  · by_cases hv : valOf x.log key x.done.toNat < 0
    · rw [nodeRead_none hb hw hv]; rfl
    · rw [nodeRead_clean hb hw hv]; rfl
  · rw [nodeRead_ask hb hw]; rfl
theorem nodeRead_is0 {x : Nod} {key : Int} (h : (nodeRead x key).2 = 0) : keyWaits x key = false ∧ (nodeRead x key).1 = valOf x.log key x.done.toNat ∧ ¬ valOf x.log key x.done.toNat < 0 := by
  have h3 : (nodeRead x key).2 ≠ 3 := by rw [h]; decide
  obtain ⟨h1, h2⟩ := nodeRead_ok h3
  have hb : (nodeOk x && inB key 0 4) = true := by rw [h1, h2]; rfl
  cases hw : keyWaits x key
  · by_cases hv : valOf x.log key x.done.toNat < 0
    · rw [nodeRead_none hb hw hv] at h; exact absurd h (by decide)
    · exact ⟨rfl, by rw [nodeRead_clean hb hw hv], hv⟩
  · rw [nodeRead_ask hb hw] at h; exact absurd h (by decide)
theorem nodeRead_is2 {x : Nod} {key : Int} (h : (nodeRead x key).2 = 2) : keyWaits x key = false ∧ (nodeRead x key).1 = 0 ∧ valOf x.log key x.done.toNat < 0 := by
  have h3 : (nodeRead x key).2 ≠ 3 := by rw [h]; decide
  obtain ⟨h1, h2⟩ := nodeRead_ok h3
  have hb : (nodeOk x && inB key 0 4) = true := by rw [h1, h2]; rfl
  cases hw : keyWaits x key
  · by_cases hv : valOf x.log key x.done.toNat < 0
    · exact ⟨rfl, by rw [nodeRead_none hb hw hv], hv⟩
    · rw [nodeRead_clean hb hw hv] at h; exact absurd (show (0 : Int) = 2 from h) (by decide)
  · rw [nodeRead_ask hb hw] at h; exact absurd h (by decide)

theorem valOf_succ {l : List Upd} {k kk : Nat} {u : Upd} (hok : logOk l = true) (hk : kk < 5) (hu : l[k]? = some u) : valOf l kk (k + 1) = if u.key = (kk : Int) then u.value else valOf l kk k := by
  obtain ⟨ku, hku, hku5⟩ := logOk_key hok hu
  have h1 := stAt_at (l := l) (k := k + 1) hk
  have h2 := stAt_at (l := l) (k := k) hk
  rw [stAt_succ hu hku] at h1
  by_cases e : ku = kk
  · subst e
    rw [List.getElem?_set_self (by rw [stAt_len]; exact hk)] at h1
    injection h1 with h1
    rw [if_pos hku, ← h1]
  · rw [List.getElem?_set_ne e, h2] at h1
    injection h1 with h1
    rw [if_neg (by omega), ← h1]
theorem valOf_zero (l : List Upd) {kk : Nat} (hk : kk < 5) : valOf l kk 0 = -1 := by
  have h1 := stAt_at (l := l) (k := 0) hk
  have e : stAt l 0 = st0 := rfl
  rw [e] at h1
  match kk, hk with
  | 0, _ => injection h1 with h1; try exact h1.symm
  | 1, _ => injection h1 with h1; try exact h1.symm
  | 2, _ => injection h1 with h1; try exact h1.symm
  | 3, _ => injection h1 with h1; try exact h1.symm
  | 4, _ => injection h1 with h1; try exact h1.symm
theorem valOf_some {l : List Upd} {kk : Nat} (hok : logOk l = true) (hk5 : kk < 5) : ∀ k, k ≤ l.length → (valOf l kk k < 0 ↔ keyIn (l.take k) kk = false) := by
  intro k
  induction k with
  | zero => intro _; rw [valOf_zero l hk5]; simp [keyIn]
  | succ k ih =>
    intro hk
    have hu := List.getElem?_eq_getElem (l := l) (i := k) (by omega)
    have hi := ih (by omega)
    rw [valOf_succ hok hk5 hu]
    have hv : 0 ≤ l[k].value := by
      have := logOk_at hok hu
      simp only [updOk, Bool.and_eq_true, inB, decide_eq_true_eq] at this
      omega
    by_cases e : l[k].key = (kk : Int)
    · rw [if_pos e]
      have : keyIn (l.take (k + 1)) kk = true := keyIn_true (k := k) (u := l[k]) (by rw [List.getElem?_take, if_pos (by omega)]; exact hu) e
      rw [this]
      constructor
      · intro h; omega
      · intro h; cases h
    · rw [if_neg e, hi]
      have : keyIn (l.take (k + 1)) kk = keyIn (l.take k) kk := by
        unfold keyIn
        rw [List.take_succ_eq_append_getElem (by omega), List.any_append]
        simp [e]
      rw [this]
theorem valOf_keep {l : List Upd} {kk k : Nat} (hok : logOk l = true) (hk5 : kk < 5) (hn : keyIn (l.drop k) kk = false) : ∀ j, k + j ≤ l.length → valOf l kk (k + j) = valOf l kk k := by
  intro j
  induction j with
  | zero => intro _; rfl
  | succ j ih =>
    intro hj
    have hu := List.getElem?_eq_getElem (l := l) (i := k + j) (by omega)
    rw [show k + (j + 1) = k + j + 1 from by omega, valOf_succ hok hk5 hu]
    have : l[k + j].key ≠ (kk : Int) := by
      intro e
      have : keyIn (l.drop k) kk = true := keyIn_true (k := j) (u := l[k + j]) (by rw [List.getElem?_drop]; exact hu) e
      rw [hn] at this; cases this
    rw [if_neg this]
    exact ih (by omega)
theorem valOf_end {l : List Upd} {kk k : Nat} (hok : logOk l = true) (hk5 : kk < 5) (hk : k ≤ l.length) (hn : keyIn (l.drop k) kk = false) : valOf l kk l.length = valOf l kk k := by
  have := valOf_keep hok hk5 hn (l.length - k) (by omega)
  rwa [show k + (l.length - k) = l.length from by omega] at this
theorem keyIn_split {l : List Upd} {k : Nat} {key : Int} (h1 : keyIn (l.take k) key = false) (h2 : keyIn (l.drop k) key = false) : keyIn l key = false := by
  have : keyIn (l.take k ++ l.drop k) key = false := by
    unfold keyIn at *; rw [List.any_append, h1, h2]; rfl
  rwa [List.take_append_drop] at this
theorem pending_ok {x : Nod} {k : Nat} (h : nodeOk x = true) (hd : x.done = (k : Int)) : pending x = x.log.drop k := by simp [pending, h, hd]
theorem waits_pending {x : Nod} {key : Int} (h : nodeOk x = true) : keyWaits x key = keyIn (pending x) key := by simp [keyWaits, pending, h]
/-- a node that has been told all -/
theorem nodeRead_told {x : Nod} {key : Int} {n : Nat} (hl : x.log.length = n) (h1 : nodeOk x = true) (h2 : inB key 0 4 = true) : (nodeRead ⟨x.id, x.log, n⟩ key).2 ≠ 1 ∧ (nodeRead ⟨x.id, x.log, n⟩ key).2 ≠ 3 := by
  have ho : nodeOk ⟨x.id, x.log, n⟩ = true := by
    simp only [nodeOk, Bool.and_eq_true] at h1 ⊢
    refine ⟨h1.1, ?_⟩
    simp [inB, hl]
  have hb : (nodeOk ⟨x.id, x.log, n⟩ && inB key 0 4) = true := by rw [ho, h2]; rfl
  have hw : keyWaits ⟨x.id, x.log, n⟩ key = false := by
    simp [keyWaits, List.drop_eq_nil_of_le (show x.log.length ≤ n by omega), keyIn]
  by_cases hv : valOf x.log key n < 0
  · rw [nodeRead_none hb hw (by simpa using hv)]; exact ⟨by decide, by decide⟩
  · rw [nodeRead_clean hb hw (by simpa using hv)]; exact ⟨(show (0 : Int) ≠ 1 by decide), (show (0 : Int) ≠ 3 by decide)⟩
end Go.Proofs.Ytcomppiglhibkaa
/- What a chain tells of a key: the model, in plain Lean. -/
namespace Go.Proofs.Ytcomppiglhibkaa
open Go.RowKit

/-- what the tail tells of a key, and whether it has a value -/
def tailVal (l : List Nod) (key : Int) : Int := match l[l.length - 1]? with | some t => valOf t.log key t.log.length | none => -1
def told (x : Int) : Int × Bool := if x < 0 then (0, false) else (x, true)
def chainRead (v : Int) (l : List Nod) (key : Int) : Int × Bool := if chainOk v l && inB key 0 4 then told (tailVal l key) else (0, false)
def chainReadAt (v : Int) (l : List Nod) (id key : Int) : Int × Int :=
  if chainOk v l && inB key 0 4 then (match placeOf l id with
    | none => (0, 3)
    | some k => match l[k]? with
      | none => (0, 3)
      | some x => if (nodeRead x key).2 = 1 then (if (chainRead v l key).2 then ((chainRead v l key).1, 1) else (0, 2)) else nodeRead x key)
  else (0, 3)
theorem told_neg {x : Int} (h : x < 0) : told x = (0, false) := if_pos h
theorem told_pos {x : Int} (h : ¬ x < 0) : told x = (x, true) := if_neg h
theorem chainRead_bad {v : Int} {l : List Nod} {key : Int} (h : (chainOk v l && inB key 0 4) = false) : chainRead v l key = (0, false) := by unfold chainRead; rw [h]; rfl
theorem chainRead_ok {v : Int} {l : List Nod} {key : Int} (h : (chainOk v l && inB key 0 4) = true) : chainRead v l key = told (tailVal l key) := by unfold chainRead; rw [h]; rfl
theorem tailVal_at {l : List Nod} {key : Int} {t : Nod} {n : Nat} (hn : l.length = n) (h : l[n - 1]? = some t) : tailVal l key = valOf t.log key t.log.length := by subst hn; unfold tailVal; rw [h]
theorem readAt_bad {v : Int} {l : List Nod} {id key : Int} (h : (chainOk v l && inB key 0 4) = false) : chainReadAt v l id key = (0, 3) := by unfold chainReadAt; rw [h]; rfl
theorem readAt_none {v : Int} {l : List Nod} {id key : Int} (h : placeOf l id = none) : chainReadAt v l id key = (0, 3) := by unfold chainReadAt; rw [h]; split <;> rfl
theorem readAt_node {v : Int} {l : List Nod} {id key : Int} {k : Nat} {x : Nod} (h : (chainOk v l && inB key 0 4) = true) (hk : placeOf l id = some k) (hx : l[k]? = some x) :
    chainReadAt v l id key = if (nodeRead x key).2 = 1 then (if (chainRead v l key).2 then ((chainRead v l key).1, 1) else (0, 2)) else nodeRead x key := by
  unfold chainReadAt; rw [h, hk]; simp only [hx]; rfl
theorem valOf_prefix {a b : List Upd} {key : Int} {k : Nat} (h : a <+: b) (hk : k ≤ a.length) : valOf b key k = valOf a key k := by
  unfold valOf stAt; rw [take_prefix h hk]
theorem inB_nat {key : Int} (h : inB key 0 4 = true) : ∃ kk : Nat, key = (kk : Int) ∧ kk < 5 := by
  simp [inB] at h; exact ⟨key.toNat, by omega, by omega⟩
theorem nodeRead_cases {x : Nod} {key : Int} (h : (nodeOk x && inB key 0 4) = true) :
    (keyWaits x key = true ∧ nodeRead x key = (0, 1)) ∨ (keyWaits x key = false ∧ nodeRead x key = (if valOf x.log key x.done.toNat < 0 then (0, 2) else (valOf x.log key x.done.toNat, 0))) := by
  unfold nodeRead; rw [h]
  cases hw : keyWaits x key
  · exact .inr ⟨rfl, rfl⟩
  · exact .inl ⟨rfl, rfl⟩
/-- a node that has nothing of the key pending tells what the tail tells -/
theorem clean_tail {v : Int} {l : List Nod} {key : Int} {x : Nod} (h : Good v l) (hk : inB key 0 4 = true) (hx : x ∈ l) (hw : keyWaits x key = false) : valOf x.log key x.done.toNat = tailVal l key := by
  obtain ⟨a, t, rfl, htd, hall⟩ := good_tail h
  obtain ⟨kk, rfl, hkk⟩ := inB_nat hk
  rw [tailVal_at rfl (show (a ++ [t])[(a ++ [t]).length - 1]? = some t by simp)]
  have hxt := hall x hx
  have hok := nodeOk_iff.1 (h.2.2.2.2.1 x hx)
  have hlen := hxt.1.length_le
  rw [← valOf_prefix (key := (kk : Int)) hxt.1 (Nat.le_refl _)]
  unfold keyWaits at hw
  obtain ⟨j, hj⟩ : ∃ j, x.done.toNat + j = t.log.length := ⟨t.log.length - x.done.toNat, by omega⟩
  rw [← hj]
  exact (valOf_keep hok.2.2.1 hkk hw j (by omega)).symm
/-- who asks is told what the tail has -/
theorem readAt_asked {v : Int} {l : List Nod} {id key : Int} (h : (chainReadAt v l id key).2 = 1) : chainRead v l key = ((chainReadAt v l id key).1, true) := by
  cases hb : (chainOk v l && inB key 0 4)
  · rw [readAt_bad hb] at h; cases h
  · cases hp : placeOf l id with
    | none => rw [readAt_none hp] at h; cases h
    | some k =>
      obtain ⟨x, hx, _⟩ := place_get hp
      rw [readAt_node hb hp hx] at h ⊢
      have hbb := hb
      simp only [Bool.and_eq_true] at hbb
      have hgx := (good_iff.1 hbb.1).2.2.2.2.1 x (List.mem_of_getElem? hx)
      by_cases h1 : (nodeRead x key).2 = 1
      · rw [if_pos h1] at h ⊢
        cases hr : (chainRead v l key).2
        · rw [hr] at h; simp at h
        · simp only [if_true]; rw [← hr]
      · rw [if_neg h1] at h; exact absurd h h1
/-- each node answers as the tail does -/
theorem readAt_any {v : Int} {l : List Nod} {id key : Int} (h : (chainReadAt v l id key).2 ≠ 3) : chainRead v l key = ((chainReadAt v l id key).1, !((chainReadAt v l id key).2 == 2)) := by
  cases hb : (chainOk v l && inB key 0 4)
  · rw [readAt_bad hb] at h; exact absurd rfl h
  · cases hp : placeOf l id with
    | none => rw [readAt_none hp] at h; exact absurd rfl h
    | some k =>
      obtain ⟨x, hx, _⟩ := place_get hp
      rw [readAt_node hb hp hx]
      have hbb := hb
      simp only [Bool.and_eq_true] at hbb
      have g := good_iff.1 hbb.1
      have hxm := List.mem_of_getElem? hx
      have hgx := g.2.2.2.2.1 x hxm
      rcases nodeRead_cases (x := x) (key := key) (by rw [hgx, hbb.2]; rfl) with ⟨_, e⟩ | ⟨hw, e⟩
      · rw [e]; simp only [if_true]
        cases hr : (chainRead v l key).2
        · have hcr := chainRead_ok hb
          by_cases hn : tailVal l key < 0
          · rw [hcr, told_neg hn]; rfl
          · rw [hcr, told_pos hn] at hr; cases hr
        · simp only [if_true]; show _ = ((chainRead v l key).1, true); rw [← hr]
      · have hct := clean_tail g hbb.2 hxm hw
        rw [chainRead_ok hb, ← hct, e]
        by_cases hn : valOf x.log key x.done.toNat < 0
        · rw [if_pos hn, told_neg hn]; rfl
        · rw [if_neg hn, told_pos hn]; rfl
/-- the tail never asks -/
theorem readAt_tail {v : Int} {l : List Nod} {key : Int} {t : Nod} {n : Nat} (h : (chainOk v l && inB key 0 4) = true) (hn : l.length = n) (ht : l[n - 1]? = some t) :
    chainReadAt v l t.id key = ((chainRead v l key).1, if (chainRead v l key).2 then 0 else 2) := by
  have hbb := h
  simp only [Bool.and_eq_true] at hbb
  have g := good_iff.1 hbb.1
  have hp := good_place g ht
  have htm := List.mem_of_getElem? ht
  have hgx := g.2.2.2.2.1 t htm
  have hd : t.done = t.log.length := by have := g.2.2.2.2.2.2; rw [tailOk_at hn ht, decide_eq_true_eq] at this; exact this
  have hw : keyWaits t key = false := by unfold keyWaits; rw [hd]; simp [keyIn]
  rw [readAt_node h hp ht]
  rcases nodeRead_cases (x := t) (key := key) (by rw [hgx, hbb.2]; rfl) with ⟨hw', _⟩ | ⟨_, e⟩
  · rw [hw] at hw'; cases hw'
  · have hct := clean_tail g hbb.2 htm hw
    rw [chainRead_ok h, ← hct, e]
    by_cases hneg : valOf t.log key t.done.toNat < 0
    · rw [if_pos hneg, told_neg hneg]; rfl
    · rw [if_neg hneg, told_pos hneg]; rfl
/-- chains whose tails have the same log tell the same -/
theorem chainRead_same {v u : Int} {l r : List Nod} {key : Int} {t t' : Nod} (h : Good v l) (h' : Good u r) (ht : l[l.length - 1]? = some t) (ht' : r[r.length - 1]? = some t') (e : t'.log = t.log) : chainRead u r key = chainRead v l key := by
  unfold chainRead
  rw [good_iff.2 h, good_iff.2 h', tailVal_at rfl ht, tailVal_at rfl ht', e]
end Go.Proofs.Ytcomppiglhibkaa
/- What a chain tells of a key: impl.ChainRead, spec.ChainRead. -/
namespace Go.Proofs.Ytcomppiglhibkaa
open Go.RowKit

theorem told_vals (x : Int) : told x = ((if x < 0 then 0 else x), (if x < 0 then false else true)) := by unfold told; split <;> rfl

set_option maxHeartbeats 4000000 in
theorem chainRead_any (view : Int) (A : Option Addr) (n c : Nat) (l : List Nod) (key : Int) (w : World) (h : Nods w 0 w.heap.size A n c l) (hn : n ≤ 1048576) (hlog : ∀ x ∈ l, x.log.length ≤ 1048576) :
    Calls Mo.prog 46 #[.agg #[.int .i64 view, .slice A n c], .int .i64 key] w fun e w' => e = .returned (.tuple #[.int .i64 (chainRead view l key).1, .bool (chainRead view l key).2]) ∧ Below w.heap.size w w' := by
  have HL := Lib.hid h.len
  have HG := Lib.hid hlog
  have H := Lib.hid (h.box (.cells #[.int .i64 view, .slice A n c] 25))
  have H1 := Lib.hid h
  clear h hlog
  cases hok : chainOk view l
  · rw [chainRead_bad (by rw [hok]; rfl)]
    have HO := Lib.hid hok
    clear hok
    go_enter Mo.func46, Try.ntmps46
    go_wp2_with (go_at_call 29; refine (chainValid_any _ _ _ _ l _ H.out hn HG.out).mono ?_; rintro e w1 ⟨rfl, hb1⟩; rw [HO.out]; have B1 := Lib.hid (below_box hb1); clear hb1)
    go_ret2
    exact ⟨rfl, B1.out⟩
  have HO := Lib.hid hok
  clear hok
  cases hkey : inB key 0 4
  · rw [chainRead_bad (by rw [hkey]; simp)]
    go_enter Mo.func46, Try.ntmps46
    go_wp2_with (first | (go_at_call 29; refine (chainValid_any _ _ _ _ l _ H.out hn HG.out).mono ?_; rintro e w1 ⟨rfl, hb1⟩; rw [HO.out]; have B1 := Lib.hid (below_box hb1); clear hb1) | (go_at_call 44; refine (keyValid_any _ _).mono ?_; rintro e w' ⟨rfl, rfl⟩))
    go_ret2
    exact ⟨rfl, B1.out⟩
  rw [chainRead_ok (by rw [HO.out, hkey]; rfl)]
  obtain ⟨kk, rfl, hkk⟩ := inB_nat hkey
  have g := good_iff.1 HO.out
  have hpos : 0 < n := by have := g.2.2.1; have := HL.out; omega
  have LOK := Lib.hid (fun (x : Nod) (hx : x ∈ l) => nodeOk_log (g.2.2.2.2.1 x hx))
  have hk0 : (0 : Int) ≤ (kk : Int) := by omega
  have hk5 : (kk : Int) < 5 := by omega
  rw [told_vals]
  obtain ⟨v, hv⟩ : ∃ v, tailVal l kk = v := ⟨_, rfl⟩
  rw [hv]
  have HV := Lib.hid hv
  have nf := node_field1
  clear hv g
  go_enter Mo.func46, Try.ntmps46
  go_wp2_with fail
  refine (chainValid_any _ _ _ _ l _ H.out hn HG.out).mono ?_
  rintro e w1 ⟨rfl, hb1⟩
  rw [HO.out]
  have B1 := Lib.hid (below_box hb1)
  have q0 := box_cell (i := 0) hb1 (v := .int .i64 view) rfl
  have q1 := box_cell (i := 1) hb1 (v := .slice A n c) rfl
  have F1 := Lib.hid (H1.out.on B1.out)
  clear hb1
  go_wp2_with (go_at_call 44; refine (keyValid_any _ _).mono ?_; rintro e w' ⟨rfl, rfl⟩)
  refine (tailOf_any _ _ _ _ l _ F1.out hn hpos).mono ?_
  rintro e w2 ⟨x, A', m, d, hx, rfl, hf, hb2⟩
  have hm := hf.len
  have hm20 : m ≤ 1048576 := by have := HG.out x (List.mem_of_getElem? hx); omega
  have B2 := Lib.hid (B1.out.trans (hb2.mono B1.out.size))
  have FX := Lib.hid (hf.on hb2)
  have hlx := LOK.out x (List.mem_of_getElem? hx)
  have e0 : stateOf x.log m = stAt x.log m := by simp [stateOf, hlx, inB]; omega
  have E0 := Lib.hid e0
  have hval := HV.out
  rw [tailVal_at HL.out hx, hm] at hval
  have HVAL := Lib.hid hval
  clear hb2 hx hf hm hlx e0 hval q0 q1
  go_wp2_with fail
  refine (stateOf_any _ _ _ x.log _ FX.out hm20).mono ?_
  rintro e w3 ⟨g, cc, rfl, hl1, hl2, hl3, hs3, hb3⟩
  rw [E0.out] at hs3 hl1 ⊢
  rw [stAt_len] at hl1 ⊢
  have B3 := Lib.hid (B2.out.trans (hb3.mono B2.out.size))
  obtain ⟨y, hy, hcy⟩ := hs3.at_ (show kk < (stAt x.log m).length by rw [stAt_len]; exact hkk)
  rw [stAt_at hkk] at hy
  injection hy with hy
  rw [HVAL.out] at hy
  subst hy
  clear hs3 hb3
  by_cases hneg : v < 0
  · go_wp2
    go_ret2
    exact ⟨by simp, B3.out⟩
  · go_wp2
    go_ret2
    exact ⟨by simp, B3.out⟩

set_option maxHeartbeats 4000000 in
theorem specChainRead_any (view : Int) (A : Option Addr) (n c : Nat) (l : List Nod) (key : Int) (w : World) (h : Nods w 0 w.heap.size A n c l) (hn : n ≤ 1048576) (hlog : ∀ x ∈ l, x.log.length ≤ 1048576) :
    Calls Mo.prog 49 #[.agg #[.int .i64 view, .slice A n c], .int .i64 key] w fun e w' => e = .returned (.tuple #[.int .i64 (chainRead view l key).1, .bool (chainRead view l key).2]) ∧ Below w.heap.size w w' := by
  have HL := Lib.hid h.len
  have HG := Lib.hid hlog
  have H := Lib.hid (h.box (.cells #[.int .i64 view, .slice A n c] 25))
  have H1 := Lib.hid h
  clear h hlog
  cases hok : chainOk view l
  · rw [chainRead_bad (by rw [hok]; rfl)]
    have HO := Lib.hid hok
    clear hok
    go_enter Mo.func49, Try.ntmps49
    go_wp2_with (go_at_call 33; refine (specChainValid_any _ _ _ _ l _ H.out hn HG.out).mono ?_; rintro e w1 ⟨rfl, hb1⟩; rw [HO.out]; have B1 := Lib.hid (below_box hb1); clear hb1)
    go_ret2
    exact ⟨rfl, B1.out⟩
  have HO := Lib.hid hok
  clear hok
  cases hkey : inB key 0 4
  · rw [chainRead_bad (by rw [hkey]; simp)]
    go_enter Mo.func49, Try.ntmps49
    go_wp2_with (first | (go_at_call 33; refine (specChainValid_any _ _ _ _ l _ H.out hn HG.out).mono ?_; rintro e w1 ⟨rfl, hb1⟩; rw [HO.out]; have B1 := Lib.hid (below_box hb1); clear hb1) | (go_at_call 47; refine (l6In_any _ _ _ _).mono ?_; rintro e w' ⟨rfl, rfl⟩))
    go_ret2
    exact ⟨rfl, B1.out⟩
  rw [chainRead_ok (by rw [HO.out, hkey]; rfl)]
  obtain ⟨kk, rfl, hkk⟩ := inB_nat hkey
  have g := good_iff.1 HO.out
  have hpos : 0 < n := by have := g.2.2.1; have := HL.out; omega
  have hpos' : (1 : Int) ≤ (n : Int) := by omega
  have LOK := Lib.hid (fun (x : Nod) (hx : x ∈ l) => nodeOk_log (g.2.2.2.2.1 x hx))
  have hk0 : (0 : Int) ≤ (kk : Int) := by omega
  have hk5 : (kk : Int) < 5 := by omega
  rw [told_vals]
  obtain ⟨v, hv⟩ : ∃ v, tailVal l kk = v := ⟨_, rfl⟩
  rw [hv]
  have HV := Lib.hid hv
  clear hv g
  go_enter Mo.func49, Try.ntmps49
  go_wp2_with fail
  refine (specChainValid_any _ _ _ _ l _ H.out hn HG.out).mono ?_
  rintro e w1 ⟨rfl, hb1⟩
  rw [HO.out]
  have B1 := Lib.hid (below_box hb1)
  have q0 := box_cell (i := 0) hb1 (v := .int .i64 view) rfl
  have q1 := box_cell (i := 1) hb1 (v := .slice A n c) rfl
  have s1 : w.heap.size < w1.heap.size := by have := hb1.size; simp at this; omega
  obtain ⟨b, off, x, A', m, d, rfl, _, hbB, hx, c0, c1, c2, hf⟩ := (H1.out.on B1.out).nod (show n - 1 < n by omega)
  have hm := hf.len
  have hm20 : m ≤ 1048576 := by have := HG.out x (List.mem_of_getElem? hx); omega
  have hlx := LOK.out x (List.mem_of_getElem? hx)
  have FX := Lib.hid (hf.box (.cells #[.int .i64 x.id, .slice A' m d, .int .i64 x.done] 34))
  have hval := HV.out
  rw [tailVal_at HL.out hx, hm] at hval
  have HVAL := Lib.hid hval
  have HLX := Lib.hid hlx
  have XB := Lib.hid (Blk.new w1 #[.int .i64 x.id, .slice A' m d, .int .i64 x.done] 34)
  clear hb1 hx hf hm hlx hval
  go_wp2_with (go_at_call 47; refine (l6In_any _ _ _ _).mono ?_; rintro e w' ⟨rfl, rfl⟩)
  refine (l2At_any _ _ _ x.log m _ FX.out hm20 HLX.out (Nat.le_refl _)).mono ?_
  rintro e w3 ⟨g, cc, rfl, hl1, hl2, hl3, hs3, hb3⟩
  rw [stAt_len] at hl1 ⊢
  have B3 := Lib.hid (B1.out.trans ((below_box hb3).mono B1.out.size))
  obtain ⟨y, hy, hcy⟩ := hs3.at_ (show kk < (stAt x.log m).length by rw [stAt_len]; exact hkk)
  rw [stAt_at hkk] at hy
  injection hy with hy
  rw [HVAL.out] at hy
  subst hy
  clear hs3 hb3
  by_cases hneg : v < 0
  · go_wp2
    go_ret2
    exact ⟨by simp, B3.out⟩
  · go_wp2
    go_ret2
    exact ⟨by simp, B3.out⟩
end Go.Proofs.Ytcomppiglhibkaa
/- What a node of a chain tells of a key: impl.ChainReadAt, spec.ChainReadAt. -/
namespace Go.Proofs.Ytcomppiglhibkaa
open Go.RowKit

set_option maxHeartbeats 4000000 in
theorem chainReadAt_any (view : Int) (A : Option Addr) (n c : Nat) (l : List Nod) (id key : Int) (w : World) (h : Nods w 0 w.heap.size A n c l) (hn : n ≤ 1048576) (hlog : ∀ x ∈ l, x.log.length ≤ 1048576) :
    Calls Mo.prog 19 #[.agg #[.int .i64 view, .slice A n c], .int .i64 id, .int .i64 key] w fun e w' => e = .returned (.tuple #[.int .i64 (chainReadAt view l id key).1, .int .i64 (chainReadAt view l id key).2]) ∧ Below w.heap.size w w' := by
  have HL := Lib.hid h.len
  have HG := Lib.hid hlog
  have H := Lib.hid (h.box (.cells #[.int .i64 view, .slice A n c] 25))
  have H1 := Lib.hid h
  clear h hlog
  obtain ⟨a1, ha1⟩ : ∃ a1, (chainReadAt view l id key).1 = a1 := ⟨_, rfl⟩
  obtain ⟨a2, ha2⟩ : ∃ a2, (chainReadAt view l id key).2 = a2 := ⟨_, rfl⟩
  rw [ha1, ha2]
  have RA := Lib.hid (show chainReadAt view l id key = (a1, a2) by rw [← ha1, ← ha2])
  clear ha1 ha2
  obtain ⟨ok, hok⟩ : ∃ ok, chainOk view l = ok := ⟨_, rfl⟩
  obtain ⟨kb, hkb⟩ : ∃ kb, inB key 0 4 = kb := ⟨_, rfl⟩
  have HO := Lib.hid hok
  have HK := Lib.hid hkb
  obtain ⟨pl, hpl⟩ : ∃ pl, placeI (placeOf l id) = pl := ⟨_, rfl⟩
  have HPL := Lib.hid hpl
  have bad : (ok && kb) = false ∨ ((ok && kb) = true ∧ pl < 0) → a1 = 0 ∧ a2 = 3 := fun h => by
    have e : chainReadAt view l id key = (0, 3) := by
      rcases h with h | ⟨_, h⟩
      · exact readAt_bad (by rw [hok, hkb]; exact h)
      · cases hp : placeOf l id with
        | none => exact readAt_none hp
        | some k => rw [hp] at hpl; rw [← hpl] at h; simp [placeI] at h; omega
    rw [RA.out] at e; injection e with e1 e2; exact ⟨e1, e2⟩
  have BAD := Lib.hid bad
  clear hok hkb hpl bad
  go_enter Mo.func19, Try.ntmps19
  go_wp2_with fail
  refine (chainValid_any _ _ _ _ l _ H.out hn HG.out).mono ?_
  rintro e w1 ⟨rfl, hb1⟩
  rw [HO.out]
  have B1 := Lib.hid (below_box hb1)
  have K1 := Lib.hid ((Blk.new w #[.int .i64 view, .slice A n c] 25).below hb1)
  have q0 := K1.out.cell (i := 0) (v := .int .i64 view) rfl
  have q1 := K1.out.cell (i := 1) (v := .slice A n c) rfl
  have F1 := Lib.hid (H1.out.on B1.out)
  clear hb1
  cases ok
  · obtain ⟨rfl, rfl⟩ := BAD.out (.inl rfl)
    go_wp2
    go_ret2
    exact ⟨rfl, B1.out⟩
  cases kb
  · obtain ⟨rfl, rfl⟩ := BAD.out (.inl rfl)
    go_wp2_with (go_at_call 44; refine (keyValid_any _ _).mono ?_; rintro e w' ⟨rfl, rfl⟩; rw [HK.out])
    go_ret2
    exact ⟨rfl, B1.out⟩
  go_wp2_with (go_at_call 44; refine (keyValid_any _ _).mono ?_; rintro e w' ⟨rfl, rfl⟩; rw [HK.out])
  refine (chainPlace_any _ _ _ _ l _ _ F1.out hn).mono ?_
  rintro e w2 ⟨rfl, hb2⟩
  rw [HPL.out]
  have B2 := Lib.hid (B1.out.trans (hb2.mono B1.out.size))
  have K2 := Lib.hid (K1.out.below hb2)
  clear hb2 q0 q1 K1 F1
  by_cases hneg : pl < 0
  · obtain ⟨rfl, rfl⟩ := BAD.out (.inr ⟨rfl, hneg⟩)
    go_wp2
    go_ret2
    exact ⟨rfl, B2.out⟩
  obtain ⟨k, hk, rfl⟩ : ∃ k, placeOf l id = some k ∧ pl = (k : Int) := by
    have := HPL.out
    cases hp : placeOf l id with
    | none => rw [hp] at this; simp [placeI] at this; omega
    | some k => rw [hp] at this; exact ⟨k, rfl, this.symm⟩
  have hkn : k < n := by have := placeOf_lt hk; have := HL.out; omega
  have hkn' : (k : Int) < (n : Int) := by omega
  have q0 := K2.out.cell (i := 0) (v := .int .i64 view) rfl
  have q1 := K2.out.cell (i := 1) (v := .slice A n c) rfl
  have s2 : w.heap.size < w2.heap.size := K2.out.lt
  obtain ⟨b, off, x, A', m, d, rfl, _, hbB, hx, c0, c1, c2, hf⟩ := (H1.out.on B2.out).nod hkn
  have hm20 : m ≤ 1048576 := by have := hf.len; have := HG.out x (List.mem_of_getElem? hx); omega
  have HF := Lib.hid hf
  have hra := readAt_node (key := key) (by rw [HO.out, HK.out]; rfl) hk hx
  rw [RA.out] at hra
  obtain ⟨v1, hv1⟩ : ∃ v1, (nodeRead x key).1 = v1 := ⟨_, rfl⟩
  obtain ⟨d1, hd1⟩ : ∃ d1, (nodeRead x key).2 = d1 := ⟨_, rfl⟩
  have HV1 := Lib.hid hv1
  have HD1 := Lib.hid hd1
  have hnr : nodeRead x key = (v1, d1) := by rw [← hv1, ← hd1]
  rw [hnr] at hra
  have HRA := Lib.hid hra
  clear hk hx hf hra hv1 hd1 hnr hneg
  go_wp2_with fail
  refine (nodeRead_any x key _ _ _ _ HF.out hm20).mono ?_
  rintro e w3 ⟨rfl, hb3⟩
  rw [HV1.out, HD1.out]
  have B3 := Lib.hid (B2.out.trans (hb3.mono B2.out.size))
  have K3 := Lib.hid (K2.out.below hb3)
  have F3 := Lib.hid (H1.out.on B3.out)
  clear hb3 q0 q1 c0 c1 c2 K2
  have q0 := K3.out.cell (i := 0) (v := .int .i64 view) rfl
  have q1 := K3.out.cell (i := 1) (v := .slice (some ⟨b, off, none⟩) n c) rfl
  by_cases h1 : d1 = 1
  · subst h1
    have hra := HRA.out
    simp only [if_true] at hra
    obtain ⟨v2, hv2⟩ : ∃ v2, (chainRead view l key).1 = v2 := ⟨_, rfl⟩
    obtain ⟨b2, hb2'⟩ : ∃ b2, (chainRead view l key).2 = b2 := ⟨_, rfl⟩
    rw [hv2, hb2'] at hra
    have HV2 := Lib.hid hv2
    have HB2 := Lib.hid hb2'
    have HR := Lib.hid hra
    clear hra hv2 hb2'
    go_wp2_with fail
    refine (chainRead_any view _ _ _ l key _ F3.out hn HG.out).mono ?_
    rintro e w4 ⟨rfl, hb4⟩
    rw [HV2.out, HB2.out]
    have B4 := Lib.hid (B3.out.trans (hb4.mono B3.out.size))
    clear hb4 q0 q1
    cases b2
    · have hr := HR.out
      simp at hr
      obtain ⟨rfl, rfl⟩ := hr
      go_wp2
      go_ret2
      exact ⟨rfl, B4.out⟩
    · have hr := HR.out
      simp at hr
      obtain ⟨rfl, rfl⟩ := hr
      go_wp2
      go_ret2
      exact ⟨rfl, B4.out⟩
  · have hra := HRA.out
    rw [if_neg h1] at hra
    injection hra with e1 e2
    subst e1; subst e2
    have hne : (a2 != 1) = true := by simp [h1]
    clear h1
    go_wp2
    go_ret2
    exact ⟨rfl, B3.out⟩

set_option maxHeartbeats 4000000 in
theorem specChainReadAt_any (view : Int) (A : Option Addr) (n c : Nat) (l : List Nod) (id key : Int) (w : World) (h : Nods w 0 w.heap.size A n c l) (hn : n ≤ 1048576) (hlog : ∀ x ∈ l, x.log.length ≤ 1048576) :
    Calls Mo.prog 20 #[.agg #[.int .i64 view, .slice A n c], .int .i64 id, .int .i64 key] w fun e w' => e = .returned (.tuple #[.int .i64 (chainReadAt view l id key).1, .int .i64 (chainReadAt view l id key).2]) ∧ Below w.heap.size w w' := by
  have HL := Lib.hid h.len
  have HG := Lib.hid hlog
  have H := Lib.hid (h.box (.cells #[.int .i64 view, .slice A n c] 25))
  have H1 := Lib.hid h
  clear h hlog
  obtain ⟨a1, ha1⟩ : ∃ a1, (chainReadAt view l id key).1 = a1 := ⟨_, rfl⟩
  obtain ⟨a2, ha2⟩ : ∃ a2, (chainReadAt view l id key).2 = a2 := ⟨_, rfl⟩
  rw [ha1, ha2]
  have RA := Lib.hid (show chainReadAt view l id key = (a1, a2) by rw [← ha1, ← ha2])
  clear ha1 ha2
  obtain ⟨ok, hok⟩ : ∃ ok, chainOk view l = ok := ⟨_, rfl⟩
  obtain ⟨kb, hkb⟩ : ∃ kb, inB key 0 4 = kb := ⟨_, rfl⟩
  have HO := Lib.hid hok
  have HK := Lib.hid hkb
  obtain ⟨pl, hpl⟩ : ∃ pl, placeI (placeOf l id) = pl := ⟨_, rfl⟩
  have HPL := Lib.hid hpl
  have bad : (ok && kb) = false ∨ pl < 0 → a1 = 0 ∧ a2 = 3 := fun h => by
    have e : chainReadAt view l id key = (0, 3) := by
      rcases h with h | h
      · exact readAt_bad (by rw [hok, hkb]; exact h)
      · cases hp : placeOf l id with
        | none => exact readAt_none hp
        | some k => rw [hp] at hpl; rw [← hpl] at h; simp [placeI] at h; omega
    rw [RA.out] at e; injection e with e1 e2; exact ⟨e1, e2⟩
  have BAD := Lib.hid bad
  clear hok hkb hpl bad
  go_enter Mo.func20, Try.ntmps20
  go_wp2_with fail
  refine (l11At_any _ _ _ _ l _ _ H.out hn).mono ?_
  rintro e w1 ⟨rfl, hb1⟩
  rw [HPL.out]
  have B1 := Lib.hid (below_box hb1)
  have K1 := Lib.hid ((Blk.new w #[.int .i64 view, .slice A n c] 25).below hb1)
  have q0 := K1.out.cell (i := 0) (v := .int .i64 view) rfl
  have q1 := K1.out.cell (i := 1) (v := .slice A n c) rfl
  have F1 := Lib.hid (H1.out.on B1.out)
  clear hb1
  go_wp2_with fail
  refine (specChainValid_any _ _ _ _ l _ F1.out hn HG.out).mono ?_
  rintro e w2 ⟨rfl, hb2⟩
  rw [HO.out]
  have B2 := Lib.hid (B1.out.trans (hb2.mono B1.out.size))
  have K2 := Lib.hid (K1.out.below hb2)
  clear hb2 q0 q1 K1 F1
  cases ok
  · obtain ⟨rfl, rfl⟩ := BAD.out (.inl rfl)
    go_wp2
    go_ret2
    exact ⟨rfl, B2.out⟩
  by_cases hneg : pl < 0
  · obtain ⟨rfl, rfl⟩ := BAD.out (.inr hneg)
    go_wp2
    go_ret2
    exact ⟨rfl, B2.out⟩
  cases kb
  · obtain ⟨rfl, rfl⟩ := BAD.out (.inl rfl)
    go_wp2_with (go_at_call 47; refine (l6In_any _ _ _ _).mono ?_; rintro e w' ⟨rfl, rfl⟩; rw [HK.out])
    go_ret2
    exact ⟨rfl, B2.out⟩
  obtain ⟨k, hk, rfl⟩ : ∃ k, placeOf l id = some k ∧ pl = (k : Int) := by
    have := HPL.out
    cases hp : placeOf l id with
    | none => rw [hp] at this; simp [placeI] at this; omega
    | some k => rw [hp] at this; exact ⟨k, rfl, this.symm⟩
  have hkn : k < n := by have := placeOf_lt hk; have := HL.out; omega
  have hkn' : (k : Int) < (n : Int) := by omega
  have q0 := K2.out.cell (i := 0) (v := .int .i64 view) rfl
  have q1 := K2.out.cell (i := 1) (v := .slice A n c) rfl
  have s2 : w.heap.size < w2.heap.size := K2.out.lt
  obtain ⟨b, off, x, A', m, d, rfl, _, hbB, hx, c0, c1, c2, hf⟩ := (H1.out.on B2.out).nod hkn
  have hm20 : m ≤ 1048576 := by have := hf.len; have := HG.out x (List.mem_of_getElem? hx); omega
  have HF := Lib.hid hf
  have hra := readAt_node (key := key) (by rw [HO.out, HK.out]; rfl) hk hx
  rw [RA.out] at hra
  obtain ⟨v1, hv1⟩ : ∃ v1, (nodeRead x key).1 = v1 := ⟨_, rfl⟩
  obtain ⟨d1, hd1⟩ : ∃ d1, (nodeRead x key).2 = d1 := ⟨_, rfl⟩
  have HV1 := Lib.hid hv1
  have HD1 := Lib.hid hd1
  have hnr : nodeRead x key = (v1, d1) := by rw [← hv1, ← hd1]
  rw [hnr] at hra
  have HRA := Lib.hid hra
  clear hk hx hf hra hv1 hd1 hnr hneg
  go_wp2_with ((go_at_call 47; refine (l6In_any _ _ _ _).mono ?_; rintro e w' ⟨rfl, rfl⟩; rw [HK.out]))
  refine (specNodeRead_any x key _ _ _ _ HF.out hm20).mono ?_
  rintro e w3 ⟨rfl, hb3⟩
  rw [HV1.out, HD1.out]
  have B3 := Lib.hid (B2.out.trans (hb3.mono B2.out.size))
  have K3 := Lib.hid (K2.out.below hb3)
  have F3 := Lib.hid (H1.out.on B3.out)
  clear hb3 q0 q1 c0 c1 c2 K2
  have q0 := K3.out.cell (i := 0) (v := .int .i64 view) rfl
  have q1 := K3.out.cell (i := 1) (v := .slice (some ⟨b, off, none⟩) n c) rfl
  by_cases h1 : d1 = 1
  · subst h1
    have hra := HRA.out
    simp only [if_true] at hra
    obtain ⟨v2, hv2⟩ : ∃ v2, (chainRead view l key).1 = v2 := ⟨_, rfl⟩
    obtain ⟨b2, hb2'⟩ : ∃ b2, (chainRead view l key).2 = b2 := ⟨_, rfl⟩
    rw [hv2, hb2'] at hra
    have HV2 := Lib.hid hv2
    have HB2 := Lib.hid hb2'
    have HR := Lib.hid hra
    clear hra hv2 hb2'
    go_wp2_with fail
    refine (specChainRead_any view _ _ _ l key _ F3.out hn HG.out).mono ?_
    rintro e w4 ⟨rfl, hb4⟩
    rw [HV2.out, HB2.out]
    have B4 := Lib.hid (B3.out.trans (hb4.mono B3.out.size))
    clear hb4 q0 q1
    cases b2
    · have hr := HR.out
      simp at hr
      obtain ⟨rfl, rfl⟩ := hr
      go_wp2
      go_ret2
      exact ⟨rfl, B4.out⟩
    · have hr := HR.out
      simp at hr
      obtain ⟨rfl, rfl⟩ := hr
      go_wp2
      go_ret2
      exact ⟨rfl, B4.out⟩
  · have hra := HRA.out
    rw [if_neg h1] at hra
    injection hra with e1 e2
    subst e1; subst e2
    have hne : (a2 != 1) = true := by simp [h1]
    clear h1
    go_wp2
    go_ret2
    exact ⟨rfl, B3.out⟩

end Go.Proofs.Ytcomppiglhibkaa
