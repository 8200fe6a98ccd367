/- Marking a row of nodes: each node's cells and its log's are overwritten with numbers counted up; reading them again. -/
import Derived.Test.YtnbakpdphfdacaaMark
import Derived.Test.YtnbakpdphfdacaaConvN
namespace Go.Proofs.Ytnbakpdphfdacaa
open Go.RowKit

/-- the number ahead of node k -/
def mk (s : Int) (l : List Nod) : Nat → Int
  | 0 => s
  | k + 1 => mk s l k + 2 * ((match l[k]? with | some x => x.log.length | none => 0 : Nat) : Int) + 2
def mkNod (v : Int) (m : Nat) : Nod := ⟨v, marks (v + 1) m, v + 1 + 2 * (m : Int)⟩
/-- the first k are marked -/
def mkd (s : Int) (l : List Nod) : Nat → List Nod
  | 0 => l
  | k + 1 => (mkd s l k).set k (mkNod (mk s l k) (match l[k]? with | some x => x.log.length | none => 0))
theorem mk_succ {s : Int} {l : List Nod} {k : Nat} {x : Nod} (hx : l[k]? = some x) : mk s l (k + 1) = mk s l k + 2 * (x.log.length : Int) + 2 := by simp [mk, hx]
theorem mkd_succ {s : Int} {l : List Nod} {k : Nat} {x : Nod} (hx : l[k]? = some x) : mkd s l (k + 1) = (mkd s l k).set k (mkNod (mk s l k) x.log.length) := by simp [mkd, hx]
theorem mkd_length (s : Int) (l : List Nod) (k : Nat) : (mkd s l k).length = l.length := by
  induction k with
  | zero => rfl
  | succ k ih => rw [mkd, List.length_set, ih]
theorem mkd_ge (s : Int) (l : List Nod) {k j : Nat} (h : k ≤ j) : (mkd s l k)[j]? = l[j]? := by
  induction k with
  | zero => rfl
  | succ k ih => rw [mkd, List.getElem?_set_ne (by omega), ih (by omega)]
theorem mkd_lt {s : Int} {l : List Nod} {k j : Nat} {x : Nod} (h : j < k) (hx : l[j]? = some x) : (mkd s l k)[j]? = some (mkNod (mk s l j) x.log.length) := by
  induction k with
  | zero => omega
  | succ k ih =>
    by_cases e : j = k
    · subst e
      have hj := (List.getElem?_eq_some_iff.1 hx).1
      rw [mkd_succ hx, List.getElem?_set_self (by rw [mkd_length]; exact hj)]
    · rw [mkd, List.getElem?_set_ne (by omega), ih (by omega)]
theorem mk_bd {s : Int} {l : List Nod} (h : ∀ x ∈ l, x.log.length ≤ 1048576) (k : Nat) : s ≤ mk s l k ∧ mk s l k ≤ s + 2097154 * (k : Int) := by
  induction k with
  | zero => simp [mk]
  | succ k ih =>
    unfold mk
    cases hx : l[k]? with
    | none => simp only []; push_cast; omega
    | some x =>
      have := h x (List.mem_of_getElem? hx)
      simp only []; push_cast; omega

section
variable {w w' : World} {lo hi : Nat} {v : Value} {l : List Nod}
/-- one node of a row of the call's own: its cells, its log, and what storing another log of the same length makes of the row -/
theorem NodRow.openLog {g n c k : Nat} (h : NodRow w lo hi (.slice (some ⟨g, 0, none⟩) n c) l) (hk : k < l.length) :
    ∃ x A' m d, l[k]? = some x ∧ w.cell? ⟨g, k * 3, none⟩ = some (.int .i64 x.id) ∧ w.cell? ⟨g, k * 3 + 1, none⟩ = some (.slice A' m d) ∧ w.cell? ⟨g, k * 3 + 2, none⟩ = some (.int .i64 x.done) ∧ x.log.length = m ∧
      w.ownsRow lo 72 2 (.slice A' m d) m (x.log.flatMap Upd.enc) ∧ (∀ q, (Value.slice A' m d).ownBlock = some q → lo ≤ q ∧ q < hi ∧ q ≠ g) ∧
      (∀ (w' : World) (lg : List Upd), lg.length = m → w'.ownsRow lo 72 2 (.slice A' m d) m (lg.flatMap Upd.enc) → w.grownBy w' (Value.slice A' m d).ownBlock → NodRow w' lo hi (.slice (some ⟨g, 0, none⟩) n c) (l.set k { x with log := lg })) := by
  obtain rfl : n = l.length := h.nods'.1
  obtain ⟨rs, ho, hv, hl, hr, hd⟩ := h
  have hx : l[k]? = some l[k] := List.getElem?_eq_getElem hk
  have hrk : rs[k]? = some (rs[k]'(by omega)) := List.getElem?_eq_getElem _
  obtain ⟨a1, a2, a3, a4, a5⟩ := hr k _ _ hrk hx
  have hcell : ∀ j u, ((rs[k]'(by omega)).enc)[j]? = some u → w.cell? ⟨g, k * 3 + j, none⟩ = some u := fun j u hu => by
    have hj : j < 3 := by have := (List.getElem?_eq_some_iff.1 hu).1; rw [RN.len] at this; exact this
    have hlt : k * 3 + j < l.length * 3 := by omega
    rw [ho.cellAt (k * 3 + j) hlt, flatMap_get RN.len rs k _ hrk j u hu]
  have offg : ∀ {A : Option Addr} {m c' : Nat} {xs : List Value} {lo' : Nat}, w.ownsRow lo' 72 2 (.slice A m c') m xs → ∀ q, (Value.slice A m c').ownBlock = some q → q ≠ g := fun hh q hq e => by
    subst e
    exact own_part hh ho (by decide) hq rfl
  refine ⟨_, (rs[k]'(by omega)).A, (rs[k]'(by omega)).n, (rs[k]'(by omega)).c, hx, ?_, hcell 1 _ rfl, ?_, a3, a4, fun q hq => ⟨(a4.lt q hq).1, a5 q hq, offg a4 q hq⟩, fun w' lg hlg hown hgr => ?_⟩
  · rw [← a1]; exact hcell 0 _ rfl
  · rw [← a2]; exact hcell 2 _ rfl
  · refine ⟨rs, by rw [List.length_set]; exact own_keep ho (fun q hq => hgr.block q (ho.lt q hq).2 (fun e => offg a4 q e.symm (by simpa [Value.ownBlock] using hq.symm))), hv, by simp [hl], fun i r y h1 h2 => ?_, hd⟩
    by_cases hik : k = i
    · subst hik
      rw [List.getElem?_set_self (by omega)] at h2
      injection h2 with h2
      rw [hrk] at h1; injection h1 with h1
      subst h1; subst h2
      exact ⟨a1, a2, hlg, hown, a5⟩
    · rw [List.getElem?_set_ne hik] at h2
      obtain ⟨b1, b2, b3, b4, b5⟩ := hr i r y h1 h2
      refine ⟨b1, b2, b3, own_keep b4 (fun q hq => hgr.block q (b4.lt q hq).2 (fun e => ?_)), b5⟩
      rcases Nat.lt_or_gt_of_ne hik with hlt | hlt
      · exact hd k i _ r q hrk h1 hlt e.symm hq
      · exact hd i k r _ q h1 hrk hlt hq e.symm
end

set_option maxHeartbeats 4000000 in
theorem markNodeS_row (g n c lo hi : Nat) (l : List Nod) (s : Int) (w : World) (h : NodRow w lo hi (.slice (some ⟨g, 0, none⟩) n c) l) (hn : n ≤ 1048576) (hlog : ∀ x ∈ l, x.log.length ≤ 1048576) (hs0 : 0 ≤ s) (hs1 : s ≤ 2097154) :
    Calls Try.prog 52 #[.slice (some ⟨g, 0, none⟩) n c, .int .i64 s] w fun e w' => e = .returned (.int .i64 (mk s l n)) ∧
      NodRow w' lo hi (.slice (some ⟨g, 0, none⟩) n c) (mkd s l n) ∧ Kept lo hi w w' := by
  have hln := h.nods'.1
  have hgb : lo ≤ g ∧ g < hi := by
    obtain ⟨rs, ho, hv, _⟩ := h
    exact ⟨(ho.lt g rfl).1, hv g rfl⟩
  have MB := Lib.hid (fun k => mk_bd (s := s) hlog k)
  have H := Lib.hid h
  have HL := Lib.hid hln
  have HG := Lib.hid hlog
  clear h hln hlog
  go_enter Try.func52, Try.ntmps52
  go_wp2
  go_loopw [1, 5] (fun v i wr => ∃ (k : Nat) (u : Int), k ≤ n ∧ v = .int .i64 u ∧ i = .int .i64 k ∧ Hid (u = mk s l k) ∧ Hid (NodRow wr lo hi (.slice (some ⟨g, 0, none⟩) n c) (mkd s l k)) ∧ Kept lo hi w wr) (fun _ i _ => n - (intOf i).toNat)
  case atStart => exact ⟨0, s, Nat.zero_le _, rfl, rfl, rfl, H.out, Kept.refl _ _ _⟩
  case round =>
    obtain ⟨k, u, hk, rfl, rfl, HU, HR, hK⟩ := hrel
    have HK := Lib.hid hK
    clear hK
    have hb := MB.out k
    rw [← HU.out] at hb
    by_cases hl : k < n
    · obtain ⟨x, A1, m1, d1, hx, c0, c1, c2, hm, _, _, _⟩ := HR.out.openLog (k := k) (by rw [mkd_length, ← HL.out]; exact hl)
      have hx' : l[k]? = some x := by rw [← hx]; exact (mkd_ge s l (Nat.le_refl k)).symm
      have HX := Lib.hid hx'
      have hlen := HG.out x (List.mem_of_getElem? hx')
      have H2 := Lib.hid (by have := HR.out.setId hx u; simp only [Nat.add_zero] at this; exact this)
      obtain ⟨y, A2, m2, d2, hy, _, e1, e2, hm2, ho2, hq2, hup2⟩ := H2.out.openLog (k := k) (by rw [List.length_set, mkd_length, ← HL.out]; exact hl)
      have hyx : y = { x with id := u } := by
        rw [List.getElem?_set_self (by rw [mkd_length, ← HL.out]; exact hl)] at hy; injection hy with hy; exact hy.symm
      have hm2' : m2 ≤ 1048576 := by rw [← hm2, hyx]; exact hlen
      have HM := Lib.hid (show m2 = x.log.length by rw [← hm2, hyx])
      have HY := Lib.hid hyx
      have O2 := Lib.hid ho2
      have Q2 := Lib.hid hq2
      have U2 := Lib.hid hup2
      have f0 : wr.frozen? ⟨g, k * 3, none⟩ = false := by
        obtain ⟨_, _, _, _, _, _, _, _, _, _, hfr⟩ := HR.out.at_ (k := k) (by rw [mkd_length, ← HL.out]; exact hl)
        exact hfr _
      clear hx hx' hm hlen hy hm2 hyx ho2 hq2 hup2
      have hk0 : (0 : Int) ≤ (k : Int) := by omega
      have hkn : (k : Int) < (n : Int) := by omega
      have q1 : IntKind.i64.wrap (u + 1) = u + 1 := IntWalk.i64_in _ (by omega)
      go_wp2_with fail
      refine (markUpdateS_own lo A2 m2 d2 _ (u + 1) _ O2.out hm2' (by omega) (by omega)).mono ?_
      rintro e w3 ⟨rfl, hown3, hg3⟩
      have hr3 := U2.out w3 _ (marks_length _ _) hown3 hg3
      obtain ⟨z, A4, m4, d4, hz, _, _, t2, _, _, hfr⟩ := hr3.at_ (k := k) (by rw [List.length_set, List.length_set, mkd_length, ← HL.out]; exact hl)
      have f2 := hfr (k * 3 + 2)
      have S3 := Lib.hid (hr3.setDone hz (u + 1 + 2 * (m2 : Int)))
      have HZ := Lib.hid hz
      have K3 := Lib.hid ((HK.out.set (a := ⟨g, k * 3, none⟩) hgb.1 hgb.2 (.int .i64 u)).grown hg3 (fun q hq => ⟨(Q2.out q hq).1, (Q2.out q hq).2.1⟩))
      have q2 : IntKind.i64.wrap (u + 1 + 2 * (m2 : Int) + 1) = u + 1 + 2 * (m2 : Int) + 1 := IntWalk.i64_in _ (by omega)
      clear hown3 hg3 hr3 hz hfr e1 e2 c0 c1 c2
      go_wp2_with fail
      go_roundw
      case rel =>
        refine ⟨k + 1, u + 1 + 2 * (m2 : Int) + 1, by omega, rfl, by go_num, ?_, ?_, K3.out.set (a := ⟨g, k * 3 + 2, none⟩) hgb.1 hgb.2 _⟩
        · show _ = _
          rw [mk_succ HX.out, ← HU.out, ← HM.out]; omega
        · have h3 := S3.out
          have ez : z = ⟨u, marks (u + 1) m2, z.done⟩ := by
            have := HZ.out
            rw [List.getElem?_set_self (by rw [List.length_set, mkd_length, ← HL.out]; exact hl)] at this
            injection this with this
            rw [← this, HY.out]
          rw [List.set_set, List.set_set, ez] at h3
          show NodRow _ _ _ _ _
          rw [mkd_succ HX.out, ← HU.out, ← HM.out]
          exact h3
      case measure => simp [intOf]; omega
    · obtain rfl : k = n := by omega
      go_wp2
      go_ret
      exact ⟨ret_int HU.out, HR.out, HK.out⟩
end Go.Proofs.Ytnbakpdphfdacaa
