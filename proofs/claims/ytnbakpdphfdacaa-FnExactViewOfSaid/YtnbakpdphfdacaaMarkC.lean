/- Marking a chain and reading the marks again: laws.markChain, laws.heldNodeS, laws.heldChain. -/
import Derived.Test.YtnbakpdphfdacaaMarkN
namespace Go.Proofs.Ytnbakpdphfdacaa
open Go.RowKit

theorem Kept.alloc {lo hi : Nat} {w w1 : World} (h : Kept lo hi w w1) (o : Obj) : Kept lo hi w (w1.alloc o) :=
  h.trans ⟨by simp, rfl, rfl, rfl, fun b hb _ => Below.heap_alloc _ _ _ hb⟩
theorem Kept.ofBelow {lo hi : Nat} {w w1 : World} (hb : Below w.heap.size w w1) : Kept lo hi w w1 := ⟨hb.size, hb.os, hb.tape, hb.output, fun b h _ => hb.block b h⟩

set_option maxHeartbeats 2000000 in
theorem markNodeS_nil (s : Int) (w : World) :
    Calls Try.prog 52 #[.slice none 0 0, .int .i64 s] w fun e w' => e = .returned (.int .i64 s) ∧ w = w' := by
  go_enter Try.func52, Try.ntmps52
  go_wp2
  go_loopw [1, 5] (fun v i wr => v = .int .i64 s ∧ i = .int .i64 0 ∧ w = wr) (fun _ _ _ => 0)
  case atStart => exact ⟨rfl, rfl, rfl⟩
  case round =>
    obtain ⟨rfl, rfl, rfl⟩ := hrel
    go_wp2
    go_ret
    exact ⟨rfl, rfl⟩

theorem markNodeS_any (lo hi : Nat) (A : Option Addr) (n c : Nat) (l : List Nod) (s : Int) (w : World) (h : NodRow w lo hi (.slice A n c) l) (hn : n ≤ 1048576) (hlog : ∀ x ∈ l, x.log.length ≤ 1048576) (hs0 : 0 ≤ s) (hs1 : s ≤ 2097154) :
    Calls Try.prog 52 #[.slice A n c, .int .i64 s] w fun e w' => e = .returned (.int .i64 (mk s l n)) ∧
      NodRow w' lo hi (.slice A n c) (mkd s l n) ∧ Kept lo hi w w' := by
  have ho : ∃ rs : List RN, w.ownsRow lo 57 3 (.slice A n c) l.length (rs.flatMap RN.enc) := by obtain ⟨rs, ho, _⟩ := h; exact ⟨rs, ho⟩
  obtain ⟨rs, ho⟩ := ho
  rcases ho.2 with ⟨hv, h0⟩ | ⟨g, cap, cur, hv, _⟩
  · injection hv with e1 e2 e3
    subst e1; subst e2; subst e3
    have hl : l = [] := List.eq_nil_of_length_eq_zero h0
    subst hl
    refine (markNodeS_nil s w).mono ?_
    rintro e w' ⟨rfl, rfl⟩
    exact ⟨rfl, h, Kept.refl _ _ _⟩
  · injection hv with e1 e2 e3
    subst e1
    exact markNodeS_row g n c lo hi l s w h hn hlog hs0 hs1

set_option maxHeartbeats 2000000 in
theorem markChain_any (lo hi : Nat) (view : Int) (A : Option Addr) (n c : Nat) (l : List Nod) (s : Int) (w : World) (h : NodRow w lo hi (.slice A n c) l) (hhi : hi ≤ w.heap.size) (hn : n ≤ 1048576) (hlog : ∀ x ∈ l, x.log.length ≤ 1048576) (hs0 : 0 ≤ s) (hs1 : s ≤ 2097154) :
    Calls Try.prog 20 #[.agg #[.int .i64 view, .slice A n c], .int .i64 s] w fun e w' => e = .returned (.int .i64 (mk s l n)) ∧
      NodRow w' lo hi (.slice A n c) (mkd s l n) ∧ Kept lo hi w w' := by
  have H := Lib.hid (h.keep (w' := w.alloc (.cells #[.int .i64 view, .slice A n c] 33)) (fun k _ hk => Below.heap_alloc _ _ _ (by omega)))
  have HG := Lib.hid hlog
  have KB := Lib.hid (Kept.alloc (Kept.refl lo hi w) (.cells #[.int .i64 view, .slice A n c] 33))
  clear h hlog
  obtain ⟨v, hv⟩ : ∃ v, mk s l n = v := ⟨_, rfl⟩
  rw [hv]
  have HV := Lib.hid hv
  clear hv
  go_enter Try.func20, Try.ntmps20
  go_wp2_with fail
  refine (markNodeS_any lo hi _ _ _ l s _ H.out hn HG.out hs0 hs1).mono ?_
  rintro e w1 ⟨rfl, hr1, hk1⟩
  rw [HV.out]
  have R1 := Lib.hid hr1
  have K1 := Lib.hid (KB.out.trans hk1)
  clear hr1 hk1
  go_wp2
  go_ret
  exact ⟨rfl, R1.out, K1.out⟩

theorem below_cell_ {w w' : World} {a : Addr} {v : Value} (hb : Below w.heap.size w w') (h : w.cell? a = some v) : w'.cell? a = some v := (hb.cell (World.block_lt_of_cell? w a h)).trans h

set_option maxHeartbeats 4000000 in
theorem heldNodeS_marks (A : Option Addr) (n c : Nat) (l : List Nod) (s : Int) (w : World) (h : Nods w 0 w.heap.size A n c (mkd s l n)) (hn : n ≤ 1048576) (hlog : ∀ x ∈ l, x.log.length ≤ 1048576) (hs0 : 0 ≤ s) (hs1 : s ≤ 2097154) :
    Calls Try.prog 62 #[.slice A n c, .int .i64 s] w fun e w' => e = .returned (.int .i64 (mk s l n)) ∧ Below w.heap.size w w' := by
  have hln := h.len
  rw [mkd_length] at hln
  have MB := Lib.hid (fun k => mk_bd (s := s) hlog k)
  have H := Lib.hid h
  have HL := Lib.hid hln
  have HG := Lib.hid hlog
  clear h hln hlog
  go_enter Try.func62, Try.ntmps62
  go_wp2
  go_loopw [1, 5] (fun v i wr => ∃ (k : Nat) (u : Int), k ≤ n ∧ v = .int .i64 u ∧ i = .int .i64 k ∧ Hid (u = mk s l k) ∧ Below w.heap.size w wr) (fun _ i _ => n - (intOf i).toNat)
  case atStart => exact ⟨0, s, Nat.zero_le _, rfl, rfl, rfl, Below.refl _ _⟩
  case round =>
    obtain ⟨k, u, hk, rfl, rfl, HU, hB⟩ := hrel
    have HW := Lib.hid (H.out.below hB (Nat.le_refl _))
    have HB := Lib.hid hB
    have hsz := hB.size
    clear hB
    have hb := MB.out k
    rw [← HU.out] at hb
    by_cases hl : k < n
    · have hx : l[k]? = some (l[k]'(by rw [HL.out]; exact hl)) := List.getElem?_eq_getElem _
      obtain ⟨x, hxe⟩ : ∃ x, x = l[k]'(by rw [HL.out]; exact hl) := ⟨_, rfl⟩
      rw [← hxe] at hx
      clear hxe
      have hm := HG.out x (List.mem_of_getElem? hx)
      obtain ⟨b, off, y, A1, m, d1, rfl, _, _, hy, c0, c1, c2, hf⟩ := HW.out.nod (k := k) hl
      have hye : y = mkNod u x.log.length := by
        have := mkd_lt (s := s) hl hx
        rw [hy] at this; injection this with this
        rw [this, HU.out]
      have hml : m = x.log.length := by have := hf.len; rw [hye] at this; rw [← this]; exact marks_length _ _
      have F := Lib.hid (show Flat Upd.enc 2 wr 0 wr.heap.size A1 m d1 (marks (u + 1) m) by
        have := hf.mono (Nat.zero_le _) hsz
        rw [hye] at this; rw [hml]; rw [hml] at this; exact this)
      have c0' : wr.cell? ⟨b, off + k * 3, none⟩ = some (.int .i64 u) := by rw [c0, hye]; rfl
      have c2' : wr.cell? ⟨b, off + k * 3 + 2, none⟩ = some (.int .i64 (u + 1 + 2 * (m : Int))) := by rw [c2, hye, hml]; rfl
      have HX := Lib.hid hx
      have HM := Lib.hid hml
      rw [← hml] at hm
      clear hx hy hye hml hf c0 c2
      have hk0 : (0 : Int) ≤ (k : Int) := by omega
      have hkn : (k : Int) < (n : Int) := by omega
      have q1 : IntKind.i64.wrap (u + 1) = u + 1 := IntWalk.i64_in _ (by omega)
      have e1 : (u != u) = false := by simp
      have e2 : (u + 1 + 2 * (m : Int) != u + 1 + 2 * (m : Int)) = false := by simp
      have e3 : ¬ (u + 1 + 2 * (m : Int) < 0) := by omega
      go_wp2_with fail
      refine (heldUpdateS_marks A1 m d1 (u + 1) wr F.out hm (by omega) (by omega)).mono ?_
      rintro e w1 ⟨rfl, hb1⟩
      have B1 := Lib.hid (HB.out.trans (hb1.mono hsz))
      have c3 := below_cell_ hb1 c2'
      have q2 : IntKind.i64.wrap (u + 1 + 2 * (m : Int) + 1) = u + 1 + 2 * (m : Int) + 1 := IntWalk.i64_in _ (by omega)
      clear hb1 c0' c1 c2'
      go_wp2
      go_roundw
      case rel =>
        refine ⟨k + 1, u + 1 + 2 * (m : Int) + 1, by omega, rfl, by go_num, ?_, B1.out⟩
        show _ = _
        rw [mk_succ HX.out, ← HU.out, ← HM.out]; omega
      case measure => simp [intOf]; omega
    · obtain rfl : k = n := by omega
      go_wp2
      go_ret
      exact ⟨ret_int HU.out, HB.out⟩

set_option maxHeartbeats 2000000 in
theorem heldChain_marks (view : Int) (A : Option Addr) (n c : Nat) (l : List Nod) (s : Int) (w : World) (h : Nods w 0 w.heap.size A n c (mkd s l n)) (hn : n ≤ 1048576) (hlog : ∀ x ∈ l, x.log.length ≤ 1048576) (hs0 : 0 ≤ s) (hs1 : s ≤ 2097154) :
    Calls Try.prog 30 #[.agg #[.int .i64 view, .slice A n c], .int .i64 s] w fun e w' => e = .returned (.int .i64 (mk s l n)) ∧ Below w.heap.size w w' := by
  have hv0 := (mk_bd (s := s) hlog n).1
  have H := Lib.hid (h.box (.cells #[.int .i64 view, .slice A n c] 33))
  have HG := Lib.hid hlog
  clear h hlog
  obtain ⟨v, hv⟩ : ∃ v, mk s l n = v := ⟨_, rfl⟩
  rw [hv]
  rw [hv] at hv0
  have HV := Lib.hid hv
  have hv1 : ¬ v < 0 := by omega
  clear hv
  go_enter Try.func30, Try.ntmps30
  go_wp2_with fail
  refine (heldNodeS_marks _ _ _ l s _ H.out hn HG.out hs0 hs1).mono ?_
  rintro e w1 ⟨rfl, hb1⟩
  rw [HV.out]
  have B1 := Lib.hid (below_box hb1)
  clear hb1
  go_wp2
  go_ret
  exact ⟨rfl, B1.out⟩
end Go.Proofs.Ytnbakpdphfdacaa
