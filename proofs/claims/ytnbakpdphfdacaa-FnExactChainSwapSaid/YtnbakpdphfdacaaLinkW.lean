/- A list of nodes in links: impl.linksOf, last, nodes. -/
import Derived.Test.YtnbakpdphfdacaaLink
import Derived.Test.YtnbakpdphfdacaaCopyC
namespace Go.Proofs.Ytnbakpdphfdacaa
open Go.RowKit

/-- what laying a chain's nodes into links leaves -/
def LinksLeft (w : World) (l : List Nod) (e : Ending) (w' : World) : Prop :=
  ∃ (p : Option Addr) (rs : List RN), e = .returned (.pointer p) ∧ LogsAt w' w.heap.size w'.heap.size l rs ∧ SegD w' w.heap.size w'.heap.size p rs none ∧ Below w.heap.size w w'

theorem drop_pred {l : List Nod} {j : Nat} {x : Nod} (hx : l[j]? = some x) : l.drop j = x :: l.drop (j + 1) := by
  have hj := (List.getElem?_eq_some_iff.1 hx).1
  have e : l[j] = x := by rw [List.getElem?_eq_getElem hj] at hx; injection hx
  rw [List.drop_eq_getElem_cons hj, e]

set_option maxRecDepth 100000 in
set_option maxHeartbeats 4000000 in
theorem linksOf_any (view : Int) (A : Option Addr) (n c : Nat) (l : List Nod) (w : World) (h : Nods w 0 w.heap.size A n c l) (hn : n ≤ 1048576) (hlog : ∀ x ∈ l, x.log.length ≤ 1048576) :
    Calls Try.prog 63 #[.agg #[.int .i64 view, .slice A n c]] w (LinksLeft w l) := by
  have HL := Lib.hid h.len
  have HG := Lib.hid hlog
  have H := Lib.hid h
  clear h hlog
  have B0 := Lib.hid (show Below w.heap.size w (w.alloc (.cells #[.int .i64 view, .slice A n c] 33)) from (Below.refl _ _).alloc (Nat.le_refl _) _)
  have K0 := Lib.hid (Blk.new w #[.int .i64 view, .slice A n c] 33)
  go_enter Try.func63, Try.ntmps63
  go_wp2_with fail
  go_loopw [3, 4] (fun pv i wr => ∃ (j : Nat) (p : Option Addr) (rs : List RN), i = .int .i64 ((j : Int) - 1) ∧ pv = .pointer p ∧ j ≤ n ∧ LogsAt wr w.heap.size wr.heap.size (l.drop j) rs ∧ SegD wr w.heap.size wr.heap.size p rs none ∧ Below w.heap.size w wr ∧ Blk wr w.heap.size #[.int .i64 view, .slice A n c] 33)
    (fun _ i _ => (intOf i + 1).toNat)
  case atStart =>
    refine ⟨n, none, [], rfl, rfl, Nat.le_refl _, ?_, rfl, B0.out, K0.out⟩
    rw [List.drop_eq_nil_of_le (by rw [HL.out]; exact Nat.le_refl _)]
    exact LogsAt.nil _ _ _
  case round =>
    obtain ⟨j, p, rs, rfl, rfl, hj, hla, hsd, hB, hK⟩ := hrel
    have LA := Lib.hid hla
    have SD := Lib.hid hsd
    have HB := Lib.hid hB
    have KB := Lib.hid hK
    have hsz := hB.size
    have hlt := hK.lt
    have k1 := hK.cell (i := 1) (v := .slice A n c) rfl
    clear hla hsd hK K0
    by_cases h0 : j = 0
    · subst h0
      clear hj
      go_wp2
      go_ret
      exact ⟨p, rs, rfl, LA.out, SD.out, HB.out⟩
    · obtain ⟨k, rfl⟩ : ∃ k, j = k + 1 := ⟨j - 1, by omega⟩
      have hkn : k < n := by omega
      obtain ⟨b, off, x, A', m, d, rfl, _, hbB, hx, c0, c1, c2, hf⟩ := (H.out.below hB (Nat.le_refl _)).nod hkn
      have hm : m ≤ 1048576 := by have := hf.len; have := HG.out x (List.mem_of_getElem? hx); omega
      have FX := Lib.hid (hf.mono (Nat.zero_le _) hsz)
      have HM := Lib.hid hf.len
      have DP := Lib.hid (drop_pred hx)
      have k0 : (0 : Int) ≤ (k : Int) := by omega
      have k2 : (k : Int) < (n : Int) := by omega
      clear hx hf hB h0
      go_wp2_with fail
      refine (copyNode_any x A' m d _ FX.out hm).mono ?_
      rintro e w1 ⟨g, rfl, hown, hb⟩
      have hs1 := hb.size
      have O1 := Lib.hid hown
      have B1 := Lib.hid (HB.out.trans (hb.mono hsz))
      have K1 := Lib.hid (KB.out.below hb)
      have L1 := Lib.hid (LA.out.keep (fun q _ hq => hb.block q hq))
      have S1 := Lib.hid (SD.out.keep (fun q _ hq => hb.block q hq))
      clear hb hown
      go_wp2_with fail
      go_roundw
      case rel =>
        refine ⟨k, some ⟨w1.heap.size, 0, none⟩, ⟨x.id, some ⟨g, 0, none⟩, m, m, x.done⟩ :: rs, by simp, rfl, by omega, ?_, ?_, B1.out.alloc (by omega) _, K1.out.alloc _⟩
        · rw [DP.out]
          have hl := L1.out.cons (x := x) (r := ⟨x.id, some ⟨g, 0, none⟩, m, m, x.done⟩) ⟨rfl, rfl, HM.out⟩ (O1.out.mono (by omega)) (fun q e => (O1.out.lt q e).1) hs1
          exact (hl.keep (fun q _ hq => Below.heap_alloc _ _ _ hq)).mono (by simp)
        · refine ⟨w1.heap.size, p, rfl, by omega, by simp, Blk.new w1 _ _, ?_⟩
          exact (S1.out.keep (fun q _ hq => Below.heap_alloc _ _ _ (by omega))).mono (by omega)
      case measure => simp [intOf]

def ptrBlk (v : Value) : Nat := match v with | .pointer (some a) => a.block | _ => 0

set_option maxHeartbeats 2000000 in
theorem last_any (hi g : Nat) (p : Option Addr) (rs : List RN) (r : RN) (w : World) (h : SegD w (g + 1) hi p rs (some ⟨g, 0, none⟩)) (hg : Lnk w g r none) :
    Calls Try.prog 64 #[.pointer p] w fun e w' => e = .returned (.pointer (some ⟨g, 0, none⟩)) ∧ w = w' := by
  have H := Lib.hid h
  have HG := Lib.hid hg
  have gn := hg.cell (i := 3) (v := .pointer none) rfl
  clear h hg
  go_enter Try.func64, Try.ntmps64
  go_wp2_with fail
  go_loop [0] (fun t => ∃ (q : Option Addr) (rs' : List RN) (hi' : Nat), t = .pointer q ∧ SegD w (g + 1) hi' q rs' (some ⟨g, 0, none⟩)) (fun t => ptrBlk t)
  case atStart => exact ⟨p, rs, hi, rfl, H.out⟩
  case round =>
    obtain ⟨q, rs', hi', rfl, hs⟩ := hrel
    cases rs' with
    | nil =>
      have hq : q = some ⟨g, 0, none⟩ := hs
      subst hq
      clear hs
      go_wp2
      go_ret
      exact ⟨rfl, rfl⟩
    | cons r0 rs0 =>
      obtain ⟨g0, q0, rfl, h1, h2, h3, h4⟩ := hs
      obtain ⟨g1, rfl⟩ := h4.start
      have k3 := h3.cell (i := 3) (v := .pointer (some ⟨g1, 0, none⟩)) rfl
      have hlt : g1 < g0 := by
        cases rs0 with
        | nil => have e : some (⟨g1, 0, none⟩ : Addr) = some ⟨g, 0, none⟩ := h4; injection e with e; injection e with e; omega
        | cons r1 rs1 => obtain ⟨g2, q2, e, _, e2, _⟩ := h4; injection e with e; injection e with e; omega
      have S4 := Lib.hid h4
      clear h3 h4
      go_wp2
      go_round
      case rel => exact ⟨_, _, _, rfl, S4.out⟩
      case measure => simp [ptrBlk]; omega

/-- what taking the nodes out of links leaves: the row, node by node as it lies -/
def NodesLeft (w : World) (rs : List RN) (e : Ending) (w' : World) : Prop :=
  ∃ (A : Option Addr) (n c : Nat), e = .returned (.slice A n c) ∧ rs.length = n ∧ w'.ownsRow w.heap.size 57 3 (.slice A n c) n (rs.flatMap RN.enc) ∧ Below w.heap.size w w'

set_option maxRecDepth 100000 in
set_option maxHeartbeats 4000000 in
theorem nodes_any (p : Option Addr) (rs : List RN) (w : World) (h : Seg w p rs none) (hn : rs.length ≤ 1048576) :
    Calls Try.prog 65 #[.pointer p] w (NodesLeft w rs) := by
  obtain ⟨j0, hj, hy0, hy1, hy2⟩ := info_parts infoNode
  obtain ⟨f, hf⟩ := links_measure
  have HF := Lib.hid hf
  have H := Lib.hid h
  have HN := Lib.hid hn
  have O0 := Lib.hid (made0 w w.heap.size w.heap.size 57 3 rfl (Nat.le_refl _))
  have B0 := Lib.hid (show Below w.heap.size w (w.alloc (.cells #[] 57)) from (Below.refl _ _).alloc (Nat.le_refl _) _)
  clear h hf hn
  go_enter Try.func65, Try.ntmps65
  go_wp2_with fail
  go_loopw [0, 3] (fun t v wr => ∃ (q : Option Addr) (ra rb : List RN) (A : Option Addr) (k c : Nat), t = .pointer q ∧ v = .slice A k c ∧ Hid (ra ++ rb = rs) ∧ Hid (ra.length = k) ∧ k ≤ 1048576 ∧ Hid (Seg wr q rb none) ∧ Hid (wr.ownsRow w.heap.size 57 3 (.slice A k c) k (ra.flatMap RN.enc)) ∧ Below w.heap.size w wr)
    (fun t _ wr => f wr t)
  case atStart => exact ⟨p, [], rs, _, 0, 0, rfl, rfl, rfl, rfl, Nat.zero_le _, H.out.keepT (fun k cs hk => Below.heap_alloc _ _ _ (lt_of_block hk)), O0.out, B0.out⟩
  case round =>
    obtain ⟨q, ra, rb, A, k, c, rfl, rfl, hab, hk, hk2, hseg, hown, hB⟩ := hrel
    have HB := Lib.hid hB
    have hsz := hB.size
    clear hB
    cases rb with
    | nil =>
      have hq : q = none := hseg.out
      subst hq
      have hab' : ra = rs := by have := hab.out; simpa using this
      subst hab'
      go_wp2
      go_ret
      exact ⟨A, k, c, rfl, hk.out, hown.out, HB.out⟩
    | cons r rb =>
      obtain ⟨g, q', rfl, h1, h2⟩ := hseg.out
      have hml := HF.out wr _ _ hseg.out
      have HML := Lib.hid hml
      have S2 := Lib.hid h2
      have c0 := h1.cell (i := 0) (v := .int .i64 r.id) rfl
      have c1 := h1.cell (i := 1) (v := .slice r.A r.n r.c) rfl
      have c2 := h1.cell (i := 2) (v := .int .i64 r.done) rfl
      have K := Lib.hid h1
      have hgl : g < wr.heap.size := lt_of_block h1
      have hk3 : k + 1 ≤ 1048576 := by have := HN.out; have := hab.out; have := hk.out; rw [← this, ← hab.out, List.length_append, List.length_cons] at *; omega
      clear h1 h2 hml
      go_wp2_with (at_builtin; (refine wpList_append_src _ rfl (.tmp 11) (.tmp 16) 31 rfl w.heap.size 57 j0 _ 3 40 Try.underlying31 hj hy0 hy1 hy2 rfl (by omega) (.slice A k c) k (ra.flatMap RN.enc) rfl (hown.out.alloc _) _ 1 1 _ rfl (src_row _ #[.int .i64 r.id, .slice r.A r.n r.c, .int .i64 r.done] 57 3 _ rfl rfl) (RN.one r) (by unfold maxLen; omega) (by omega) (by simp only [World.size_alloc]; omega) ?_; intro v8 w8 hown8 hg8; obtain ⟨g8, c8, rfl, _⟩ := own_form hown8 (by omega); have hkeep := row_after hown.out hg8; have k8 : Lnk w8 g r q' := (hkeep g _ _ K.out (by decide)).trans K.out; have e3 := k8.cell (i := 3) (v := .pointer q') rfl; have S8 := Lib.hid (S2.out.keepT (fun q cs hq => hkeep q cs _ hq (by decide))); have K8 := Lib.hid k8; have O8 := Lib.hid hown8; have B8 := Lib.hid ((HB.out.alloc hsz (.cells #[.int .i64 r.id, .slice r.A r.n r.c, .int .i64 r.done] 57)).grown hg8 (by simp only [World.size_alloc]; omega) (fun q e => (hown.out.lt q e).1)); clear hown8 hg8 hkeep k8))
      go_roundw
      case rel => exact ⟨q', ra ++ [r], rb, _, k + 1, c8, rfl, rfl, Lib.hid (by have := hab.out; simpa using this), Lib.hid (by have := hk.out; simp [this]), hk3, S8, Lib.hid (by have := O8.out; rw [List.flatMap_append, show [r].flatMap RN.enc = r.enc from by simp]; exact this), B8.out⟩
      case measure =>
        have hm8 := HF.out w8 _ _ S8.out
        have := HML.out
        rw [this, hm8]; simp
end Go.Proofs.Ytnbakpdphfdacaa
