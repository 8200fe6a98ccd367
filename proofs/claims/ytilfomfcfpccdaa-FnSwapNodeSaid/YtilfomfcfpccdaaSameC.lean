/- laws.sameNode, laws.sameNodes, laws.sameChain on what reads alike: true. -/
import Derived.Test.YtilfomfcfpccdaaSame
import Derived.Test.YtilfomfcfpccdaaDropRole
import Derived.Lib.QuietBelow
namespace Go.Proofs.Ytilfomfcfpccdaa
open Go.RowKit Go.Sort

set_option maxHeartbeats 1000000 in
theorem sameNode_same (x : Nod) (A B : Option Addr) (n c d : Nat) (w : World) (h : Flat Upd.enc 2 w 0 w.heap.size A n c x.log) (h' : Flat Upd.enc 2 w 0 w.heap.size B n d x.log) (hn : n ≤ 1048576) :
    Calls Try.prog 60 #[.agg #[.int .i64 x.id, .slice A n c, .int .i64 x.done], .agg #[.int .i64 x.id, .slice B n d, .int .i64 x.done]] w fun e w' => e = .returned (.bool true) ∧ Below w.heap.size w w' := by
  have H0 := Lib.hid ((h.box (.cells #[.int .i64 x.id, .slice A n c, .int .i64 x.done] 33)).box (.cells #[.int .i64 x.id, .slice B n d, .int .i64 x.done] 33))
  have H0' := Lib.hid ((h'.box (.cells #[.int .i64 x.id, .slice A n c, .int .i64 x.done] 33)).box (.cells #[.int .i64 x.id, .slice B n d, .int .i64 x.done] 33))
  clear h h'
  have e1 : (x.id == x.id) = true := by simp
  have e2 : (x.done == x.done) = true := by simp
  go_enter Try.func60, Try.ntmps60
  go_wp2_with (go_at_call 22; refine (sameLog_same _ _ _ _ _ x.log _ H0.out H0'.out hn).mono ?_; rintro e w1 ⟨rfl, hb1⟩; have B1 := Lib.hid (below_box (below_box hb1)); clear hb1)
  go_ret
  exact ⟨rfl, B1.out⟩

set_option maxHeartbeats 2000000 in
theorem sameNodes_same (A B : Option Addr) (n c d : Nat) (l : List Nod) (w : World) (h : Nods w 0 w.heap.size A n c l) (h' : Nods w 0 w.heap.size B n d l) (hn : n ≤ 1048576) (hlog : ∀ x ∈ l, x.log.length ≤ 1048576) :
    Calls Try.prog 21 #[.slice A n c, .slice B n d] w fun e w' => e = .returned (.bool true) ∧ Below w.heap.size w w' := by
  have H := Lib.hid h
  have H' := Lib.hid h'
  have HG := Lib.hid hlog
  clear h h' hlog
  go_enter Try.func21, Try.ntmps21
  go_wp2
  go_loopw [5] (fun i wr => ∃ k : Nat, k ≤ n ∧ i = .int .i64 k ∧ Below w.heap.size w wr) (fun i _ => n - (intOf i).toNat)
  case atStart => exact ⟨0, Nat.zero_le _, rfl, Below.refl _ _⟩
  case round =>
    obtain ⟨k, hk, rfl, hB⟩ := hrel
    have HW := Lib.hid (H.out.below hB (Nat.le_refl _))
    have HW' := Lib.hid (H'.out.below hB (Nat.le_refl _))
    have HB := Lib.hid hB
    have hsz := hB.size
    clear hB H H'
    by_cases hlt : k < n
    · obtain ⟨b, off, x, A1, m, d1, rfl, _, _, hx, c0, c1, c2, hf⟩ := HW.out.nod hlt
      obtain ⟨b', off', x', A2, m', d2, rfl, _, _, hx', c0', c1', c2', hf'⟩ := HW'.out.nod hlt
      obtain rfl : x = x' := by rw [hx] at hx'; injection hx'
      have hmm : m' = m := by rw [← hf.len, ← hf'.len]
      have hm : m ≤ 1048576 := by have := hf.len; have := HG.out x (List.mem_of_getElem? hx); omega
      subst hmm
      have F := Lib.hid (hf.mono (Nat.zero_le _) hsz)
      have F' := Lib.hid (hf'.mono (Nat.zero_le _) hsz)
      clear hx hx' hf hf'
      have e0 := cell_regrown c0
      have e1 := cell_regrown c1
      have e2 := cell_regrown c2
      have e0' := cell_regrown c0'
      have e1' := cell_regrown c1'
      have e2' := cell_regrown c2'
      have hk0 : (0 : Int) ≤ (k : Int) := by omega
      have hkn : (k : Int) < (n : Int) := by omega
      go_wp2_with fail
      refine wp_region_quiet_below (by kernel_rfl) (by kernel_rfl) ?_
      repeat (go_big_quiet_step ((go_at_call 60; exact Calls.regrown_of (sameNode_same x _ _ _ _ _ _ (F.out.on (below_regrown _ _ _)) (F'.out.on (below_regrown _ _ _)) hm))))
      refine wpQuiet_nil ?_
      intro w2 hw2
      have hb2 := Lib.hid (below_of_regrown hw2)
      clear hw2 e0 e1 e2 e0' e1' e2'
      go_wp2
      go_roundw
      case rel => exact ⟨k + 1, by omega, by go_num, HB.out.trans (hb2.out.mono hsz)⟩
      case measure => simp [intOf]; omega
    · go_wp2
      go_ret
      exact ⟨rfl, HB.out⟩

set_option maxHeartbeats 1000000 in
theorem sameChain_same (view : Int) (A B : Option Addr) (n c d : Nat) (l : List Nod) (w : World) (h : Nods w 0 w.heap.size A n c l) (h' : Nods w 0 w.heap.size B n d l) (hn : n ≤ 1048576) (hlog : ∀ x ∈ l, x.log.length ≤ 1048576) :
    Calls Try.prog 18 #[.agg #[.int .i64 view, .slice A n c], .agg #[.int .i64 view, .slice B n d]] w fun e w' => e = .returned (.bool true) ∧ Below w.heap.size w w' := by
  have H0 := Lib.hid ((h.box (.cells #[.int .i64 view, .slice A n c] 25)).box (.cells #[.int .i64 view, .slice B n d] 25))
  have H0' := Lib.hid ((h'.box (.cells #[.int .i64 view, .slice A n c] 25)).box (.cells #[.int .i64 view, .slice B n d] 25))
  have HG := Lib.hid hlog
  clear h h' hlog
  go_enter Try.func18, Try.ntmps18
  go_wp2_with (go_at_call 21; refine (sameNodes_same _ _ _ _ _ l _ H0.out H0'.out hn HG.out).mono ?_; rintro e w1 ⟨rfl, hb1⟩; have B1 := Lib.hid (below_box (below_box hb1)); clear hb1)
  go_ret
  exact ⟨rfl, B1.out⟩

set_option maxHeartbeats 1000000 in
theorem lawsTailAt_any (view : Int) (b off n c : Nat) (i j : Int) (A' : Option Addr) (m d : Nat) (w : World) (hpos : 0 < n) (hbs : b < w.heap.size) (hn : n ≤ 1048576)
    (c0 : w.cell? ⟨b, off + (n - 1) * 3, none⟩ = some (.int .i64 i)) (c1 : w.cell? ⟨b, off + (n - 1) * 3 + 1, none⟩ = some (.slice A' m d)) (c2 : w.cell? ⟨b, off + (n - 1) * 3 + 2, none⟩ = some (.int .i64 j)) :
    Calls Try.prog 19 #[.agg #[.int .i64 view, .slice (some ⟨b, off, none⟩) n c]] w fun e w' => e = .returned (.agg #[.int .i64 i, .slice A' m d, .int .i64 j]) ∧ Below w.heap.size w w' := by
  have hne : b ≠ w.heap.size := by omega
  have hne' : b ≠ w.heap.size + 1 := by omega
  have h1 : (1 : Int) ≤ (n : Int) := by omega
  go_enter Try.func19, Try.ntmps19
  go_wp2_with fail
  exact bodyPost_ret (v := .agg #[.int .i64 i, .slice A' m d, .int .i64 j]) (by simp [results, Try.results19, go_sem]) rfl ⟨rfl, ((Below.refl _ _).alloc (Nat.le_refl _) _).alloc (by simp) _⟩
/-- the tail as it lies, handed out in any world that has only grown -/
theorem tail_regrown {view : Int} {n c : Nat} {A : Option Addr} {l : List Nod} {w : World} (h : Nods w 0 w.heap.size A n c l) (hpos : 0 < n) (hn : n ≤ 1048576) :
    ∃ (x : Nod) (A' : Option Addr) (m d : Nat), l[n - 1]? = some x ∧ Flat Upd.enc 2 w 0 w.heap.size A' m d x.log ∧
      ∀ (q : Nat) (os : Array Obj), Calls Try.prog 19 #[.agg #[.int .i64 view, .slice A n c]] (grow (redrawn w q) os) fun e w' => e = .returned (.agg #[.int .i64 x.id, .slice A' m d, .int .i64 x.done]) ∧ Below (grow (redrawn w q) os).heap.size (grow (redrawn w q) os) w' := by
  obtain ⟨b, off, x, A', m, d, rfl, _, hbB, hx, c0, c1, c2, hf⟩ := h.nod (show n - 1 < n by omega)
  refine ⟨x, A', m, d, hx, hf, fun q os => ?_⟩
  have hb := below_regrown w q os
  exact lawsTailAt_any view b off n c x.id x.done A' m d _ hpos (Nat.lt_of_lt_of_le hbB hb.size) hn ((hb.cell (p := ⟨b, _, none⟩) hbB).trans c0) ((hb.cell (p := ⟨b, _, none⟩) hbB).trans c1) ((hb.cell (p := ⟨b, _, none⟩) hbB).trans c2)
end Go.Proofs.Ytilfomfcfpccdaa
