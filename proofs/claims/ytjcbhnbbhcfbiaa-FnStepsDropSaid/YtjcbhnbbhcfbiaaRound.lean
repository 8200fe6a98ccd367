/- A region that draws its order, inside a round of a range over a function: where it defers nothing it is walked once, as outside. -/
import Derived.Lib.QuietBelowIn
import Derived.Sort.QuietTacIn
import Derived.Sort.QuietIn
import Derived.Test.YtjcbhnbbhcfbiaaIter
namespace Go.Proofs.Ytjcbhnbbhcfbiaa
open Go.RowKit Go.Sort
set_option linter.unusedVariables false

def noDefer (o : Oper) : Bool := match o.op with | .defer _ => false | _ => true
theorem noDefer_spec {o : Oper} (h : noDefer o = true) : ∀ c, o.op ≠ .defer c := by
  intro c e; unfold noDefer at h; rw [e] at h; cases h
section
variable {F : Fence} {n : Nat} {P : Program} {l : Nat}
theorem oper_inRound {o : Oper} {a : Act} {w : World} {K : Act → World → Prop} {Q : Exit → Act → World → Prop} (hro : F.round = none) (hd : noDefer o = true) (h : o.wpIn F n P a w K Q) : o.wpIn (F.inRound l) n P a w K Q := by
  refine ⟨h.1, ?_⟩
  have h2 := h.2
  rw [Oper.semAt_eq _ _ _ (noDefer_spec hd)] at h2 ⊢
  exact h2
theorem wpAny_inRound {md : Region.Mode} {ops : Array Oper} {Q : Exit → Act → World → Prop} (hro : F.round = none) (hd : ops.all noDefer = true) : ∀ (fuel : Nat) (listed : Array Bool) (a : Act) (w : World), wpAnyIn F n P md ops Q fuel listed a w → wpAnyIn (F.inRound l) n P md ops Q fuel listed a w
  | 0, _, _, _, h => h
  | fuel + 1, listed, a, w, h => ⟨h.1, fun i hi => by
    have hK : ∀ a w, wpAnyIn F n P md ops Q fuel (listed.setIfInBounds i true) a w → wpAnyIn (F.inRound l) n P md ops Q fuel (listed.setIfInBounds i true) a w := fun a w h => wpAny_inRound hro hd fuel _ a w h
    have h2 := h.2 i hi
    unfold wpOpIn at h2 ⊢
    split
    · rename_i e; rw [e] at h2; exact hK _ _ h2
    · rename_i o e
      rw [e] at h2
      have hdo : noDefer o = true := by
        rw [Array.all_eq_true] at hd
        obtain ⟨hi', e'⟩ := Array.getElem?_eq_some_iff.1 e
        rw [← e']; exact hd i hi'
      dsimp only at h2 ⊢
      by_cases hw : Region.wanted o (yielded ops a.tmps) = true
      · rw [if_pos hw] at h2 ⊢
        exact Oper.wpIn_mono (fun a w h => hK a w h) (oper_inRound hro hdo h2)
      · rw [if_neg hw] at h2 ⊢
        exact ⟨h2.1, hK _ _ h2.2⟩⟩
theorem region_quiet_round {C : World → Prop} {id : Nat} {ops : Array Oper} {Q : Exit → Act → World → Prop} {a : Act} {w : World} (hro : F.round = none) (hm : P.follows .mixedOrders = true) (hB : Region.lexB .any ops = true) (hd : ops.all noDefer = true) (hC : C { w with drawn := w.drawn + 1 })
    (h : wpQuietIn F n P ops C (fun a' => ∀ w', C w' → Q .normal a' w') ops.toList a) : (Code.region id ops true).wpIn (F.inRound l) n P Q a w := by
  simp only [Region.lexB, Bool.and_eq_true] at hB
  refine wpIn_region_any hm (wpAny_inRound hro hd _ _ _ _ (wpAnyIn_of_quiet (Q := fun a' => ∀ w', C w' → Q .normal a' w') hro (fun _ w' hw' h => h w' hw') _ _ _ _ hC ?_))
  have := wpAnyQIn_lex (F := F) (n := n) (C := C) (md := .any) hB.1 ops.toList 0 (Array.replicate ops.size false) a (by simp) (by simpa using hB.2) h
  simpa using this
theorem region_drew_round {id : Nat} {L : List Oper} {Q : Exit → Act → World → Prop} {a : Act} {w : World} (hro : F.round = none) (hm : P.follows .mixedOrders = true) (hB : Region.lexB .any L.toArray = true) (hd : L.toArray.all noDefer = true)
    (h : wpQuietIn F n P L.toArray (fun w' => ∃ n, w' = w.drewN n) (fun a' => ∀ w', (∃ n, w' = w.drewN n) → Q .normal a' w') L a) : (Code.region id L.toArray true).wpIn (F.inRound l) n P Q a w :=
  region_quiet_round (C := fun w' => ∃ n, w' = w.drewN n) hro hm hB hd ⟨1, rfl⟩ (by simpa using h)
end
end Go.Proofs.Ytjcbhnbbhcfbiaa
