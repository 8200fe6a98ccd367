/- 'copy(out, log)' at elements of more than one cell, into a row that was just made: a law for the walk; no program in sight. -/
import Derived.Test.YtnbakpdphfdacaaMem
import Derived.Laws.CopyOwn
namespace Go.Proofs.Ytnbakpdphfdacaa
open Go.RowKit

theorem copy_rows {P : Program} (w : World) (dT sT ty elem : TypeId) (g n dc sc sz : Nat) (A : Option Addr) (cur : Array Value) (t : TypeId) (news : List Value)
    (hu : P.underlying dT = some (.slice elem)) (hs : (P.info? elem).map (·.size) = some sz) (hg : w.heap[g]? = some (.cells cur t (0, 0))) (hcs : cur.size = n * sz) (hsrc : Src w sz A n news) (h1 : ∀ v ∈ news, v.oneCell' = true) :
    (Builtin.copy_ #[dT, sT] ty #[.slice (some ⟨g, 0, none⟩) n dc, .slice A n sc]).run P w = .ok (goInt n) (w.setRow g news.toArray) := by
  obtain ⟨hl, hn, hc⟩ := hsrc
  cases hq : P.info? elem with
  | none => simp [hq] at hs
  | some i =>
    have hi : i.size = sz := by simpa [hq] using hs
    have hst := run_storeCells_at P g 0 t news 0 cur w hg (by simp; omega) h1
    have he : (cur.toList.take (0 + 0) ++ news ++ cur.toList.drop (0 + 0 + news.length)).toArray = news.toArray := by
      have hd : cur.toList.drop (0 + 0 + news.length) = [] := List.drop_eq_nil_of_le (by simp; omega)
      rw [hd]; simp
    rw [he] at hst
    rcases A with _ | ad
    · obtain rfl := hn rfl
      have hnil : news = [] := List.eq_nil_of_length_eq_zero (by simpa using hl)
      subst hnil
      simp [Builtin.copy_, run_underlying hu, Builtin.lenOf, Builtin.firstCells, sizeOf, typeInfo, hq, hst]
    · have hld := run_loadCells_list (P := P) w ad news (hc ad rfl)
      rw [hl] at hld
      simp [Builtin.copy_, run_underlying hu, Builtin.lenOf, Builtin.firstCells, sizeOf, typeInfo, hq, hi, hld, hst]

theorem wpList_copy_rows {P : Program} {w : World} {ops : Array Oper} {rest : List Oper} {o : Oper} {a : Act} {Q : Exit → Act → World → Prop} (hgd : o.guard = none) (d s : Operand) (dT sT : TypeId)
    (ho : o.op = .call { callee := .builtin .copy, args := #[d, s], argTypes := #[dT, sT] }) (elem : TypeId) (hu : P.underlying dT = some (.slice elem)) (sz : Nat) (hs : (P.info? elem).map (·.size) = some sz)
    (g n dc sc : Nat) (A : Option Addr) (hd : a.eval d = .slice (some ⟨g, 0, none⟩) n dc) (hx : a.eval s = .slice A n sc) (cur : Array Value) (hg : w.heap[g]? = some (.cells cur elem (0, 0))) (hcs : cur.size = n * sz)
    (news : List Value) (hsrc : Src w sz A n news) (h1 : ∀ v ∈ news, v.oneCell' = true) (hn : n ≤ maxLen) (B lo : Nat) (w0 : World) (hb : Below B w0 w) (hBg : B ≤ g) (hlo : lo ≤ g)
    (h : ∀ w', Hid (w'.ownsRow lo elem sz (.slice (some ⟨g, 0, none⟩) n n) n news) → Below B w0 w' → wpList P ops Q rest (a.put o.dst (goInt n)) w') : wpList P ops Q (o :: rest) a w := by
  refine wpList_plain hgd fun K hK => ?_
  have hrun := copy_rows (P := P) w dT sT o.type elem g n dc sc sz A cur elem news hu hs hg hcs hsrc h1
  unfold Oper.wp
  simp only [execOp, ho, resolve, invoke, builtin, Sem.run_bind, Sem.run_pure, Result.andThen_ok, List.map_toArray, List.map_cons, List.map_nil, hd, hx, hrun]
  refine hK _ _ (h _ ?_ (below_setRow hb hBg _))
  have hl : news.length = n * sz := hsrc.1
  refine ⟨hl, .inr ⟨g, n, news.toArray, rfl, hlo, setRow_heap w g cur _ elem _ hg, Nat.le_refl _, hn, by simp [hl], ?_⟩⟩
  rw [← hl]; simp
end Go.Proofs.Ytnbakpdphfdacaa
