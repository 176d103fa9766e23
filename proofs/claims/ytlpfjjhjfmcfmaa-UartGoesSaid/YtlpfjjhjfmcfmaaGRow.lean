/- Rows of things that a call itself appends to, contents known exactly, of any type of things: append, outside and within a round, and their cells. No condition. -/
import Derived.Test.YtlpfjjhjfmcfmaaBase
import Derived.Test.YtlpfjjhjfmcfmaaProg
import Derived.Maps.AppendAt
import Derived.OwnWalkIn
namespace Go.Proofs.Ytlpfjjhjfmcfmaa
open Go.RowKit
section
variable {base : Nat} {e : TypeId} {sz : Nat} {v : Value} {n : Nat} {xs : List Value}
theorem own_grown {w w' : World} {b : Option Nat} (g : w.grownBy w' b) (h : w.ownsRow base e sz v n xs) (hs : ∀ k, v.ownBlock = some k → b ≠ some k) : w'.ownsRow base e sz v n xs := by
  obtain ⟨h1, h2⟩ := h
  refine ⟨h1, ?_⟩
  rcases h2 with h2 | ⟨r, cap, cur, rfl, hg, hh, h3⟩
  · exact .inl h2
  · exact .inr ⟨r, cap, cur, rfl, hg, (g.block r (Array.getElem?_eq_some_iff.1 hh).1 (fun e => hs r rfl e.symm)).trans hh, h3⟩
/-- Its cells. -/
theorem own_cells {w : World} (h : w.ownsRow base e sz v n xs) : ∃ A c, v = .slice A n c ∧ (0 < n → ∃ g, A = some ⟨g, 0, none⟩ ∧ base ≤ g ∧ g < w.heap.size ∧ v.ownBlock = some g ∧ ∀ j u, xs[j]? = some u → w.cell? ⟨g, j, none⟩ = some u) := by
  obtain ⟨h1, h2⟩ := h
  rcases h2 with ⟨rfl, h0⟩ | ⟨r, cap, cur, rfl, hg, hh, h3, h4, h5, h6⟩
  · exact ⟨none, 0, by rw [h0], fun hn => by omega⟩
  · refine ⟨_, cap, rfl, fun hn => ⟨r, rfl, hg, (Array.getElem?_eq_some_iff.1 hh).1, rfl, fun j u hj => ?_⟩⟩
    have hjl : j < xs.length := (List.getElem?_eq_some_iff.1 hj).1
    rw [cell_of_row w r j cur e (0, 0) hh]
    have h7 : (cur.toList.take (n * sz))[j]? = some u := by rw [h6]; exact hj
    rw [List.getElem?_take, if_pos (by omega)] at h7
    simpa using h7
end
section
variable {P : Program} {ops : Array Oper} {rest : List Oper} {o : Oper} {a : Act} {Q : Exit → Act → World → Prop} {W : World}
theorem gappend_run (t ty e : TypeId) (z : Value) (sz bytes : Nat) (ht : P.underlying t = some (.slice e)) (hinfo : (P.info? e).map (fun i => (i.zero, i.size, i.bytes)) = some (some z, sz, bytes)) (hzs : z.cells.size = sz) (hsz : 0 < sz)
    {base : Nat} {v : Value} {n : Nat} {xs : List Value} (hown : W.ownsRow base e sz v n xs) (g : Nat) (news : Array Value) (t' : TypeId) (hb : Blk W g news t') (hl : news.size = sz) (h1 : news.toList.all (fun u => u.oneCell') = true)
    (hn : (n + 1) * bytes ≤ 1000000000) (hn2 : n ≤ 100000000) (hbase : base ≤ W.heap.size) :
    ∃ v' w', (Builtin.append_ #[t, t] ty #[v, .slice (some ⟨g, 0, none⟩) 1 1]).run P W = .ok v' w' ∧ w'.ownsRow base e sz v' (n + 1) (xs ++ news.toList) ∧ W.grownBy w' v.ownBlock ∧ (v'.ownBlock = v.ownBlock ∨ v'.ownBlock = some W.heap.size) := by
  obtain ⟨i, hi, hz0, hz1, hz2⟩ := info_parts hinfo
  obtain ⟨v', w', hr, h2, h3, h4, h5⟩ := run_append_own_at (P := P) W base t ty e i z sz bytes ht hi hz0 hz1 hz2 hzs hsz v n _ hown ⟨g, 0, none⟩ 1 1 news.toList (by simpa using hl)
    (blk_news hb) (fun u hu => List.all_eq_true.1 h1 u hu) (by unfold maxLen; omega) (by omega) hbase
  exact ⟨v', w', hr, h2, h3, h5⟩
/-- append whose run is known. -/
theorem wpList_appendK (hgd : o.guard = none) (s x : Operand) (t : TypeId) (ho : o.op = .call { callee := .builtin .append, args := #[s, x], argTypes := #[t, t] })
    {v u v' : Value} {w' : World} (hs : a.eval s = v) (hx : a.eval x = u) (hr : (Builtin.append_ #[t, t] o.type #[v, u]).run P W = .ok v' w') (h : wpList P ops Q rest (a.put o.dst v') w') : wpList P ops Q (o :: rest) a W := by
  refine wpList_plain hgd fun K hK => ?_
  unfold Oper.wp execOp
  simp only [ho, resolve, invoke, builtin, Sem.run_bind, Sem.run_pure, Result.andThen_ok, List.map_toArray, List.map_cons, List.map_nil, hs, hx, hr]
  exact hK _ _ h
/-- append(v, x). -/
theorem wpList_gappend (hgd : o.guard = none) (s x : Operand) (t : TypeId) (ho : o.op = .call { callee := .builtin .append, args := #[s, x], argTypes := #[t, t] })
    (e : TypeId) (z : Value) (sz bytes : Nat) (ht : P.underlying t = some (.slice e)) (hinfo : (P.info? e).map (fun i => (i.zero, i.size, i.bytes)) = some (some z, sz, bytes)) (hzs : z.cells.size = sz) (hsz : 0 < sz)
    {base : Nat} {v : Value} {n : Nat} {xs : List Value} (hs : a.eval s = v) (hown : W.ownsRow base e sz v n xs) (g : Nat) (news : Array Value) (t' : TypeId) (hx : a.eval x = .slice (some ⟨g, 0, none⟩) 1 1) (hb : Blk W g news t') (hl : news.size = sz) (h1 : news.toList.all (fun u => u.oneCell') = true)
    (hn : (n + 1) * bytes ≤ 1000000000) (hn2 : n ≤ 100000000) (hbase : base ≤ W.heap.size)
    (h : ∀ v' w', w'.ownsRow base e sz v' (n + 1) (xs ++ news.toList) → W.grownBy w' v.ownBlock → (v'.ownBlock = v.ownBlock ∨ v'.ownBlock = some W.heap.size) → wpList P ops Q rest (a.put o.dst v') w') : wpList P ops Q (o :: rest) a W := by
  refine wpList_plain hgd fun K hK => ?_
  obtain ⟨v', w', hr, h2, h3, h4⟩ := gappend_run (P := P) t o.type e z sz bytes ht hinfo hzs hsz hown g news t' hb hl h1 hn hn2 hbase
  unfold Oper.wp execOp
  simp only [ho, resolve, invoke, builtin, Sem.run_bind, Sem.run_pure, Result.andThen_ok, List.map_toArray, List.map_cons, List.map_nil, hs, hx, hr]
  exact hK _ _ (h v' w' h2 h3 h4)
/-- The same within a round. -/
theorem wpListIn_gappend {F : Fence} {k : Nat} (hgd : o.guard = none) (s x : Operand) (t : TypeId) (ho : o.op = .call { callee := .builtin .append, args := #[s, x], argTypes := #[t, t] })
    (e : TypeId) (z : Value) (sz bytes : Nat) (ht : P.underlying t = some (.slice e)) (hinfo : (P.info? e).map (fun i => (i.zero, i.size, i.bytes)) = some (some z, sz, bytes)) (hzs : z.cells.size = sz) (hsz : 0 < sz)
    {base : Nat} {v : Value} {n : Nat} {xs : List Value} (hs : a.eval s = v) (hown : W.ownsRow base e sz v n xs) (g : Nat) (news : Array Value) (t' : TypeId) (hx : a.eval x = .slice (some ⟨g, 0, none⟩) 1 1) (hb : Blk W g news t') (hl : news.size = sz) (h1 : news.toList.all (fun u => u.oneCell') = true)
    (hn : (n + 1) * bytes ≤ 1000000000) (hn2 : n ≤ 100000000) (hbase : base ≤ W.heap.size)
    (h : ∀ v' w', w'.ownsRow base e sz v' (n + 1) (xs ++ news.toList) → W.grownBy w' v.ownBlock → (v'.ownBlock = v.ownBlock ∨ v'.ownBlock = some W.heap.size) → wpListIn F k P ops Q rest (a.put o.dst v') w') : wpListIn F k P ops Q (o :: rest) a W := by
  refine wpListIn_plain hgd fun K hK => ?_
  obtain ⟨v', w', hr, h2, h3, h4⟩ := gappend_run (P := P) t o.type e z sz bytes ht hinfo hzs hsz hown g news t' hb hl h1 hn hn2 hbase
  unfold Oper.wpIn
  refine ⟨?_, ?_⟩
  · simp [Oper.about, ho, resolve, Target.leads, Sem.run_pure]
  · rw [Oper.semAt_plain F _ _ (by rw [ho]; intro c hc'; cases hc')]
    simp [execOp, ho, resolve, invoke, builtin, hs, hx, hr, Result.andThen]
    exact hK _ _ (h v' w' h2 h3 h4)
end
/-- Two rows lie apart. -/
def Far (u v : Value) : Prop := ∀ k, u.ownBlock = some k → v.ownBlock ≠ some k
theorem Far.symm {u v : Value} (h : Far u v) : Far v u := fun k h1 h2 => h k h2 h1
/-- They still do when the first one has been appended to. -/
theorem Far.grow {W : World} {base : Nat} {e : TypeId} {sz n : Nat} {u u' v : Value} {xs : List Value} (h : Far u v) (hu : u'.ownBlock = u.ownBlock ∨ u'.ownBlock = some W.heap.size) (hv : W.ownsRow base e sz v n xs) : Far u' v := by
  intro k h1 h2
  rcases hu with hu | hu
  · exact h k (hu ▸ h1) h2
  · rw [hu] at h1
    injection h1 with h1
    have := (own_block hv k h2).2
    omega
end Go.Proofs.Ytlpfjjhjfmcfmaa
