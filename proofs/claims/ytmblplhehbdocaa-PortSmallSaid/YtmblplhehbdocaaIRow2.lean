/- common/IRow's append, told more exactly: a nil row's block stays. No condition. -/
import Derived.Test.YtmblplhehbdocaaIRow
namespace Go.Proofs.Ytmblplhehbdocaa
open Go.RowKit
section
variable {P : Program} {ops : Array Oper} {rest : List Oper} {o : Oper} {a : Act} {Q : Exit → Act → World → Prop} {W : World}
theorem wpList_iappendN (hgd : o.guard = none) (s x : Operand) (t : TypeId) (ho : o.op = .call { callee := .builtin .append, args := #[s, x], argTypes := #[t, t] })
    (ht : P.underlying t = some (.slice 3)) (hinfo : (P.info? 3).map (fun i => (i.zero, i.size, i.bytes)) = some (some (.int .i64 0), 1, 8))
    {base r : Nat} {v : Value} {xs : List Int} (hs : a.eval s = v) (hv : IRow W base v xs r) (g : Nat) (y : Int) (hx : a.eval x = .slice (some ⟨g, 0, none⟩) 1 1) (hb : Blk W g #[.int .i64 y] 3) (hn : xs.length ≤ 100000) (hbase : base ≤ W.heap.size)
    (h : ∀ v' w' r', ((r' = r ∧ v ≠ .slice none 0 0) ∨ W.heap.size ≤ r') → IRow w' base v' (xs ++ [y]) r' → Upd (fun i => i = r ∧ v ≠ .slice none 0 0) W w' → wpList P ops Q rest (a.put o.dst v') w') : wpList P ops Q (o :: rest) a W := by
  refine wpList_plain hgd fun K hK => ?_
  obtain ⟨v', w', r', hr, h1, h2, h3⟩ := iappend_run (P := P) t o.type ht hinfo hv g y hb hn hbase
  unfold Oper.wp execOp
  simp only [ho, resolve, invoke, builtin, Sem.run_bind, Sem.run_pure, Result.andThen_ok, List.map_toArray, List.map_cons, List.map_nil, hs, hx, hr]
  exact hK _ _ (h v' w' r' h1 h2 h3)
theorem wpListIn_iappendN {F : Fence} {n : Nat} (hgd : o.guard = none) (s x : Operand) (t : TypeId) (ho : o.op = .call { callee := .builtin .append, args := #[s, x], argTypes := #[t, t] })
    (ht : P.underlying t = some (.slice 3)) (hinfo : (P.info? 3).map (fun i => (i.zero, i.size, i.bytes)) = some (some (.int .i64 0), 1, 8))
    {base r : Nat} {v : Value} {xs : List Int} (hs : a.eval s = v) (hv : IRow W base v xs r) (g : Nat) (y : Int) (hx : a.eval x = .slice (some ⟨g, 0, none⟩) 1 1) (hb : Blk W g #[.int .i64 y] 3) (hn : xs.length ≤ 100000) (hbase : base ≤ W.heap.size)
    (h : ∀ v' w' r', ((r' = r ∧ v ≠ .slice none 0 0) ∨ W.heap.size ≤ r') → IRow w' base v' (xs ++ [y]) r' → Upd (fun i => i = r ∧ v ≠ .slice none 0 0) W w' → wpListIn F n P ops Q rest (a.put o.dst v') w') : wpListIn F n P ops Q (o :: rest) a W := by
  refine wpListIn_plain hgd fun K hK => ?_
  obtain ⟨v', w', r', hr, h1, h2, h3⟩ := iappend_run (P := P) t o.type ht hinfo hv g y hb hn hbase
  unfold Oper.wpIn
  refine ⟨?_, ?_⟩
  · simp [Oper.about, ho, resolve, Target.leads, Sem.run_pure]
  · rw [Oper.semAt_plain F _ _ (by rw [ho]; intro c hc'; cases hc')]
    simp [execOp, ho, resolve, invoke, builtin, hs, hx, hr, Result.andThen]
    exact hK _ _ (h v' w' r' h1 h2 h3)
end
end Go.Proofs.Ytmblplhehbdocaa
