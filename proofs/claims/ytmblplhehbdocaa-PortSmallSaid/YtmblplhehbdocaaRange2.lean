/- common/Range, more: a round whose assignment lays blocks; plain operations within a round. No condition. -/
import Derived.Test.YtmblplhehbdocaaRange
namespace Go.Proofs.Ytmblplhehbdocaa
open Go.RowKit Go.Shelf
section
variable {P : Program}
/-- Behind the assignment to the loop's variables, which may have laid blocks: the round's body is to be walked. -/
def RoundGoes2 (P : Program) (n : Nat) (rec : LoopState → Option Code → Loop) (D : Nat) (body : Code) (R : Ending → World → Prop) (a₁ : Act) (W₁ : World) : Prop :=
  LoopAt (rec .ready none) D W₁ ∧ ∀ W', Upd (fun i => i = D + 1) W₁ W' → LoopAt (rec .busy none) D W' → body.wpIn (Fence.wide.inRound (D + 1)) n P (roundP rec D R) a₁ W'
theorem yield_at2 {fn : Nat} {tmps : Array Value} {ps : Array Tmp} {assign body : Code} {D n : Nat} {rec : LoopState → Option Code → Loop} (hrec : rec = recOf fn tmps ps assign body D) {args : Array Value} {W : World} {R : Ending → World → Prop}
    (hr : LoopAt (rec .ready none) D W) (hs : args.size = ps.size)
    (h : assign.wpIn (Fence.wide.inRound (D + 1)) n P (Exit.then (RoundGoes2 P n rec D body R) (fun _ _ _ => False)) { tmps := (ps.zip args).foldl (fun t (p, v) => t.setIfInBounds p v) tmps, defers := [] } W) : YieldAt Fence.wide n P (D + 1) args W R := by
  have hy := run_yield (P := P) (args := args) hr.l (by rw [hrec]; exact hs)
  rw [hrec] at hy
  refine ⟨fn, _, assign, body, hy, roundIn_of_wpIn trivial (wpIn_mono h ?_)⟩
  intro e a₁ W₁ he
  cases e with
  | normal =>
    obtain ⟨h1, hbody⟩ := he
    refine ⟨_, run_beginRound h1.l (by rw [hrec]; rfl), ?_⟩
    exact yield_body hrec h1 hbody
  | ret => exact he
  | exit id => exact he
  | goto t => exact he
  | panic ch => exact he
  | outgrown => exact he
/-- A plain operation's law, within a round. -/
theorem wpListIn_of {ops : Array Oper} {Q : Exit → Act → World → Prop} {l n : Nat} {rest : List Oper} {o : Oper} {a : Act} {w : World} (hgd : o.guard = none) (hd : ∀ c, o.op ≠ .defer c)
    (h : ∀ K, (∀ a' w', wpListIn (Fence.wide.inRound l) n P ops Q rest a' w' → K a' w') → o.wp P a w K Q) : wpListIn (Fence.wide.inRound l) n P ops Q (o :: rest) a w :=
  wpListIn_plain hgd fun K hK => oper_round hd l n (h K hK)
theorem wpListIn_store_row {ops : Array Oper} {Q : Exit → Act → World → Prop} {l n : Nat} {rest : List Oper} {o : Oper} {a : Act} {w : World} (hgd : o.guard = none) (ty : TypeId) (x y : Operand) (ho : o.op = .store ty x y)
    (g : Nat) (cells : Array Value) (hx : a.eval x = .pointer (some ⟨g, 0, none⟩)) (hy : a.eval y = .agg cells)
    (t : TypeId) (old : Array Value) (hg : w.heap[g]? = some (.cells old t (0, 0))) (hi : (P.info? ty).map (·.size) = some cells.size)
    (hold : old.size = cells.size) (h1 : cells.all (·.oneCell') = true)
    (h : wpListIn (Fence.wide.inRound l) n P ops Q rest (a.put o.dst undef) (w.setRow g cells)) : wpListIn (Fence.wide.inRound l) n P ops Q (o :: rest) a w :=
  wpListIn_of hgd (by intro c hc; rw [ho] at hc; cases hc) fun _ hK => wp_store_row ty x y ho g cells hx hy t old hg hi hold h1 (hK _ _ h)
end
end Go.Proofs.Ytmblplhehbdocaa
