/- A region that draws its order and whose operations read, or call what only reads or lays new blocks: one walk, in the text's order. The class: the worlds that have only grown. No condition. -/
import Derived.Test.YtmblplhehbdocaaRange
import Derived.Test.YtmblplhehbdocaaWays
import Derived.BigQuiet
namespace Go.Proofs.Ytmblplhehbdocaa
open Go.RowKit
/-- A world that has only grown. -/
structure Grown (w : World) where
  W : World
  h : Upd Non w W
instance (w : World) : Nonempty (Grown w) := ⟨⟨w, Upd.refl _ _⟩⟩
def Grown.self (w : World) : Grown w := ⟨w, Upd.refl _ _⟩
theorem Grown.cell {w : World} (G : Grown w) {p : Addr} {v : Value} (h : w.cell? p = some v) : G.W.cell? p = some v := G.h.cell_eq id h
theorem Grown.blk {w : World} (G : Grown w) {b : Nat} {c : Array Value} {t : TypeId} (h : Blk w b c t) : Blk G.W b c t := Blk.upd G.h h id
/-- A call's contract, in the form that the walk asks. -/
theorem Grown.call {P : Program} {f : FuncId} {args : Array Value} {w : World} {v : Value} {G : Grown w} (h : Calls P f args G.W fun e w' => e = .returned v ∧ Upd Non G.W w') :
    Calls P f args G.W fun e w'' => e = .returned v ∧ ∃ G' : Grown w, w'' = G'.W :=
  h.mono fun _ _ ⟨he, hu⟩ => ⟨he, ⟨_, Upd.call hu G.h fun _ _ h => h⟩, rfl⟩
theorem Grown.call_same {P : Program} {f : FuncId} {args : Array Value} {w : World} {v : Value} {G : Grown w} (h : Calls P f args G.W fun e w' => e = .returned v ∧ G.W = w') :
    Calls P f args G.W fun e w'' => e = .returned v ∧ ∃ G' : Grown w, w'' = G'.W :=
  h.mono fun _ _ ⟨he, hu⟩ => ⟨he, G, hu.symm⟩
section
variable {P : Program} {C : World → Prop} {a : Act} {o : Oper}
theorem wp_region_grow {id : Nat} {lo : List Oper} {Q : Exit → Act → World → Prop} {a : Act} {w : World} (hm : P.follows .mixedOrders = true) (hB : Region.lexB .any lo.toArray = true)
    (h : wpQuiet P lo.toArray (fun w' => ∃ G : Grown w, w' = G.W) (fun a' => ∀ G : Grown w, Q .normal a' G.W) lo a) : (Code.region id lo.toArray true).wp P Q a w := by
  refine wp_region_quiet (C := fun w' => ∃ G : Grown w, w' = G.W) hm hB ⟨⟨w.drew, (Upd.refl _ _).drew⟩, rfl⟩ ?_
  have e : (fun a' => ∀ w', (∃ G : Grown w, w' = G.W) → Q .normal a' w') = fun a' => ∀ G : Grown w, Q .normal a' G.W := by
    funext a'
    refine propext ⟨fun h G => h _ ⟨G, rfl⟩, ?_⟩
    rintro h _ ⟨G, rfl⟩
    exact h G
  rw [e]
  exact h
/-- The same within a round. -/
theorem round_region_grow {id l n : Nat} {lo : List Oper} {Q : Exit → Act → World → Prop} {a : Act} {w : World} (hm : P.follows .mixedOrders = true) (hB : Region.lexB .any lo.toArray = true) (hd : noDefer lo.toArray = true) (hq : ¬ LetsOut Q)
    (h : wpQuiet P lo.toArray (fun w' => ∃ G : Grown w, w' = G.W) (fun a' => ∀ G : Grown w, Q .normal a' G.W) lo a) : (Code.region id lo.toArray true).wpIn (Fence.wide.inRound l) n P Q a w := by
  simp only [Region.lexB, Bool.and_eq_true] at hB
  refine region_round hm hd hq ?_
  refine wpAny_of_quiet (C := fun w' => ∃ G : Grown w, w' = G.W) (Q := fun a' => ∀ G : Grown w, Q .normal a' G.W) (fun _ w' ⟨G, hw'⟩ h => by rw [hw']; exact h G) _ _ _ _ ⟨⟨w.drew, (Upd.refl _ _).drew⟩, rfl⟩ ?_
  have := wpAnyQ_lex (C := fun w' => ∃ G : Grown w, w' = G.W) (md := .any) hB.1 lo.toArray.toList 0 (Array.replicate lo.toArray.size false) a (by simp) (by simpa using hB.2) h
  simpa using this
/-- Many cells at once. -/
theorem quiet_mid {w : World} {K : Act → Prop} (ty : TypeId) (x : Operand) (ho : o.op = .load ty x) (b off : Nat) (hx : a.eval x = .pointer (some ⟨b, off, none⟩)) (cs : List Value) (d : TypeDesc) (hc : w.rangeAt b off cs)
    (hu : P.underlying ty = some d) (hd : d.isRow = true) (hi : (P.info? ty).map (·.size) = some cs.length) (hk : K (a.put o.dst (.agg cs.toArray))) : o.quiet P a (fun w' => ∃ G : Grown w, w' = G.W) K := by
  refine ⟨_, ?_, hk⟩
  rintro _ ⟨G, rfl⟩
  have hc' : G.W.rangeAt b off cs := fun j v hj => G.cell (hc j v hj)
  unfold Oper.quietAt execOp
  simp only [ho, hx, Instr.loadAt, Instr.sureAddr, Sem.run_bind, Sem.run_pure, Result.andThen_ok, run_loadVar_mid G.W b off ty cs d hc' hu hd hi]
  exact ⟨rfl, rfl⟩
theorem quiet_row {w : World} {K : Act → Prop} (ty : TypeId) (x : Operand) (ho : o.op = .load ty x) (b : Nat) (hx : a.eval x = .pointer (some ⟨b, 0, none⟩)) (cs : Array Value) (t : TypeId) (d : TypeDesc) (hc : Blk w b cs t)
    (hu : P.underlying ty = some d) (hd : d.isRow = true) (hi : (P.info? ty).map (·.size) = some cs.size) (hk : K (a.put o.dst (.agg cs))) : o.quiet P a (fun w' => ∃ G : Grown w, w' = G.W) K :=
  quiet_mid ty x ho b 0 hx cs.toList d (fun j v hj => by rw [Nat.zero_add]; exact hc.cell j (by simpa using hj)) hu hd (by rw [Array.length_toList]; exact hi) (by simpa using hk)
/-- == and != of structs whose answer is known. -/
theorem quiet_eq {K : Act → Prop} (b : BinOp) (t t2 : TypeId) (x y : Operand) (ho : o.op = .binOp b t x y t2) (us vs : Array Value) (r : Value) (hx : a.eval x = .agg us) (hy : a.eval y = .agg vs)
    (hm : P.eqGuardType P.depth t = false) (hrun : ∀ w, (binOp b t (.agg us) (.agg vs)).run P w = Result.ok r w) (hk : K (a.put o.dst r)) : o.quiet P a C K := by
  refine ⟨_, fun w _ => ?_, hk⟩
  unfold Oper.quietAt execOp
  simp only [ho, hx, hy, Sem.run_bind, Sem.run_pure, run_eqGuard_agg _ b t x y us vs hm, Result.andThen_ok, hrun]
  exact ⟨rfl, rfl⟩
end
end Go.Proofs.Ytmblplhehbdocaa
