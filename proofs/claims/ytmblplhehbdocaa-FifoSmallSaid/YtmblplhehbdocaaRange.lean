/- A range over a function, as two laws: the statement, and one round. No condition. -/
import Derived.RangeFuncNested
import Derived.RangeFuncBound
import Derived.RangeFuncCalls
import Derived.RangeFuncLeaves
import Derived.Shelf.Abstract
import Derived.Shelf.RegionOpen
import Derived.OwnWalkIn
import Derived.TacticsInMore
import Derived.LoopNIn
import Derived.LoopIn
import Derived.Deep.Quiet
import Derived.Test.YtmblplhehbdocaaBase
namespace Go.Proofs.Ytmblplhehbdocaa
open Go.RowKit Go.Shelf

/-- A loop's record. -/
def recOf (fn : Nat) (tmps : Array Value) (ps : Array Tmp) (assign body : Code) (D : Nat) (st : LoopState) (pe : Option Code) : Loop := { state := st, pending := pe, fn, tmps, params := ps, assign, body, defers := D }
/-- The loop's two blocks: the calls that its rounds defer, and its record. -/
structure LoopAt (r : Loop) (D : Nat) (W : World) : Prop where
  l : W.heap[D + 1]? = some (.loop r)
  d : W.heap[D]? = some (.deferred (some []))
theorem LoopAt.lt {r : Loop} {D : Nat} {W : World} (h : LoopAt r D W) : D + 1 < W.heap.size := (Array.getElem?_eq_some_iff.1 h.l).1
theorem LoopAt.upd {S : Nat → Prop} {r : Loop} {D : Nat} {W W' : World} (u : Upd S W W') (h : LoopAt r D W) (h1 : ¬ S D) (h2 : ¬ S (D + 1)) : LoopAt r D W' :=
  ⟨(u.block _ h.lt h2).trans h.l, (u.block _ (Nat.lt_of_succ_lt h.lt) h1).trans h.d⟩
theorem upd_putObj (W : World) (l : Nat) (o : Obj) : Upd (fun i => i = l) W (W.putObj l o) :=
  ⟨rfl, rfl, rfl, by simp, fun i _ hs => World.putObj_heap_other hs⟩
theorem LoopAt.put {r r' : Loop} {D : Nat} {W : World} (h : LoopAt r D W) : LoopAt r' D (W.putObj (D + 1) (.loop r')) :=
  ⟨World.putObj_heap_same h.lt, (World.putObj_heap_other (by omega)).trans h.d⟩

section
variable {P : Program}
/-- How a round may be left: off its end; by a return; by a break. -/
def roundP (rec : LoopState → Option Code → Loop) (D : Nat) (R : Ending → World → Prop) : Exit → Act → World → Prop
  | .normal, _, W3 => LoopAt (rec .busy none) D W3 ∧ ∀ W4, Upd (fun i => i = D + 1) W3 W4 → LoopAt (rec .ready none) D W4 → R (.returned (.bool true)) W4
  | .ret, _, W3 => LoopAt (rec .busy none) D W3 ∧ ∀ W4, Upd (fun i => i = D + 1) W3 W4 → LoopAt (rec .done (some .ret)) D W4 → R (.returned (.bool false)) W4
  | .exit id, _, W3 => LoopAt (rec .busy none) D W3 ∧ ∀ W4, Upd (fun i => i = D + 1) W3 W4 → LoopAt (rec .done (some (.exit id))) D W4 → R (.returned (.bool false)) W4
  | _, _, _ => False
/-- Behind the assignment to the loop's variables: the round's body is to be walked. -/
def RoundGoes (P : Program) (n : Nat) (rec : LoopState → Option Code → Loop) (D : Nat) (body : Code) (R : Ending → World → Prop) (W : World) (a₁ : Act) (W₁ : World) : Prop :=
  W₁ = W ∧ ∀ W', Upd (fun i => i = D + 1) W W' → LoopAt (rec .busy none) D W' → body.wpIn (Fence.wide.inRound (D + 1)) n P (roundP rec D R) a₁ W'
theorem yield_body {fn : Nat} {tmps : Array Value} {ps : Array Tmp} {assign body : Code} {D n : Nat} {rec : LoopState → Option Code → Loop} (hrec : rec = recOf fn tmps ps assign body D) {W : World} {R : Ending → World → Prop}
    (hr : LoopAt (rec .ready none) D W) {a₁ : Act} (hbody : ∀ W', Upd (fun i => i = D + 1) W W' → LoopAt (rec .busy none) D W' → body.wpIn (Fence.wide.inRound (D + 1)) n P (roundP rec D R) a₁ W') :
    body.wpIn (Fence.wide.inRound (D + 1)) n P (roundPost P (D + 1) R) a₁ (W.putObj (D + 1) (.loop { rec .ready none with state := .busy })) := by
  have hb : LoopAt (rec .busy none) D (W.putObj (D + 1) (.loop { rec .ready none with state := .busy })) := by
    have := hr.put (r' := rec .busy none)
    rw [hrec] at this ⊢
    exact this
  refine wpIn_mono (hbody _ (upd_putObj _ _ _) hb) ?_
  have fin : ∀ (jump : Option Code) (W3 : World), LoopAt (rec .busy none) D W3 →
      (Instr.endRound (D + 1) jump).run P W3 = .ok (.bool jump.isNone) (W3.putObj (D + 1) (.loop (rec (if jump.isNone then .ready else .done) jump))) := fun jump W3 h3 => by
    have := run_endRound (P := P) jump h3.l
    rw [hrec] at this ⊢
    exact this
  rintro e a3 W3 hp
  cases e with
  | normal => exact ⟨_, _, fin none W3 hp.1, hp.2 _ (upd_putObj _ _ _) hp.1.put⟩
  | ret => exact ⟨_, _, fin (some .ret) W3 hp.1, hp.2 _ (upd_putObj _ _ _) hp.1.put⟩
  | exit id => exact ⟨_, _, fin (some (.exit id)) W3 hp.1, hp.2 _ (upd_putObj _ _ _) hp.1.put⟩
  | goto t => exact hp.elim
  | panic ch => exact hp.elim
  | outgrown => exact hp.elim
/-- One round: yield is called where the loop is ready. -/
theorem yield_at {fn : Nat} {tmps : Array Value} {ps : Array Tmp} {assign body : Code} {D n : Nat} {rec : LoopState → Option Code → Loop} (hrec : rec = recOf fn tmps ps assign body D) {args : Array Value} {W : World} {R : Ending → World → Prop}
    (hr : LoopAt (rec .ready none) D W) (hs : args.size = ps.size)
    (h : assign.wpIn (Fence.wide.inRound (D + 1)) n P (Exit.then (RoundGoes P n rec D body R W) (fun _ _ _ => False)) { tmps := (ps.zip args).foldl (fun t (p, v) => t.setIfInBounds p v) tmps, defers := [] } W) : YieldAt Fence.wide n P (D + 1) args W R := by
  have hy := run_yield (P := P) (args := args) hr.l (by rw [hrec]; exact hs)
  rw [hrec] at hy
  refine ⟨fn, _, assign, body, hy, roundIn_of_wpIn trivial (wpIn_mono h ?_)⟩
  intro e a₁ W₁ he
  cases e with
  | normal =>
    obtain ⟨rfl, hbody⟩ := he
    refine ⟨_, run_beginRound hr.l (by rw [hrec]; rfl), ?_⟩
    exact yield_body hrec hr hbody
  | ret => exact he
  | exit id => exact he
  | goto t => exact he
  | panic ch => exact he
  | outgrown => exact he
/-- What the iterator's call must come to: the loop is ready, and the walk goes on; or a round has left by c, and c is taken up. -/
def RangeEnd (P : Program) (rec : LoopState → Option Code → Loop) (D : Nat) (Q : Exit → Act → World → Prop) (a : Act) (e : Ending) (W : World) : Prop :=
  (∃ v, e = .returned v) ∧
    ((LoopAt (rec .ready none) D W ∧ ∀ W4, Upd (fun i => i = D + 1) W W4 → W4.heap[D]? = some (.deferred (some [])) → Q .normal { a with defers := { target := .collected D, args := #[] } :: a.defers } W4) ∨
     (∃ c, LoopAt (rec .done (some c)) D W ∧ ∀ W4, Upd (fun i => i = D + 1) W W4 → W4.heap[D]? = some (.deferred (some [])) → c.wp P Q { a with defers := { target := .collected D, args := #[] } :: a.defers } W4))
/-- **The statement.** -/
theorem wp_range {g : Operand} {ps : Array Tmp} {assign body : Code} {Q : Exit → Act → World → Prop} {a : Act} {w : World} {gf : Nat} {lb : Array Value} (hg : a.eval g = .func (.func gf) #[] lb)
    (eg : ∀ args w, (callFunc gf args).run P w = .ok (.enter gf args) w)
    (h : ∀ (fn : Nat) (rec : LoopState → Option Code → Loop), rec = recOf fn a.tmps ps assign body w.heap.size → ∀ W1, LoopAt (rec .ready none) w.heap.size W1 → Upd Non w W1 → W1.heap.size = w.heap.size + 2 →
      Calls P gf (#[.func (.yield (w.heap.size + 1)) #[] #[]] ++ lb) W1 (RangeEnd P rec w.heap.size Q a)) :
    (Code.rangeFunc g ps assign body).wp P Q a w := by
  refine wpIn_wide.1 (wpIn_rangeFunc (n := 3) ?_)
  intro fn _
  obtain ⟨rec, hrec⟩ : ∃ rec, rec = recOf fn a.tmps ps assign body w.heap.size := ⟨_, rfl⟩
  have hW : Upd Non w ((w.alloc (.deferred (some []))).alloc (.loop (rec .ready none))) := ((Upd.refl _ _).alloc).alloc
  have hL : LoopAt (rec .ready none) w.heap.size ((w.alloc (.deferred (some []))).alloc (.loop (rec .ready none))) :=
    ⟨by have := World.alloc_heap_new (w.alloc (.deferred (some []))) (.loop (rec .ready none)); rwa [World.size_alloc] at this, (Below.heap_alloc _ _ _ (by simp)).trans (World.alloc_heap_new w _)⟩
  have hZ : ((w.alloc (.deferred (some []))).alloc (.loop (rec .ready none))).heap.size = w.heap.size + 2 := by simp
  obtain ⟨W1, hW1⟩ : ∃ W1, (w.alloc (.deferred (some []))).alloc (.loop (rec .ready none)) = W1 := ⟨_, rfl⟩
  rw [hW1] at hL hW hZ
  have hc := h fn rec hrec _ hL hW hZ
  refine ⟨w.heap.size + 1, [{ target := .collected w.heap.size, args := #[] }], W1, { target := .fn (.func gf) lb, args := #[.func (.yield (w.heap.size + 1)) #[] #[]] }, W1, gf,
    #[.func (.yield (w.heap.size + 1)) #[] #[]] ++ lb, W1, ?_, ?_, fun _ _ => trivial, ?_, fun h => (by cases h), ?_⟩
  · rw [← hW1, hrec]; exact run_enterLoop_outer _ _ _ _ _
  · simp only [resolve, hg]
    simp [go_sem]
  · simp [invoke, go_sem, eg]
  · refine (callsIn_wide.2 ?_ : CallsIn Fence.wide (3 - 1) P gf _ _ _)
    refine Calls.mono (R := RangeEnd P rec w.heap.size Q a) ?_ ?_
    · rw [hrec] at hc ⊢
      exact hc
    · rintro e W2 ⟨⟨v, rfl⟩, ⟨hl, hk⟩ | ⟨c, hl, hk⟩⟩
      · have h1 := run_endLoop (P := P) hl.l (by rw [hrec]; simp [recOf])
        refine ⟨_, _, h1, ?_⟩
        rw [hrec]
        exact hk _ (upd_putObj _ _ _) ((World.putObj_heap_other (by omega)).trans hl.d)
      · have h1 := run_endLoop (P := P) hl.l (by rw [hrec]; simp [recOf])
        refine ⟨_, _, h1, ?_⟩
        rw [hrec]
        exact wpIn_wide.2 (hk _ (upd_putObj _ _ _) ((World.putObj_heap_other (by omega)).trans hl.d))
/-- What a body must achieve that may have gone through one range over a function. -/
def postM (P : Program) (fn : Func) (R : Ending → World → Prop) : Exit → Act → World → Prop
  | .normal, a, w | .ret, a, w =>
    (a.defers = [] ∧ ∃ v, (results fn a.tmps).run P w = .ok v w ∧ R (.returned v) w) ∨
    (∃ D, a.defers = [{ target := .collected D, args := #[] }] ∧ w.heap[D]? = some (.deferred (some [])) ∧ ∃ v, (results fn a.tmps).run P (w.putObj D (.deferred none)) = .ok v (w.putObj D (.deferred none)) ∧ R (.returned v) (w.putObj D (.deferred none)))
  | _, _, _ => False
theorem postM_leaves {fn : Func} {R : Ending → World → Prop} {a : Act} {w : World}
    (h : (a.defers = [] ∧ ∃ v, (results fn a.tmps).run P w = .ok v w ∧ R (.returned v) w) ∨
      (∃ D, a.defers = [{ target := .collected D, args := #[] }] ∧ w.heap[D]? = some (.deferred (some [])) ∧ ∃ v, (results fn a.tmps).run P (w.putObj D (.deferred none)) = .ok v (w.putObj D (.deferred none)) ∧ R (.returned v) (w.putObj D (.deferred none)))) :
    LeavesInM Fence.wide 3 P fn a.tmps R a.defers .returning w := by
  rcases h with ⟨hd, v, hr, hR⟩ | ⟨D, hd, hk, v, hr, hR⟩
  · rw [hd]
    exact ⟨v, hr, hR⟩
  · rw [hd]
    exact ⟨by simp, .inl ⟨D, _, rfl, run_takeDeferred hk, v, hr, hR⟩⟩
theorem calls_of_wp_range {f : FuncId} {fn : Func} {c : Code} {args : Array Value} {w : World} {R : Ending → World → Prop} (hf : P.funcs[f]? = some fn) (hb : fn.body = some c)
    (h : c.wp P (postM P fn R) { tmps := args ++ Array.replicate (fn.ntmps - args.size) undef, defers := [] } w) : Calls P f args w R := by
  refine callsIn_wide.1 (callsIn_of_wp_marks (n := 3) hf hb trivial (wpIn_mono (wpIn_wide.2 h) ?_))
  intro e a w' hp
  cases e with
  | normal => exact postM_leaves hp
  | ret => exact postM_leaves hp
  | exit id => exact hp.elim
  | goto t => exact hp.elim
  | panic ch => exact hp.elim
  | outgrown => exact hp.elim
theorem postM_ret0 {fn : Func} {R : Ending → World → Prop} {a : Act} {w : World} {v : Value} (hr : (results fn a.tmps).run P w = .ok v w) (hd : a.defers = []) (hR : R (.returned v) w) : postM P fn R .ret a w :=
  .inl ⟨hd, v, hr, hR⟩
theorem postM_ret1 {fn : Func} {R : Ending → World → Prop} {a : Act} {w : World} {v : Value} {D : Nat} (hr : ∀ w', Upd (fun i => i = D) w w' → (results fn a.tmps).run P w' = .ok v w') (hd : a.defers = [{ target := .collected D, args := #[] }])
    (hk : w.heap[D]? = some (.deferred (some []))) (hR : ∀ w', Upd (fun i => i = D) w w' → R (.returned v) w') : postM P fn R .ret a w :=
  .inr ⟨D, hd, hk, v, hr _ (upd_putObj _ _ _), hR _ (upd_putObj _ _ _)⟩
/-! ### Regions that draw their order, within a round -/
def noDefer (ops : Array Oper) : Bool := ops.all fun o => match o.op with
  | .defer _ => false
  | _ => true
theorem noDefer_spec {ops : Array Oper} (h : noDefer ops = true) {i : Nat} {o : Oper} (hi : ops[i]? = some o) : ∀ c, o.op ≠ .defer c := by
  intro c hc
  have := Array.all_eq_true_iff_forall_mem.1 h o (Array.mem_of_getElem? hi)
  simp [hc] at this
theorem rows_in {row : String} {args : Array Value} {w : World} {R : Value → World → Prop} (n : Nat) (h : Rows P row args w R) : RowsIn Fence.wide n P row args w R :=
  fun c cs _ => let ⟨v, w', r, s⟩ := h c cs; ⟨v, w', r, stepsIn_wide.2 s⟩
theorem oper_round {o : Oper} (hd : ∀ c, o.op ≠ .defer c) {a : Act} {w : World} {K : Act → World → Prop} {Q : Exit → Act → World → Prop} (l n : Nat) (h : o.wp P a w K Q) : o.wpIn (Fence.wide.inRound l) n P a w K Q := by
  refine ⟨fun _ _ => trivial, ?_⟩
  rw [show (Fence.wide.inRound l).round = some l from rfl, Oper.semAt_eq _ _ _ hd]
  unfold Oper.wp at h
  generalize (execOp a.eval o).run P w = r at *
  cases r with
  | ok x w' =>
    cases x <;> simp only [Oper.upon] at h <;> simp only [Oper.uponIn] <;>
      first
        | exact h
        | exact h.elim
        | exact ⟨fun h => (by cases h), CallsIn.inRound l (callsIn_wide.2 h)⟩
        | exact ⟨fun h => (by cases h), rows_in _ h⟩
  | halt x w' => cases x <;> simp only [Oper.upon] at h <;> simp only [Oper.uponIn] <;> exact h
theorem ops_round {ops : Array Oper} (hd : noDefer ops = true) {Q : Exit → Act → World → Prop} (hq : ¬ LetsOut Q) (l n : Nat) : ∀ (σ : List Nat) (a : Act) (w : World), wpOps P ops Q σ a w → wpOpsIn (Fence.wide.inRound l) n P ops Q σ a w
  | [], _, _, h => h
  | i :: σ, a, w, h => by
    unfold wpOpsIn
    unfold wpOps at h
    cases hi : ops[i]? with
    | none => simp only [hi] at h ⊢; exact ops_round hd hq l n σ _ _ h
    | some o =>
      simp only [hi] at h ⊢
      split
      · rename_i hw
        rw [if_pos hw] at h
        rcases h with h | ⟨_, h⟩
        · exact oper_round (noDefer_spec hd hi) l n (Oper.wp_mono (fun a' w' h' => ops_round hd hq l n σ a' w' h') h)
        · exact (hq h).elim
      · rename_i hw
        rw [if_neg hw] at h
        exact ⟨fun _ _ => trivial, ops_round hd hq l n σ _ _ h⟩
theorem region_round {ops : Array Oper} {id l n : Nat} (hm : P.follows .mixedOrders = true) (hd : noDefer ops = true) {Q : Exit → Act → World → Prop} (hq : ¬ LetsOut Q) {a : Act} {w : World}
    (h : wpAny P .any ops Q ops.size (Array.replicate ops.size false) a w.drew) : (Code.region id ops true).wpIn (Fence.wide.inRound l) n P Q a w := by
  refine wpIn_region_draw fun t => ?_
  simp only [Region.schedule, hm, Bool.true_or, if_true]
  exact ops_round hd hq l n _ _ _ (wpAny_sound ops.size t _ a _ h)
/-- One that only reads (and calls what only reads): one walk in the text's order. -/
theorem quiet_round {lo : List Oper} {id l n : Nat} (hm : P.follows .mixedOrders = true) (hB : Region.lexB .any lo.toArray = true) (hd : noDefer lo.toArray = true) {Q : Exit → Act → World → Prop} (hq : ¬ LetsOut Q) {a : Act} {w : World}
    (h : wpQuiet P lo.toArray (fun w' => ∃ n, w' = w.drewN n) (fun a' => ∀ w', (∃ n, w' = w.drewN n) → Q .normal a' w') lo a) : (Code.region id lo.toArray true).wpIn (Fence.wide.inRound l) n P Q a w := by
  simp only [Region.lexB, Bool.and_eq_true] at hB
  refine region_round hm hd hq ?_
  refine wpAny_of_quiet (C := fun w' => ∃ n, w' = w.drewN n) (Q := fun a' => ∀ w', (∃ n, w' = w.drewN n) → Q .normal a' w') (fun _ w' hw' h => h w' hw') _ _ _ _ ⟨1, rfl⟩ ?_
  have := wpAnyQ_lex (C := fun w' => ∃ n, w' = w.drewN n) (md := .any) hB.1 lo.toArray.toList 0 (Array.replicate lo.toArray.size false) a (by simp) (by simpa using hB.2) h
  simpa using this
end
end Go.Proofs.Ytmblplhehbdocaa
