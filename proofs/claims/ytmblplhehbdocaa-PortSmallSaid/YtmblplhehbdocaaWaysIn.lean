/- common/Ways within a round: a region that draws its order and calls yield, walked once for each order that it may take. No condition. -/
import Derived.Test.YtmblplhehbdocaaRange
import Derived.Test.YtmblplhehbdocaaWays
import Derived.OrdersIn
namespace Go.Proofs.Ytmblplhehbdocaa
open Go.RowKit
section
variable {F : Fence} {n : Nat} {P : Program} {ops : Array Oper} {Q : Exit → Act → World → Prop}

/-! ### A fence's round is nothing that an operation without a defer asks of -/
theorem oper_inRound {o : Oper} (hd : ∀ c, o.op ≠ .defer c) {a : Act} {w : World} {K : Act → World → Prop} (l : Nat) (h : o.wpIn F n P a w K Q) : o.wpIn (F.inRound l) n P a w K Q := by
  refine ⟨h.1, ?_⟩
  have h2 := h.2
  rw [Oper.semAt_eq _ _ _ hd] at h2 ⊢
  generalize (execOp a.eval o).run P w = r at *
  cases r with
  | ok x w' => cases x <;> exact h2
  | halt x w' => cases x <;> exact h2
theorem ops_inRound (hd : noDefer ops = true) (l : Nat) : ∀ (σ : List Nat) (a : Act) (w : World), wpOpsIn F n P ops Q σ a w → wpOpsIn (F.inRound l) n P ops Q σ a w
  | [], _, _, h => h
  | i :: σ, a, w, h => by
    unfold wpOpsIn at h ⊢
    cases hi : ops[i]? with
    | none => simp only [hi] at h ⊢; exact ops_inRound hd l σ _ _ h
    | some o =>
      simp only [hi] at h ⊢
      split
      · rename_i hw
        rw [if_pos hw] at h
        exact oper_inRound (noDefer_spec hd hi) l (Oper.wpIn_mono (fun a' w' h' => ops_inRound hd l σ a' w' h') h)
      · rename_i hw
        rw [if_neg hw] at h
        exact ⟨h.1, ops_inRound hd l σ _ _ h.2⟩
theorem region_inRound {id l : Nat} (hm : P.follows .mixedOrders = true) (hd : noDefer ops = true) {a : Act} {w : World} (h : wpAnyIn Fence.wide n P .any ops Q ops.size (Array.replicate ops.size false) a w.drew) :
    (Code.region id ops true).wpIn (Fence.wide.inRound l) n P Q a w := by
  refine wpIn_region_draw fun t => ?_
  simp only [Region.schedule, hm, Bool.true_or, if_true]
  exact ops_inRound hd l _ _ _ (wpAnyIn_sound ops.size t _ a _ h)

/-! ### Runs and forks -/
theorem wpOpsIn_move {i : Nat} {o : Oper} {x : Operand} (hi : ops[i]? = some o) (hx : o.op = .move x ∨ o.op = .assign x) (σ : List Nat) (a : Act) (w : World) :
    ∃ v, YieldsFenced P ops o v a ∧ (wpOpsIn F n P ops Q (i :: σ) a w → wpOpsIn F n P ops Q σ (a.put o.dst v) w) := by
  have he : execOp a.eval o = pure (.value (a.eval x)) := by rcases hx with h | h <;> (unfold execOp; rw [h])
  have hrun : ∀ w : World, (execOp a.eval o).run P w = .ok (.value (a.eval x)) w := fun w => by rw [he]; rfl
  have hab : ∀ w, o.about P w a.eval = none := fun w => by unfold Oper.about; rcases hx with h | h <;> rw [h]
  have hnd : ∀ c, o.op ≠ .defer c := fun c hc => by rcases hx with h | h <;> (rw [h] at hc; cases hc)
  cases hw : Region.wanted o (yielded ops a.tmps)
  · refine ⟨undef, ⟨.inr ⟨hw, rfl⟩, hab⟩, fun h => ?_⟩
    simp only [wpOpsIn, hi, hw] at h
    exact h.2
  · refine ⟨a.eval x, ⟨.inl ⟨hw, hrun⟩, hab⟩, fun h => ?_⟩
    simp only [wpOpsIn, hi, hw, if_true] at h
    have h2 := h.2
    rw [Oper.semAt_eq _ _ _ hnd, hrun] at h2
    exact h2
theorem Oper.wpIn_then {o : Oper} {a : Act} {w : World} {K K' : Act → World → Prop} (h : o.wpIn F n P a w K (Exit.then K' Q)) : o.wpIn F n P a w K Q := by
  refine ⟨h.1, ?_⟩
  have h2 := h.2
  generalize (o.semAt F.round a.eval).run P w = r at *
  cases r with
  | ok x w' =>
    cases x <;> simp only [Oper.uponIn] at h2 ⊢ <;>
      first
        | exact h2
        | exact ⟨h2.1, CallsIn.mono h2.2 (fun e w'' he => by cases e <;> exact he)⟩
        | exact ⟨h2.1, RoundIn.mono h2.2 (fun e w'' he => by cases e <;> exact he)⟩
  | halt x w' => cases x <;> simp only [Oper.uponIn] at h2 ⊢ <;> exact h2
theorem wpOpIn_of_ops {i : Nat} {σ : List Nat} {K : Act → World → Prop} {a : Act} {w : World} (h : wpOpsIn F n P ops (Exit.then K Q) (i :: σ) a w) : wpOpIn F n P ops Q i (wpOpsIn F n P ops (Exit.then K Q) σ) a w := by
  rw [wpOpsIn_cons] at h
  unfold wpOpIn at *
  split
  · rename_i hn; simp only [hn] at h; exact h
  · rename_i o ho
    simp only [ho] at h
    split
    · rename_i hw
      rw [if_pos hw] at h
      exact Oper.wpIn_then h
    · rename_i hw
      rw [if_neg hw] at h
      exact h
def LeftIn (F : Fence) (n : Nat) (P : Program) (ops : Array Oper) (Q : Exit → Act → World → Prop) (f : Nat) (listed : Array Bool) (a : Act) (w : World) : Prop := wpAnyIn F n P .any ops Q f listed a w
theorem wpAnyIn_run (hro : F.round = none) (hsel : Region.noSelect ops = true) (hQ : ∀ c (a : Act) d v w, Q (.panic c) (a.put d v) w → Q (.panic c) a w) (f : Nat) :
    ∀ (σ : List Nat) (listed : Array Bool) (a : Act) (w : World), runB .any ops listed σ = true → wpOpsIn F n P ops (Exit.then (LeftIn F n P ops Q f (after listed σ)) Q) σ a w → wpAnyIn F n P .any ops Q (f + σ.length) listed a w
  | [], _, _, _, _, h => h
  | i :: σ, listed, a, w, hr, h => by
    simp only [runB, Bool.and_eq_true, Bool.or_eq_true, beq_iff_eq] at hr
    obtain ⟨hi, hr⟩ := hr
    rcases hi with hi | hi
    · refine wpAnyIn_all (fuel := f + σ.length) hi (by simp) fun j hj => ?_
      obtain rfl : j = i := by simpa using hj
      exact wpOpIn_mono (fun a' w' h' => wpAnyIn_run hro hsel hQ f σ _ a' w' hr h') (wpOpIn_of_ops h)
    · obtain ⟨⟨h1, h2⟩, h3⟩ := hi
      obtain ⟨o, x, ho, hx⟩ := isMove_spec h1
      obtain ⟨v, hy, hK⟩ := wpOpsIn_move (n := n) (P := P) (Q := Exit.then (LeftIn F n P ops Q f (after (listed.setIfInBounds i true) σ)) Q) ho hx σ a w
      exact wpAnyIn_take (fuel := f + σ.length) hro ho hsel h2 h3 (fun c a w => hQ c a _ _ w) hy (wpAnyIn_run hro hsel hQ f σ _ _ w hr (hK h))
def ArmsIn (F : Fence) (n : Nat) (P : Program) (ops : Array Oper) (Q : Exit → Act → World → Prop) (f : Nat) (listed : Array Bool) (a : Act) (w : World) : List Nat → Prop
  | [] => True
  | i :: rs => wpOpIn F n P ops Q i (LeftIn F n P ops Q f (listed.setIfInBounds i true)) a w ∧ ArmsIn F n P ops Q f listed a w rs
theorem ArmsIn.all {f : Nat} {listed : Array Bool} {a : Act} {w : World} : ∀ {rs : List Nat}, ArmsIn F n P ops Q f listed a w rs → ∀ i ∈ rs, wpOpIn F n P ops Q i (LeftIn F n P ops Q f (listed.setIfInBounds i true)) a w
  | [], _, _, h => by cases h
  | _ :: _, h, j, hj => by
    rcases List.mem_cons.1 hj with rfl | hj
    · exact h.1
    · exact ArmsIn.all h.2 j hj
theorem LeftIn.fork {f G : Nat} {listed : Array Bool} {a : Act} {w : World} (rs : List Nat) (hr : Region.ready .any ops listed = rs) (hne : rs ≠ []) (hf : G = f + 1) (h : ArmsIn F n P ops Q f listed a w rs) : LeftIn F n P ops Q G listed a w := by
  subst hf
  exact wpAnyIn_all hr hne (ArmsIn.all h)
theorem LeftIn.done {f : Nat} {listed : Array Bool} {a : Act} {w : World} (hr : Region.ready .any ops listed = []) (h : Q .normal a w) : LeftIn F n P ops Q f listed a w := wpAnyIn_done hr h f
theorem wpOpsIn_runs {lo : List Oper} {σ : List Nat} {l : List Oper} (hr : Runs lo σ l) : ∀ {a : Act} {w : World}, wpListIn F n P lo.toArray Q l a w → wpOpsIn F n P lo.toArray Q σ a w := by
  induction hr with
  | nil => exact fun h => h
  | @cons i o σ l h1 _ ih =>
    intro a w h
    have ho : lo.toArray[i]? = some o := by simpa using h1.get
    rw [wpOpsIn_cons]
    refine wpOpIn_mono (fun a' w' h' => ih h') ?_
    unfold wpOpIn
    simp only [ho]
    exact h
/-- **The region begins**, within a round. -/
theorem round_region_run {id l : Nat} {lo lr : List Oper} {a : Act} {w : World} (σ : List Nat) (f : Nat) (hm : P.follows .mixedOrders = true) (hd : noDefer lo.toArray = true) (hf : lo.toArray.size = f + σ.length) (hsel : Region.noSelect lo.toArray = true)
    (hr : runB .any lo.toArray (Array.replicate lo.toArray.size false) σ = true) (hQ : ∀ c (a : Act) d v w, Q (.panic c) (a.put d v) w → Q (.panic c) a w) (hl : Runs lo σ lr)
    (h : wpListIn Fence.wide n P lo.toArray (Exit.then (LeftIn Fence.wide n P lo.toArray Q f (after (Array.replicate lo.toArray.size false) σ)) Q) lr a w.drew) : (Code.region id lo.toArray true).wpIn (Fence.wide.inRound l) n P Q a w := by
  refine region_inRound hm hd ?_
  have h2 := wpAnyIn_run (F := Fence.wide) (n := n) rfl hsel hQ f σ _ a w.drew hr (wpOpsIn_runs hl h)
  rw [← hf] at h2
  exact h2
theorem LeftIn.run {lo l : List Oper} {G : Nat} {listed : Array Bool} {a : Act} {w : World} (σ : List Nat) (f : Nat) (hf : G = f + σ.length) (hsel : Region.noSelect lo.toArray = true)
    (hr : runB .any lo.toArray listed σ = true) (hQ : ∀ c (a : Act) d v w, Q (.panic c) (a.put d v) w → Q (.panic c) a w) (hl : Runs lo σ l)
    (h : wpListIn Fence.wide n P lo.toArray (Exit.then (LeftIn Fence.wide n P lo.toArray Q f (after listed σ)) Q) l a w) : LeftIn Fence.wide n P lo.toArray Q G listed a w := by
  subst hf
  exact wpAnyIn_run rfl hsel hQ f σ _ a w hr (wpOpsIn_runs hl h)
theorem ArmsIn.arm {lo l : List Oper} {G : Nat} {listed : Array Bool} {a : Act} {w : World} {i : Nat} {rs : List Nat} (σ : List Nat) (f : Nat) (hf : G = f + σ.length) (hsel : Region.noSelect lo.toArray = true)
    (hr : runB .any lo.toArray (listed.setIfInBounds i true) σ = true) (hQ : ∀ c (a : Act) d v w, Q (.panic c) (a.put d v) w → Q (.panic c) a w) (hl : Runs lo (i :: σ) l)
    (h : wpListIn Fence.wide n P lo.toArray (Exit.then (LeftIn Fence.wide n P lo.toArray Q f (after (listed.setIfInBounds i true) σ)) Q) l a w) (h2 : ArmsIn Fence.wide n P lo.toArray Q G listed a w rs) : ArmsIn Fence.wide n P lo.toArray Q G listed a w (i :: rs) := by
  refine ⟨?_, h2⟩
  subst hf
  exact wpOpIn_mono (fun a' w' h' => wpAnyIn_run rfl hsel hQ f σ _ a' w' hr h') (wpOpIn_of_ops (wpOpsIn_runs hl h))
theorem ArmsIn.none {G : Nat} {listed : Array Bool} {a : Act} {w : World} : ArmsIn F n P ops Q G listed a w [] := trivial
/-- A load of many cells. -/
theorem wpListIn_load_midG {rest : List Oper} {op : Oper} {a : Act} {w : World} (hw : Region.wanted op (yielded ops a.tmps) = true) (ty : TypeId) (x : Operand) (ho : op.op = .load ty x)
    (b o : Nat) (hx : a.eval x = .pointer (some ⟨b, o, .none⟩)) (cs : List Value) (d : TypeDesc) (hc : w.rangeAt b o cs)
    (hu : P.underlying ty = some d) (hd : d.isRow = true) (hi : (P.info? ty).map (·.size) = some cs.length)
    (h : wpListIn F n P ops Q rest (a.put op.dst (.agg cs.toArray)) w) : wpListIn F n P ops Q (op :: rest) a w := by
  unfold wpListIn
  rw [if_pos hw]
  refine ⟨fun f hf => (by unfold Oper.about at hf; rw [ho] at hf; cases hf), ?_⟩
  rw [Oper.semAt_eq _ _ _ (by intro c hc'; rw [ho] at hc'; cases hc')]
  unfold execOp
  simp only [ho, hx, Instr.loadAt, Instr.sureAddr, Sem.run_bind, Sem.run_pure, Result.andThen_ok, run_loadVar_mid w b o ty cs d hc hu hd hi]
  exact h
end
end Go.Proofs.Ytmblplhehbdocaa
