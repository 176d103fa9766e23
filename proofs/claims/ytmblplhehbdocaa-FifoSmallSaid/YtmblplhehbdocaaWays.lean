/- A region that draws its order, walked once for each order that it may take: runs of operations that no other may cross go as a plain list, a fork as its arms. No condition. -/
import Derived.Orders
import Derived.Tactics
import Derived.BigFrame
import Derived.StepT
import Derived.Deep.WholeRow
import Derived.Deep.MidRow
import Derived.Laws.StructEq
namespace Go.Proofs.Ytmblplhehbdocaa
section
variable {P : Program} {ops : Array Oper} {Q : Exit → Act → World → Prop} {md : Region.Mode}

/-- An operation that hands on a value, no more. -/
def isMove (ops : Array Oper) (i : Nat) : Bool := match ops[i]? with
  | some o => (match o.op with
    | .move _ => true
    | .assign _ => true
    | _ => false)
  | none => false
theorem isMove_spec {i : Nat} (h : isMove ops i = true) : ∃ o x, ops[i]? = some o ∧ (o.op = .move x ∨ o.op = .assign x) := by
  unfold isMove at h
  split at h
  · rename_i o ho
    split at h
    · rename_i x hx
      exact ⟨o, x, ho, .inl hx⟩
    · rename_i x hx
      exact ⟨o, x, ho, .inr hx⟩
    · cases h
  · cases h
theorem wpOps_move {i : Nat} {o : Oper} {x : Operand} (hi : ops[i]? = some o) (hx : o.op = .move x ∨ o.op = .assign x) (σ : List Nat) (a : Act) (w : World) :
    ∃ v, Yields P ops o v a ∧ (wpOps P ops Q (i :: σ) a w → wpOps P ops Q σ (a.put o.dst v) w) := by
  have he : execOp a.eval o = pure (.value (a.eval x)) := by rcases hx with h | h <;> (unfold execOp; rw [h])
  have hrun : ∀ w : World, (execOp a.eval o).run P w = .ok (.value (a.eval x)) w := fun w => by rw [he]; rfl
  cases hw : Region.wanted o (yielded ops a.tmps)
  · refine ⟨undef, .inr ⟨hw, rfl⟩, fun h => ?_⟩
    simp only [wpOps, hi, hw] at h
    exact h
  · refine ⟨a.eval x, .inl ⟨hw, hrun⟩, fun h => ?_⟩
    simp only [wpOps, hi, hw, if_true] at h
    rcases h with h | ⟨h, _⟩
    · unfold Oper.wp at h
      rw [hrun] at h
      exact h
    · exfalso
      unfold Oper.asks at h
      rw [he] at h
      have h1 := h.1
      change noRoomEvent ∈ (#[] : Array Event) at h1
      simp at h1
theorem Oper.wp_then {o : Oper} {a : Act} {w : World} {K K' : Act → World → Prop} (h : o.wp P a w K (Exit.then K' Q)) : o.wp P a w K Q := by
  unfold Oper.wp at *
  generalize (execOp a.eval o).run P w = r at *
  cases r with
  | ok n w' =>
    cases n <;> simp only [Oper.upon] at h ⊢ <;>
      first
        | exact h
        | exact Calls.mono h (fun e w'' he => by cases e <;> exact he)
  | halt x w' => cases x <;> simp only [Oper.upon] at h ⊢ <;> exact h
theorem wpOp_of_ops {i : Nat} {σ : List Nat} {K : Act → World → Prop} {a : Act} {w : World} (h : wpOps P ops (Exit.then K Q) (i :: σ) a w) : wpOp P ops Q i (wpOps P ops (Exit.then K Q) σ) a w := by
  rw [wpOps_cons] at h
  unfold wpOp at *
  split
  · rename_i hn; simp only [hn] at h; exact h
  · rename_i o ho
    simp only [ho] at h
    split
    · rename_i hw
      rw [if_pos hw] at h
      exact h.imp Oper.wp_then (fun ⟨h1, a', w', h2⟩ => ⟨h1, a', w', h2⟩)
    · rename_i hw
      rw [if_neg hw] at h
      exact h

/-- The row behind a run of operations. -/
def after (listed : Array Bool) : List Nat → Array Bool
  | [] => listed
  | i :: σ => after (listed.setIfInBounds i true) σ
/-- Each operation of the run comes up alone, or is a move that none may cross. -/
def runB (md : Region.Mode) (ops : Array Oper) : Array Bool → List Nat → Bool
  | _, [] => true
  | listed, i :: σ => (Region.ready md ops listed == [i] || (isMove ops i && Region.free md ops listed i && (Region.ready md ops listed).contains i)) && runB md ops (listed.setIfInBounds i true) σ
/-- What is left of the region. -/
def Left (P : Program) (ops : Array Oper) (Q : Exit → Act → World → Prop) (f : Nat) (listed : Array Bool) (a : Act) (w : World) : Prop := wpAny P .any ops Q f listed a w
theorem wpAny_run (hsel : Region.noSelect ops = true) (hQ : ∀ c (a : Act) d v w, Q (.panic c) (a.put d v) w → Q (.panic c) a w) (f : Nat) :
    ∀ (σ : List Nat) (listed : Array Bool) (a : Act) (w : World), runB .any ops listed σ = true → wpOps P ops (Exit.then (Left P ops Q f (after listed σ)) Q) σ a w → wpAny P .any ops Q (f + σ.length) listed a w
  | [], _, _, _, _, h => h
  | i :: σ, listed, a, w, hr, h => by
    simp only [runB, Bool.and_eq_true, Bool.or_eq_true, beq_iff_eq] at hr
    obtain ⟨hi, hr⟩ := hr
    rcases hi with hi | hi
    · refine wpAny_all (fuel := f + σ.length) hi (by simp) fun j hj => ?_
      obtain rfl : j = i := by simpa using hj
      exact wpOp_mono (fun a' w' h' => wpAny_run hsel hQ f σ _ a' w' hr h') (wpOp_of_ops h)
    · obtain ⟨⟨h1, h2⟩, h3⟩ := hi
      obtain ⟨o, x, ho, hx⟩ := isMove_spec h1
      obtain ⟨v, hy, hK⟩ := wpOps_move (P := P) (Q := Exit.then (Left P ops Q f (after (listed.setIfInBounds i true) σ)) Q) ho hx σ a w
      exact wpAny_take (fuel := f + σ.length) ho hsel h2 h3 (fun c a w => hQ c a _ _ w) hy (wpAny_run hsel hQ f σ _ _ w hr (hK h))
/-- The arms of a fork: each begins with one of those that may come up. -/
def Arms (P : Program) (ops : Array Oper) (Q : Exit → Act → World → Prop) (f : Nat) (listed : Array Bool) (a : Act) (w : World) : List Nat → Prop
  | [] => True
  | i :: rs => wpOp P ops Q i (Left P ops Q f (listed.setIfInBounds i true)) a w ∧ Arms P ops Q f listed a w rs
theorem Arms.all {f : Nat} {listed : Array Bool} {a : Act} {w : World} : ∀ {rs : List Nat}, Arms P ops Q f listed a w rs → ∀ i ∈ rs, wpOp P ops Q i (Left P ops Q f (listed.setIfInBounds i true)) a w
  | [], _, _, h => by cases h
  | _ :: _, h, j, hj => by
    rcases List.mem_cons.1 hj with rfl | hj
    · exact h.1
    · exact Arms.all h.2 j hj
theorem Left.fork {f F : Nat} {listed : Array Bool} {a : Act} {w : World} (rs : List Nat) (hr : Region.ready .any ops listed = rs) (hne : rs ≠ []) (hf : F = f + 1) (h : Arms P ops Q f listed a w rs) : Left P ops Q F listed a w := by
  subst hf
  exact wpAny_all hr hne (Arms.all h)
theorem Left.done {f : Nat} {listed : Array Bool} {a : Act} {w : World} (hr : Region.ready .any ops listed = []) (h : Q .normal a w) : Left P ops Q f listed a w := wpAny_done hr h f
/-- The operations of a run, in their order. -/
inductive At : List Oper → Nat → Oper → Prop
  | head (o : Oper) (l : List Oper) : At (o :: l) 0 o
  | tail (x : Oper) (l : List Oper) (i : Nat) (o : Oper) : At l i o → At (x :: l) (i + 1) o
theorem At.get {l : List Oper} {i : Nat} {o : Oper} (h : At l i o) : l[i]? = some o := by
  induction h with
  | head => rfl
  | tail x l i o _ ih => simpa using ih
/-- l: the run's operations. -/
inductive Runs (ops : List Oper) : List Nat → List Oper → Prop
  | nil : Runs ops [] []
  | cons {i : Nat} {o : Oper} {σ : List Nat} {l : List Oper} : At ops i o → Runs ops σ l → Runs ops (i :: σ) (o :: l)
theorem wpOps_runs {lo : List Oper} {σ : List Nat} {l : List Oper} (hr : Runs lo σ l) : ∀ {a : Act} {w : World}, wpList P lo.toArray Q l a w → wpOps P lo.toArray Q σ a w := by
  induction hr with
  | nil => exact fun h => h
  | @cons i o σ l h1 _ ih =>
    intro a w h
    have ho : lo.toArray[i]? = some o := by simpa using h1.get
    rw [wpOps_cons]
    refine wpOp_mono (fun a' w' h' => ih h') ?_
    unfold wpOp
    simp only [ho]
    exact h
/-- **The region begins**: a first run, then what is left. -/
theorem wp_region_run {id : Nat} {lo l : List Oper} {a : Act} {w : World} (σ : List Nat) (f : Nat) (hm : P.follows .mixedOrders = true) (hf : lo.toArray.size = f + σ.length) (hsel : Region.noSelect lo.toArray = true)
    (hr : runB .any lo.toArray (Array.replicate lo.toArray.size false) σ = true) (hQ : ∀ c (a : Act) d v w, Q (.panic c) (a.put d v) w → Q (.panic c) a w) (hl : Runs lo σ l)
    (h : wpList P lo.toArray (Exit.then (Left P lo.toArray Q f (after (Array.replicate lo.toArray.size false) σ)) Q) l a w.drew) : (Code.region id lo.toArray true).wp P Q a w := by
  refine wp_region_any hm ?_
  have h2 := wpAny_run hsel hQ f σ _ a w.drew hr (wpOps_runs hl h)
  rw [← hf] at h2
  exact h2
/-- A further run, up to the region's end or to a fork. -/
theorem Left.run {lo l : List Oper} {F : Nat} {listed : Array Bool} {a : Act} {w : World} (σ : List Nat) (f : Nat) (hf : F = f + σ.length) (hsel : Region.noSelect lo.toArray = true)
    (hr : runB .any lo.toArray listed σ = true) (hQ : ∀ c (a : Act) d v w, Q (.panic c) (a.put d v) w → Q (.panic c) a w) (hl : Runs lo σ l)
    (h : wpList P lo.toArray (Exit.then (Left P lo.toArray Q f (after listed σ)) Q) l a w) : Left P lo.toArray Q F listed a w := by
  subst hf
  exact wpAny_run hsel hQ f σ _ a w hr (wpOps_runs hl h)
/-- One arm of a fork: its first operation, and the run behind it. -/
theorem Arms.arm {lo l : List Oper} {F : Nat} {listed : Array Bool} {a : Act} {w : World} {i : Nat} {rs : List Nat} (σ : List Nat) (f : Nat) (hf : F = f + σ.length) (hsel : Region.noSelect lo.toArray = true)
    (hr : runB .any lo.toArray (listed.setIfInBounds i true) σ = true) (hQ : ∀ c (a : Act) d v w, Q (.panic c) (a.put d v) w → Q (.panic c) a w) (hl : Runs lo (i :: σ) l)
    (h : wpList P lo.toArray (Exit.then (Left P lo.toArray Q f (after (listed.setIfInBounds i true) σ)) Q) l a w) (h2 : Arms P lo.toArray Q F listed a w rs) : Arms P lo.toArray Q F listed a w (i :: rs) := by
  refine ⟨?_, h2⟩
  subst hf
  exact wpOp_mono (fun a' w' h' => wpAny_run hsel hQ f σ _ a' w' hr h') (wpOp_of_ops (wpOps_runs hl h))
theorem Arms.none {F : Nat} {listed : Array Bool} {a : Act} {w : World} : Arms P ops Q F listed a w [] := trivial

/-! ### Loads and stores of many cells under a guard that says yes -/
theorem wpList_load_rowG {rest : List Oper} {op : Oper} {a : Act} {w : World} (hw : Region.wanted op (yielded ops a.tmps) = true) (ty : TypeId) (x : Operand) (ho : op.op = .load ty x)
    (g : Nat) (hx : a.eval x = .pointer (some ⟨g, 0, .none⟩)) (t : TypeId) (cs : Array Value) (fr : Nat × Nat) (d : TypeDesc) (hg : w.heap[g]? = some (.cells cs t fr))
    (hu : P.underlying ty = some d) (hd : (match d with | .struct _ | .array _ _ => true | _ => false) = true) (hi : (P.info? ty).map (·.size) = some cs.size)
    (h : wpList P ops Q rest (a.put op.dst (.agg cs)) w) : wpList P ops Q (op :: rest) a w :=
  BigFrame.wpList_want hw fun _ hK => wp_load_row ty x ho g hx t cs fr d hg hu hd hi (hK _ _ h)
theorem wpList_load_midG {rest : List Oper} {op : Oper} {a : Act} {w : World} (hw : Region.wanted op (yielded ops a.tmps) = true) (ty : TypeId) (x : Operand) (ho : op.op = .load ty x)
    (b o : Nat) (hx : a.eval x = .pointer (some ⟨b, o, .none⟩)) (cs : List Value) (d : TypeDesc) (hc : w.rangeAt b o cs)
    (hu : P.underlying ty = some d) (hd : d.isRow = true) (hi : (P.info? ty).map (·.size) = some cs.length)
    (h : wpList P ops Q rest (a.put op.dst (.agg cs.toArray)) w) : wpList P ops Q (op :: rest) a w :=
  BigFrame.wpList_want hw fun _ hK => wp_load_mid ty x ho b o hx cs d hc hu hd hi (hK _ _ h)
/-- == and != of structs whose answer is known. -/
theorem wpList_same {rest : List Oper} {op : Oper} {a : Act} {w : World} (hw : Region.wanted op (yielded ops a.tmps) = true) (b : BinOp) (t t2 : TypeId) (x y : Operand) (ho : op.op = .binOp b t x y t2)
    (us vs : Array Value) (r : Value) (hx : a.eval x = .agg us) (hy : a.eval y = .agg vs) (hm : P.eqGuardType P.depth t = false) (hrun : (binOp b t (.agg us) (.agg vs)).run P w = Result.ok r w)
    (h : wpList P ops Q rest (a.put op.dst r) w) : wpList P ops Q (op :: rest) a w :=
  BigFrame.wpList_want hw fun _ hK => by
    unfold Oper.wp execOp
    simp only [ho, hx, hy, Sem.run_bind, Sem.run_pure, run_eqGuard_agg _ b t x y us vs hm, Result.andThen_ok, hrun]
    exact hK _ _ h
end
end Go.Proofs.Ytmblplhehbdocaa
