/- A region that draws its order: behind a run of operations (common/Ways) all that is left only reads, or lays new blocks: one walk in the text's order. No condition. -/
import Derived.Test.YtkhhmkcpbefadaaGrow
namespace Go.Proofs.Ytkhhmkcpbefadaa
open Go.RowKit
/-- l: the list's operations from number k on. -/
inductive Tail : List Oper → Nat → List Oper → Prop
  | all (l : List Oper) : Tail l 0 l
  | skip (x : Oper) (l : List Oper) (k : Nat) (t : List Oper) : Tail l k t → Tail (x :: l) (k + 1) t
theorem Tail.get {lo : List Oper} {k : Nat} {l : List Oper} (h : Tail lo k l) : ∀ j : Nat, l[j]? = lo[k + j]? := by
  induction h with
  | all l => exact fun j => by rw [Nat.zero_add]
  | skip x l k t _ ih => exact fun j => by rw [ih j, show k + 1 + j = (k + j) + 1 by omega]; rfl
section
variable {P : Program} {Q : Exit → Act → World → Prop}
theorem Left.grown {lo l : List Oper} {f : Nat} {listed : Array Bool} {a : Act} {w : World} (k : Nat) (hl : Tail lo k l) (hf : f = l.length) (hs : Region.noSelect lo.toArray = true)
    (hB : Region.lexFrom .any lo.toArray l.length k listed = true) (h : wpQuiet P lo.toArray (fun w' => ∃ G : Grown w, w' = G.W) (fun a' => ∀ G : Grown w, Q .normal a' G.W) l a) : Left P lo.toArray Q f listed a w := by
  subst hf
  have e : (fun a' => ∀ w', (∃ G : Grown w, w' = G.W) → Q .normal a' w') = fun a' => ∀ G : Grown w, Q .normal a' G.W := by
    funext a'
    refine propext ⟨fun h G => h _ ⟨G, rfl⟩, ?_⟩
    rintro h _ ⟨G, rfl⟩
    exact h G
  refine wpAny_of_quiet (C := fun w' => ∃ G : Grown w, w' = G.W) (Q := fun a' => ∀ w', (∃ G : Grown w, w' = G.W) → Q .normal a' w') (fun _ w' hw' h => h w' hw') _ _ _ _ ⟨Grown.self w, rfl⟩ ?_
  rw [e]
  exact wpAnyQ_lex (C := fun w' => ∃ G : Grown w, w' = G.W) (md := .any) hs l k listed a (fun j => by rw [hl.get j]; simp) hB h
end
end Go.Proofs.Ytkhhmkcpbefadaa
