/-
  No cell of these rows narrows 'for every input' (looked for: loops, veiled, ifaces, maps, wideKeys, modest, calm, conditions, laid).
  DERIVED. THE GIVEN ROWS OF THIS SEAT. 5 by the template 'for every input the law returns true; each argument reads behind the call as it read before'; 0 by the template 'total and deterministic' (their statements: YtkhhmkcpbefadaaTotals.lean).
  GIVEN WITH THE SEED: the statements are not yours to turn. If you find one false, say at which input.
  Laid BY PROGRAM, IN A SANDBOX (cutbox-rows.mjs): the forced cells as the released guide's own fill.sh prints them over the translation a333ce980e112e49… (all of the seat's roots in one cut). By AI agents, Wed Nov 11 2026. No macro, syntax, notation, axiom, sorry.
-/
import Derived.Test.YtkhhmkcpbefadaaChecked
import GoSem.Claim
import GoSem.ClaimJoined
import GoSem.ClaimMapViews
import Derived.JoinedTies
import Derived.KernelRfl
namespace Go.Proofs.Ytkhhmkcpbefadaa
/- THE CELL 'sum', in the pinned program and in every row, IS THE sha256 OF THE DUMP (.gsa) THAT YtkhhmkcpbefadaaProg.lean LOADS. Nothing in Lean hashes anything: it is a label: what it is worth is what the hold of that sum in a sandbox is worth. -/
noncomputable def Try.pinned : Pinned := { name := "ytkhhmkcpbefadaa", sum := "a333ce980e112e49b2c8c1efc7e77640348121be91c65359f3ad744d8dce2599", checked := Try.checked }
namespace Rows
def none {H : Type} : Left H := { results := [], args := [] }

/-- 'septumlaw20.IrqOnce': WHATEVER THE INPUT: true; the input reads as it did. -/
def irqOnceSpec : ChangeSpec := { name := "irqOnce", fn := fun _ => fun
  | [d1, d2, d3] => { results := [.lit (.bool true)], args := [d1, d2, d3] }
  | _ => none }
def irqOnceRow : OpenClaim := { program := "ytkhhmkcpbefadaa", sum := "a333ce980e112e49b2c8c1efc7e77640348121be91c65359f3ad744d8dce2599", func := "septum/septumlaw20.IrqOnce", spec := "irqOnce", apart := false }
def IrqOnceSaid : Prop := irqOnceRow.holds Try.pinned (OpenSpec.ofChange irqOnceSpec)

/-- ITS FALSE NEIGHBOUR: 'it returns false'. Refute it at one input. -/
def irqOnceWrong : ChangeSpec := { name := "irqOnce", fn := fun _ => fun
  | [d1, d2, d3] => { results := [.lit (.bool false)], args := [d1, d2, d3] }
  | _ => none }
def IrqOnceWrongFalsely : Prop := irqOnceRow.holds Try.pinned (OpenSpec.ofChange irqOnceWrong)

/-- 'septumlaw20.IrqOrder': WHATEVER THE INPUT: true; the input reads as it did. -/
def irqOrderSpec : ChangeSpec := { name := "irqOrder", fn := fun _ => fun
  | [d1, d2] => { results := [.lit (.bool true)], args := [d1, d2] }
  | _ => none }
def irqOrderRow : OpenClaim := { program := "ytkhhmkcpbefadaa", sum := "a333ce980e112e49b2c8c1efc7e77640348121be91c65359f3ad744d8dce2599", func := "septum/septumlaw20.IrqOrder", spec := "irqOrder", apart := false }
def IrqOrderSaid : Prop := irqOrderRow.holds Try.pinned (OpenSpec.ofChange irqOrderSpec)

/-- ITS FALSE NEIGHBOUR: 'it returns false'. Refute it at one input. -/
def irqOrderWrong : ChangeSpec := { name := "irqOrder", fn := fun _ => fun
  | [d1, d2] => { results := [.lit (.bool false)], args := [d1, d2] }
  | _ => none }
def IrqOrderWrongFalsely : Prop := irqOrderRow.holds Try.pinned (OpenSpec.ofChange irqOrderWrong)

/-- 'septumlaw20.IrqApart': WHATEVER THE INPUT: true; the input reads as it did. -/
def irqApartSpec : ChangeSpec := { name := "irqApart", fn := fun _ => fun
  | [d1, d2, d3] => { results := [.lit (.bool true)], args := [d1, d2, d3] }
  | _ => none }
def irqApartRow : OpenClaim := { program := "ytkhhmkcpbefadaa", sum := "a333ce980e112e49b2c8c1efc7e77640348121be91c65359f3ad744d8dce2599", func := "septum/septumlaw20.IrqApart", spec := "irqApart", unfollowed := true, recurses := true, apart := false }
def IrqApartSaid : Prop := irqApartRow.holds Try.pinned (OpenSpec.ofChange irqApartSpec)

/-- ITS FALSE NEIGHBOUR: 'it returns false'. Refute it at one input. -/
def irqApartWrong : ChangeSpec := { name := "irqApart", fn := fun _ => fun
  | [d1, d2, d3] => { results := [.lit (.bool false)], args := [d1, d2, d3] }
  | _ => none }
def IrqApartWrongFalsely : Prop := irqApartRow.holds Try.pinned (OpenSpec.ofChange irqApartWrong)

/-- 'septumlaw20.IrqDoes': WHATEVER THE INPUT: true; the input reads as it did. -/
def irqDoesSpec : ChangeSpec := { name := "irqDoes", fn := fun _ => fun
  | [d1, d2] => { results := [.lit (.bool true)], args := [d1, d2] }
  | _ => none }
def irqDoesRow : OpenClaim := { program := "ytkhhmkcpbefadaa", sum := "a333ce980e112e49b2c8c1efc7e77640348121be91c65359f3ad744d8dce2599", func := "septum/septumlaw20.IrqDoes", spec := "irqDoes", unfollowed := true, recurses := true, apart := false }
def IrqDoesSaid : Prop := irqDoesRow.holds Try.pinned (OpenSpec.ofChange irqDoesSpec)

/-- ITS FALSE NEIGHBOUR: 'it returns false'. Refute it at one input. -/
def irqDoesWrong : ChangeSpec := { name := "irqDoes", fn := fun _ => fun
  | [d1, d2] => { results := [.lit (.bool false)], args := [d1, d2] }
  | _ => none }
def IrqDoesWrongFalsely : Prop := irqDoesRow.holds Try.pinned (OpenSpec.ofChange irqDoesWrong)

/-- 'septumlaw20.IrqSmall': WHATEVER THE INPUT: true; the input reads as it did. -/
def irqSmallSpec : ChangeSpec := { name := "irqSmall", fn := fun _ => fun
  | [] => { results := [.lit (.bool true)], args := [] }
  | _ => none }
def irqSmallRow : OpenClaim := { program := "ytkhhmkcpbefadaa", sum := "a333ce980e112e49b2c8c1efc7e77640348121be91c65359f3ad744d8dce2599", func := "septum/septumlaw20.IrqSmall", spec := "irqSmall", unfollowed := true, recurses := true, apart := false }
def IrqSmallSaid : Prop := irqSmallRow.holds Try.pinned (OpenSpec.ofChange irqSmallSpec)

/-- ITS FALSE NEIGHBOUR: 'it returns false'. Refute it at one input. -/
def irqSmallWrong : ChangeSpec := { name := "irqSmall", fn := fun _ => fun
  | [] => { results := [.lit (.bool false)], args := [] }
  | _ => none }
def IrqSmallWrongFalsely : Prop := irqSmallRow.holds Try.pinned (OpenSpec.ofChange irqSmallWrong)

/- THE SECOND FORM. 'bulk': how many values and letters a reading holds, each counted each time it is reached (what is shared counts as often as it is met; a slice's spare places count too). A statement '..UptoSaid' is the law's where the arguments, and the package variables that the reading takes, are together of bulk at most 1048576: NARROWER than '..Said'. Prove '..Said' where nothing that the law and all that it calls make is longer than what came in: it says more and counts as full. Else prove '..UptoSaid'. A law counts once. -/
mutual
def uptoBulk {H : Type} : DataW H → Nat
  | .lit (.string bytes) => bytes.length + 1
  | .lit _ => 1
  | .nil => 1
  | .ptr d => uptoBulk d + 1
  | .slice elems spare => uptoBulkAll elems + uptoBulkAll spare + 1
  | .agg parts => uptoBulkAll parts + 1
  | .iface _ d => uptoBulk d + 1
  | .map entries => uptoBulkEntries entries + 1
  | .held _ => 1
def uptoBulkAll {H : Type} : List (DataW H) → Nat
  | [] => 0
  | d :: r => uptoBulk d + uptoBulkAll r
def uptoBulkEntries {H : Type} : List (Lit × DataW H) → Nat
  | [] => 0
  | x :: r => uptoBulkEntry x + uptoBulkEntries r
def uptoBulkEntry {H : Type} : Lit × DataW H → Nat
  | (.string bytes, d) => bytes.length + uptoBulk d + 1
  | (_, d) => uptoBulk d + 1
 end
def uptoSmall : (H : Type) → List (DataW H) → Bool := fun _ ds => decide (uptoBulkAll ds ≤ 1048576)
def OpenSpec.upto (s : _root_.Go.ChangeSpec) : _root_.Go.OpenSpec := { _root_.Go.OpenSpec.ofChange s with cond := some uptoSmall }

/-- 'septumlaw20.IrqOnce', WHERE WHAT IT READS IS OF BULK AT MOST 1048576: true; the input reads as it did. -/
def irqOnceUptoRow : OpenClaim := { program := "ytkhhmkcpbefadaa", sum := "a333ce980e112e49b2c8c1efc7e77640348121be91c65359f3ad744d8dce2599", func := "septum/septumlaw20.IrqOnce", spec := "irqOnce", apart := false, narrowed := true }
def IrqOnceUptoSaid : Prop := irqOnceUptoRow.holds Try.pinned (OpenSpec.upto irqOnceSpec)

/-- 'septumlaw20.IrqOrder', WHERE WHAT IT READS IS OF BULK AT MOST 1048576: true; the input reads as it did. -/
def irqOrderUptoRow : OpenClaim := { program := "ytkhhmkcpbefadaa", sum := "a333ce980e112e49b2c8c1efc7e77640348121be91c65359f3ad744d8dce2599", func := "septum/septumlaw20.IrqOrder", spec := "irqOrder", apart := false, narrowed := true }
def IrqOrderUptoSaid : Prop := irqOrderUptoRow.holds Try.pinned (OpenSpec.upto irqOrderSpec)

/-- 'septumlaw20.IrqApart', WHERE WHAT IT READS IS OF BULK AT MOST 1048576: true; the input reads as it did. -/
def irqApartUptoRow : OpenClaim := { program := "ytkhhmkcpbefadaa", sum := "a333ce980e112e49b2c8c1efc7e77640348121be91c65359f3ad744d8dce2599", func := "septum/septumlaw20.IrqApart", spec := "irqApart", unfollowed := true, recurses := true, apart := false, narrowed := true }
def IrqApartUptoSaid : Prop := irqApartUptoRow.holds Try.pinned (OpenSpec.upto irqApartSpec)

/-- 'septumlaw20.IrqDoes', WHERE WHAT IT READS IS OF BULK AT MOST 1048576: true; the input reads as it did. -/
def irqDoesUptoRow : OpenClaim := { program := "ytkhhmkcpbefadaa", sum := "a333ce980e112e49b2c8c1efc7e77640348121be91c65359f3ad744d8dce2599", func := "septum/septumlaw20.IrqDoes", spec := "irqDoes", unfollowed := true, recurses := true, apart := false, narrowed := true }
def IrqDoesUptoSaid : Prop := irqDoesUptoRow.holds Try.pinned (OpenSpec.upto irqDoesSpec)

/-- 'septumlaw20.IrqSmall', WHERE WHAT IT READS IS OF BULK AT MOST 1048576: true; the input reads as it did. -/
def irqSmallUptoRow : OpenClaim := { program := "ytkhhmkcpbefadaa", sum := "a333ce980e112e49b2c8c1efc7e77640348121be91c65359f3ad744d8dce2599", func := "septum/septumlaw20.IrqSmall", spec := "irqSmall", unfollowed := true, recurses := true, apart := false, narrowed := true }
def IrqSmallUptoSaid : Prop := irqSmallUptoRow.holds Try.pinned (OpenSpec.upto irqSmallSpec)

end Rows
end Go.Proofs.Ytkhhmkcpbefadaa
