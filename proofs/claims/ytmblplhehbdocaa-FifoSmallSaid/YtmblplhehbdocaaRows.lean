/-
  No cell of these rows narrows 'for every input' (looked for: loops, veiled, ifaces, maps, wideKeys, modest, calm, conditions, laid).
  DERIVED. THE GIVEN ROWS OF THIS SEAT. 12 by the template 'for every input the law returns true; each argument reads behind the call as it read before'; 0 by the template 'total and deterministic' (their statements: YtmblplhehbdocaaTotals.lean).
  GIVEN WITH THE SEED: the statements are not yours to turn. If you find one false, say at which input.
  Laid BY PROGRAM, IN A SANDBOX (cutbox-rows.mjs): the forced cells as the released guide's own fill.sh prints them over the translation 944d8e1a972dacd3… (all of the seat's roots in one cut). By AI agents, Wed Nov 11 2026. No macro, syntax, notation, axiom, sorry.
-/
import Derived.Test.YtmblplhehbdocaaChecked
import GoSem.Claim
import GoSem.ClaimJoined
import GoSem.ClaimMapViews
import Derived.JoinedTies
import Derived.KernelRfl
namespace Go.Proofs.Ytmblplhehbdocaa
/- THE CELL 'sum', in the pinned program and in every row, IS THE sha256 OF THE DUMP (.gsa) THAT YtmblplhehbdocaaProg.lean LOADS. Nothing in Lean hashes anything: it is a label: what it is worth is what the hold of that sum in a sandbox is worth. -/
noncomputable def Try.pinned : Pinned := { name := "ytmblplhehbdocaa", sum := "944d8e1a972dacd3983bcb76b3aed2dbb9bab3f87e47d57a2915f933d3f61951", checked := Try.checked }
namespace Rows
def none {H : Type} : Left H := { results := [], args := [] }

/-- 'septumlaw10.TimerHits': WHATEVER THE INPUT: true; the input reads as it did. -/
def timerHitsSpec : ChangeSpec := { name := "timerHits", fn := fun _ => fun
  | [d1, d2, d3, d4] => { results := [.lit (.bool true)], args := [d1, d2, d3, d4] }
  | _ => none }
def timerHitsRow : OpenClaim := { program := "ytmblplhehbdocaa", sum := "944d8e1a972dacd3983bcb76b3aed2dbb9bab3f87e47d57a2915f933d3f61951", func := "septum/septumlaw10.TimerHits", spec := "timerHits", unfollowed := true, recurses := true, apart := false }
def TimerHitsSaid : Prop := timerHitsRow.holds Try.pinned (OpenSpec.ofChange timerHitsSpec)

/-- ITS FALSE NEIGHBOUR: 'it returns false'. Refute it at one input. -/
def timerHitsWrong : ChangeSpec := { name := "timerHits", fn := fun _ => fun
  | [d1, d2, d3, d4] => { results := [.lit (.bool false)], args := [d1, d2, d3, d4] }
  | _ => none }
def TimerHitsWrongFalsely : Prop := timerHitsRow.holds Try.pinned (OpenSpec.ofChange timerHitsWrong)

/-- 'septumlaw05.FifoOrder': WHATEVER THE INPUT: true; the input reads as it did. -/
def fifoOrderSpec : ChangeSpec := { name := "fifoOrder", fn := fun _ => fun
  | [d1, d2] => { results := [.lit (.bool true)], args := [d1, d2] }
  | _ => none }
def fifoOrderRow : OpenClaim := { program := "ytmblplhehbdocaa", sum := "944d8e1a972dacd3983bcb76b3aed2dbb9bab3f87e47d57a2915f933d3f61951", func := "septum/septumlaw05.FifoOrder", spec := "fifoOrder", unfollowed := true, recurses := true, apart := false }
def FifoOrderSaid : Prop := fifoOrderRow.holds Try.pinned (OpenSpec.ofChange fifoOrderSpec)

/-- ITS FALSE NEIGHBOUR: 'it returns false'. Refute it at one input. -/
def fifoOrderWrong : ChangeSpec := { name := "fifoOrder", fn := fun _ => fun
  | [d1, d2] => { results := [.lit (.bool false)], args := [d1, d2] }
  | _ => none }
def FifoOrderWrongFalsely : Prop := fifoOrderRow.holds Try.pinned (OpenSpec.ofChange fifoOrderWrong)

/-- 'septumlaw19.PortOne': WHATEVER THE INPUT: true; the input reads as it did. -/
def portOneSpec : ChangeSpec := { name := "portOne", fn := fun _ => fun
  | [d] => { results := [.lit (.bool true)], args := [d] }
  | _ => none }
def portOneRow : OpenClaim := { program := "ytmblplhehbdocaa", sum := "944d8e1a972dacd3983bcb76b3aed2dbb9bab3f87e47d57a2915f933d3f61951", func := "septum/septumlaw19.PortOne", spec := "portOne", apart := false }
def PortOneSaid : Prop := portOneRow.holds Try.pinned (OpenSpec.ofChange portOneSpec)

/-- ITS FALSE NEIGHBOUR: 'it returns false'. Refute it at one input. -/
def portOneWrong : ChangeSpec := { name := "portOne", fn := fun _ => fun
  | [d] => { results := [.lit (.bool false)], args := [d] }
  | _ => none }
def PortOneWrongFalsely : Prop := portOneRow.holds Try.pinned (OpenSpec.ofChange portOneWrong)

/-- 'septumlaw10.TimerDoes': WHATEVER THE INPUT: true; the input reads as it did. -/
def timerDoesSpec : ChangeSpec := { name := "timerDoes", fn := fun _ => fun
  | [d1, d2] => { results := [.lit (.bool true)], args := [d1, d2] }
  | _ => none }
def timerDoesRow : OpenClaim := { program := "ytmblplhehbdocaa", sum := "944d8e1a972dacd3983bcb76b3aed2dbb9bab3f87e47d57a2915f933d3f61951", func := "septum/septumlaw10.TimerDoes", spec := "timerDoes", unfollowed := true, recurses := true, apart := false }
def TimerDoesSaid : Prop := timerDoesRow.holds Try.pinned (OpenSpec.ofChange timerDoesSpec)

/-- ITS FALSE NEIGHBOUR: 'it returns false'. Refute it at one input. -/
def timerDoesWrong : ChangeSpec := { name := "timerDoes", fn := fun _ => fun
  | [d1, d2] => { results := [.lit (.bool false)], args := [d1, d2] }
  | _ => none }
def TimerDoesWrongFalsely : Prop := timerDoesRow.holds Try.pinned (OpenSpec.ofChange timerDoesWrong)

/-- 'septumlaw10.TimerEnds': WHATEVER THE INPUT: true; the input reads as it did. -/
def timerEndsSpec : ChangeSpec := { name := "timerEnds", fn := fun _ => fun
  | [] => { results := [.lit (.bool true)], args := [] }
  | _ => none }
def timerEndsRow : OpenClaim := { program := "ytmblplhehbdocaa", sum := "944d8e1a972dacd3983bcb76b3aed2dbb9bab3f87e47d57a2915f933d3f61951", func := "septum/septumlaw10.TimerEnds", spec := "timerEnds", unfollowed := true, recurses := true, apart := false }
def TimerEndsSaid : Prop := timerEndsRow.holds Try.pinned (OpenSpec.ofChange timerEndsSpec)

/-- ITS FALSE NEIGHBOUR: 'it returns false'. Refute it at one input. -/
def timerEndsWrong : ChangeSpec := { name := "timerEnds", fn := fun _ => fun
  | [] => { results := [.lit (.bool false)], args := [] }
  | _ => none }
def TimerEndsWrongFalsely : Prop := timerEndsRow.holds Try.pinned (OpenSpec.ofChange timerEndsWrong)

/-- 'septumlaw10.TimerWrites': WHATEVER THE INPUT: true; the input reads as it did. -/
def timerWritesSpec : ChangeSpec := { name := "timerWrites", fn := fun _ => fun
  | [d1, d2, d3] => { results := [.lit (.bool true)], args := [d1, d2, d3] }
  | _ => none }
def timerWritesRow : OpenClaim := { program := "ytmblplhehbdocaa", sum := "944d8e1a972dacd3983bcb76b3aed2dbb9bab3f87e47d57a2915f933d3f61951", func := "septum/septumlaw10.TimerWrites", spec := "timerWrites", unfollowed := true, recurses := true, apart := false }
def TimerWritesSaid : Prop := timerWritesRow.holds Try.pinned (OpenSpec.ofChange timerWritesSpec)

/-- ITS FALSE NEIGHBOUR: 'it returns false'. Refute it at one input. -/
def timerWritesWrong : ChangeSpec := { name := "timerWrites", fn := fun _ => fun
  | [d1, d2, d3] => { results := [.lit (.bool false)], args := [d1, d2, d3] }
  | _ => none }
def TimerWritesWrongFalsely : Prop := timerWritesRow.holds Try.pinned (OpenSpec.ofChange timerWritesWrong)

/-- 'septumlaw19.PortApart': WHATEVER THE INPUT: true; the input reads as it did. -/
def portApartSpec : ChangeSpec := { name := "portApart", fn := fun _ => fun
  | [d1, d2] => { results := [.lit (.bool true)], args := [d1, d2] }
  | _ => none }
def portApartRow : OpenClaim := { program := "ytmblplhehbdocaa", sum := "944d8e1a972dacd3983bcb76b3aed2dbb9bab3f87e47d57a2915f933d3f61951", func := "septum/septumlaw19.PortApart", spec := "portApart", apart := false }
def PortApartSaid : Prop := portApartRow.holds Try.pinned (OpenSpec.ofChange portApartSpec)

/-- ITS FALSE NEIGHBOUR: 'it returns false'. Refute it at one input. -/
def portApartWrong : ChangeSpec := { name := "portApart", fn := fun _ => fun
  | [d1, d2] => { results := [.lit (.bool false)], args := [d1, d2] }
  | _ => none }
def PortApartWrongFalsely : Prop := portApartRow.holds Try.pinned (OpenSpec.ofChange portApartWrong)

/-- 'septumlaw05.FifoTurns': WHATEVER THE INPUT: true; the input reads as it did. -/
def fifoTurnsSpec : ChangeSpec := { name := "fifoTurns", fn := fun _ => fun
  | [d1, d2] => { results := [.lit (.bool true)], args := [d1, d2] }
  | _ => none }
def fifoTurnsRow : OpenClaim := { program := "ytmblplhehbdocaa", sum := "944d8e1a972dacd3983bcb76b3aed2dbb9bab3f87e47d57a2915f933d3f61951", func := "septum/septumlaw05.FifoTurns", spec := "fifoTurns", unfollowed := true, recurses := true, apart := false }
def FifoTurnsSaid : Prop := fifoTurnsRow.holds Try.pinned (OpenSpec.ofChange fifoTurnsSpec)

/-- ITS FALSE NEIGHBOUR: 'it returns false'. Refute it at one input. -/
def fifoTurnsWrong : ChangeSpec := { name := "fifoTurns", fn := fun _ => fun
  | [d1, d2] => { results := [.lit (.bool false)], args := [d1, d2] }
  | _ => none }
def FifoTurnsWrongFalsely : Prop := fifoTurnsRow.holds Try.pinned (OpenSpec.ofChange fifoTurnsWrong)

/-- 'septumlaw05.FifoDoes': WHATEVER THE INPUT: true; the input reads as it did. -/
def fifoDoesSpec : ChangeSpec := { name := "fifoDoes", fn := fun _ => fun
  | [d1, d2] => { results := [.lit (.bool true)], args := [d1, d2] }
  | _ => none }
def fifoDoesRow : OpenClaim := { program := "ytmblplhehbdocaa", sum := "944d8e1a972dacd3983bcb76b3aed2dbb9bab3f87e47d57a2915f933d3f61951", func := "septum/septumlaw05.FifoDoes", spec := "fifoDoes", unfollowed := true, recurses := true, apart := false }
def FifoDoesSaid : Prop := fifoDoesRow.holds Try.pinned (OpenSpec.ofChange fifoDoesSpec)

/-- ITS FALSE NEIGHBOUR: 'it returns false'. Refute it at one input. -/
def fifoDoesWrong : ChangeSpec := { name := "fifoDoes", fn := fun _ => fun
  | [d1, d2] => { results := [.lit (.bool false)], args := [d1, d2] }
  | _ => none }
def FifoDoesWrongFalsely : Prop := fifoDoesRow.holds Try.pinned (OpenSpec.ofChange fifoDoesWrong)

/-- 'septumlaw05.FifoSmall': WHATEVER THE INPUT: true; the input reads as it did. -/
def fifoSmallSpec : ChangeSpec := { name := "fifoSmall", fn := fun _ => fun
  | [] => { results := [.lit (.bool true)], args := [] }
  | _ => none }
def fifoSmallRow : OpenClaim := { program := "ytmblplhehbdocaa", sum := "944d8e1a972dacd3983bcb76b3aed2dbb9bab3f87e47d57a2915f933d3f61951", func := "septum/septumlaw05.FifoSmall", spec := "fifoSmall", unfollowed := true, recurses := true, apart := false }
def FifoSmallSaid : Prop := fifoSmallRow.holds Try.pinned (OpenSpec.ofChange fifoSmallSpec)

/-- ITS FALSE NEIGHBOUR: 'it returns false'. Refute it at one input. -/
def fifoSmallWrong : ChangeSpec := { name := "fifoSmall", fn := fun _ => fun
  | [] => { results := [.lit (.bool false)], args := [] }
  | _ => none }
def FifoSmallWrongFalsely : Prop := fifoSmallRow.holds Try.pinned (OpenSpec.ofChange fifoSmallWrong)

/-- 'septumlaw19.PortDoes': WHATEVER THE INPUT: true; the input reads as it did. -/
def portDoesSpec : ChangeSpec := { name := "portDoes", fn := fun _ => fun
  | [d] => { results := [.lit (.bool true)], args := [d] }
  | _ => none }
def portDoesRow : OpenClaim := { program := "ytmblplhehbdocaa", sum := "944d8e1a972dacd3983bcb76b3aed2dbb9bab3f87e47d57a2915f933d3f61951", func := "septum/septumlaw19.PortDoes", spec := "portDoes", unfollowed := true, recurses := true, apart := false }
def PortDoesSaid : Prop := portDoesRow.holds Try.pinned (OpenSpec.ofChange portDoesSpec)

/-- ITS FALSE NEIGHBOUR: 'it returns false'. Refute it at one input. -/
def portDoesWrong : ChangeSpec := { name := "portDoes", fn := fun _ => fun
  | [d] => { results := [.lit (.bool false)], args := [d] }
  | _ => none }
def PortDoesWrongFalsely : Prop := portDoesRow.holds Try.pinned (OpenSpec.ofChange portDoesWrong)

/-- 'septumlaw19.PortSmall': WHATEVER THE INPUT: true; the input reads as it did. -/
def portSmallSpec : ChangeSpec := { name := "portSmall", fn := fun _ => fun
  | [] => { results := [.lit (.bool true)], args := [] }
  | _ => none }
def portSmallRow : OpenClaim := { program := "ytmblplhehbdocaa", sum := "944d8e1a972dacd3983bcb76b3aed2dbb9bab3f87e47d57a2915f933d3f61951", func := "septum/septumlaw19.PortSmall", spec := "portSmall", unfollowed := true, recurses := true, apart := false }
def PortSmallSaid : Prop := portSmallRow.holds Try.pinned (OpenSpec.ofChange portSmallSpec)

/-- ITS FALSE NEIGHBOUR: 'it returns false'. Refute it at one input. -/
def portSmallWrong : ChangeSpec := { name := "portSmall", fn := fun _ => fun
  | [] => { results := [.lit (.bool false)], args := [] }
  | _ => none }
def PortSmallWrongFalsely : Prop := portSmallRow.holds Try.pinned (OpenSpec.ofChange portSmallWrong)

/- THE SECOND FORM. 'bulk': how many values and letters a reading holds, each counted each time it is reached (what is shared counts as often as it is met; a slice's spare places count too). A statement '..UptoSaid' is the law's where the arguments, and the package variables that the reading takes, are together of bulk at most 1048576: NARROWER than '..Said'. Prove '..Said' where nothing that the law and all that it calls make is longer than what came in: it says more and counts as full. Else prove '..UptoSaid'. A law counts once. -/
mutual
def uptoBulk {H : Type} : DataW H → Nat
  | .lit (.string bytes) => bytes.length + 1
  | .lit _ => 1
  | .nil => 1
  | .ptr d => uptoBulk d + 1
  | .slice elems spare => uptoBulkAll elems + uptoBulkAll spare + 1
  | .agg parts => uptoBulkAll parts + 1
  | .iface _ d => uptoBulk d + 1
  | .map entries => uptoBulkEntries entries + 1
  | .held _ => 1
def uptoBulkAll {H : Type} : List (DataW H) → Nat
  | [] => 0
  | d :: r => uptoBulk d + uptoBulkAll r
def uptoBulkEntries {H : Type} : List (Lit × DataW H) → Nat
  | [] => 0
  | x :: r => uptoBulkEntry x + uptoBulkEntries r
def uptoBulkEntry {H : Type} : Lit × DataW H → Nat
  | (.string bytes, d) => bytes.length + uptoBulk d + 1
  | (_, d) => uptoBulk d + 1
 end
def uptoSmall : (H : Type) → List (DataW H) → Bool := fun _ ds => decide (uptoBulkAll ds ≤ 1048576)
def OpenSpec.upto (s : _root_.Go.ChangeSpec) : _root_.Go.OpenSpec := { _root_.Go.OpenSpec.ofChange s with cond := some uptoSmall }

/-- 'septumlaw10.TimerHits', WHERE WHAT IT READS IS OF BULK AT MOST 1048576: true; the input reads as it did. -/
def timerHitsUptoRow : OpenClaim := { program := "ytmblplhehbdocaa", sum := "944d8e1a972dacd3983bcb76b3aed2dbb9bab3f87e47d57a2915f933d3f61951", func := "septum/septumlaw10.TimerHits", spec := "timerHits", unfollowed := true, recurses := true, apart := false, narrowed := true }
def TimerHitsUptoSaid : Prop := timerHitsUptoRow.holds Try.pinned (OpenSpec.upto timerHitsSpec)

/-- 'septumlaw05.FifoOrder', WHERE WHAT IT READS IS OF BULK AT MOST 1048576: true; the input reads as it did. -/
def fifoOrderUptoRow : OpenClaim := { program := "ytmblplhehbdocaa", sum := "944d8e1a972dacd3983bcb76b3aed2dbb9bab3f87e47d57a2915f933d3f61951", func := "septum/septumlaw05.FifoOrder", spec := "fifoOrder", unfollowed := true, recurses := true, apart := false, narrowed := true }
def FifoOrderUptoSaid : Prop := fifoOrderUptoRow.holds Try.pinned (OpenSpec.upto fifoOrderSpec)

/-- 'septumlaw19.PortOne', WHERE WHAT IT READS IS OF BULK AT MOST 1048576: true; the input reads as it did. -/
def portOneUptoRow : OpenClaim := { program := "ytmblplhehbdocaa", sum := "944d8e1a972dacd3983bcb76b3aed2dbb9bab3f87e47d57a2915f933d3f61951", func := "septum/septumlaw19.PortOne", spec := "portOne", apart := false, narrowed := true }
def PortOneUptoSaid : Prop := portOneUptoRow.holds Try.pinned (OpenSpec.upto portOneSpec)

/-- 'septumlaw10.TimerDoes', WHERE WHAT IT READS IS OF BULK AT MOST 1048576: true; the input reads as it did. -/
def timerDoesUptoRow : OpenClaim := { program := "ytmblplhehbdocaa", sum := "944d8e1a972dacd3983bcb76b3aed2dbb9bab3f87e47d57a2915f933d3f61951", func := "septum/septumlaw10.TimerDoes", spec := "timerDoes", unfollowed := true, recurses := true, apart := false, narrowed := true }
def TimerDoesUptoSaid : Prop := timerDoesUptoRow.holds Try.pinned (OpenSpec.upto timerDoesSpec)

/-- 'septumlaw10.TimerEnds', WHERE WHAT IT READS IS OF BULK AT MOST 1048576: true; the input reads as it did. -/
def timerEndsUptoRow : OpenClaim := { program := "ytmblplhehbdocaa", sum := "944d8e1a972dacd3983bcb76b3aed2dbb9bab3f87e47d57a2915f933d3f61951", func := "septum/septumlaw10.TimerEnds", spec := "timerEnds", unfollowed := true, recurses := true, apart := false, narrowed := true }
def TimerEndsUptoSaid : Prop := timerEndsUptoRow.holds Try.pinned (OpenSpec.upto timerEndsSpec)

/-- 'septumlaw10.TimerWrites', WHERE WHAT IT READS IS OF BULK AT MOST 1048576: true; the input reads as it did. -/
def timerWritesUptoRow : OpenClaim := { program := "ytmblplhehbdocaa", sum := "944d8e1a972dacd3983bcb76b3aed2dbb9bab3f87e47d57a2915f933d3f61951", func := "septum/septumlaw10.TimerWrites", spec := "timerWrites", unfollowed := true, recurses := true, apart := false, narrowed := true }
def TimerWritesUptoSaid : Prop := timerWritesUptoRow.holds Try.pinned (OpenSpec.upto timerWritesSpec)

/-- 'septumlaw19.PortApart', WHERE WHAT IT READS IS OF BULK AT MOST 1048576: true; the input reads as it did. -/
def portApartUptoRow : OpenClaim := { program := "ytmblplhehbdocaa", sum := "944d8e1a972dacd3983bcb76b3aed2dbb9bab3f87e47d57a2915f933d3f61951", func := "septum/septumlaw19.PortApart", spec := "portApart", apart := false, narrowed := true }
def PortApartUptoSaid : Prop := portApartUptoRow.holds Try.pinned (OpenSpec.upto portApartSpec)

/-- 'septumlaw05.FifoTurns', WHERE WHAT IT READS IS OF BULK AT MOST 1048576: true; the input reads as it did. -/
def fifoTurnsUptoRow : OpenClaim := { program := "ytmblplhehbdocaa", sum := "944d8e1a972dacd3983bcb76b3aed2dbb9bab3f87e47d57a2915f933d3f61951", func := "septum/septumlaw05.FifoTurns", spec := "fifoTurns", unfollowed := true, recurses := true, apart := false, narrowed := true }
def FifoTurnsUptoSaid : Prop := fifoTurnsUptoRow.holds Try.pinned (OpenSpec.upto fifoTurnsSpec)

/-- 'septumlaw05.FifoDoes', WHERE WHAT IT READS IS OF BULK AT MOST 1048576: true; the input reads as it did. -/
def fifoDoesUptoRow : OpenClaim := { program := "ytmblplhehbdocaa", sum := "944d8e1a972dacd3983bcb76b3aed2dbb9bab3f87e47d57a2915f933d3f61951", func := "septum/septumlaw05.FifoDoes", spec := "fifoDoes", unfollowed := true, recurses := true, apart := false, narrowed := true }
def FifoDoesUptoSaid : Prop := fifoDoesUptoRow.holds Try.pinned (OpenSpec.upto fifoDoesSpec)

/-- 'septumlaw05.FifoSmall', WHERE WHAT IT READS IS OF BULK AT MOST 1048576: true; the input reads as it did. -/
def fifoSmallUptoRow : OpenClaim := { program := "ytmblplhehbdocaa", sum := "944d8e1a972dacd3983bcb76b3aed2dbb9bab3f87e47d57a2915f933d3f61951", func := "septum/septumlaw05.FifoSmall", spec := "fifoSmall", unfollowed := true, recurses := true, apart := false, narrowed := true }
def FifoSmallUptoSaid : Prop := fifoSmallUptoRow.holds Try.pinned (OpenSpec.upto fifoSmallSpec)

/-- 'septumlaw19.PortDoes', WHERE WHAT IT READS IS OF BULK AT MOST 1048576: true; the input reads as it did. -/
def portDoesUptoRow : OpenClaim := { program := "ytmblplhehbdocaa", sum := "944d8e1a972dacd3983bcb76b3aed2dbb9bab3f87e47d57a2915f933d3f61951", func := "septum/septumlaw19.PortDoes", spec := "portDoes", unfollowed := true, recurses := true, apart := false, narrowed := true }
def PortDoesUptoSaid : Prop := portDoesUptoRow.holds Try.pinned (OpenSpec.upto portDoesSpec)

/-- 'septumlaw19.PortSmall', WHERE WHAT IT READS IS OF BULK AT MOST 1048576: true; the input reads as it did. -/
def portSmallUptoRow : OpenClaim := { program := "ytmblplhehbdocaa", sum := "944d8e1a972dacd3983bcb76b3aed2dbb9bab3f87e47d57a2915f933d3f61951", func := "septum/septumlaw19.PortSmall", spec := "portSmall", unfollowed := true, recurses := true, apart := false, narrowed := true }
def PortSmallUptoSaid : Prop := portSmallUptoRow.holds Try.pinned (OpenSpec.upto portSmallSpec)

end Rows
end Go.Proofs.Ytmblplhehbdocaa
