/-
  No cell of these rows narrows 'for every input' (looked for: loops, veiled, ifaces, maps, wideKeys, modest, calm, conditions, laid).
  DERIVED. THE GIVEN ROWS OF THIS SEAT. 10 by the template 'for every input the law returns true; each argument reads behind the call as it read before'; 0 by the template 'total and deterministic' (their statements: YtnmbkhofikbcjaaTotals.lean).
  GIVEN WITH THE SEED: the statements are not yours to turn. If you find one false, say at which input.
  Laid BY PROGRAM, IN A SANDBOX (cutbox-rows.mjs): the forced cells as the released guide's own fill.sh prints them over the translation d1043b9d7e82165a… (all of the seat's roots in one cut). By AI agents, Wed Nov 11 2026. No macro, syntax, notation, axiom, sorry.
-/
import Derived.Test.YtnmbkhofikbcjaaChecked
import GoSem.Claim
import GoSem.ClaimJoined
import GoSem.ClaimMapViews
import Derived.JoinedTies
import Derived.KernelRfl
namespace Go.Proofs.Ytnmbkhofikbcjaa
/- THE CELL 'sum', in the pinned program and in every row, IS THE sha256 OF THE DUMP (.gsa) THAT YtnmbkhofikbcjaaProg.lean LOADS. Nothing in Lean hashes anything: it is a label: what it is worth is what the hold of that sum in a sandbox is worth. -/
noncomputable def Try.pinned : Pinned := { name := "ytnmbkhofikbcjaa", sum := "d1043b9d7e82165a7e7c7911f01b2a17ecb3b94a0591d96b73da2108a05c07c7", checked := Try.checked }
namespace Rows
def none {H : Type} : Left H := { results := [], args := [] }

/-- 'septumlaw18.PipeApart': WHATEVER THE INPUT: true; the input reads as it did. -/
def pipeApartSpec : ChangeSpec := { name := "pipeApart", fn := fun _ => fun
  | [d1, d2, d3, d4] => { results := [.lit (.bool true)], args := [d1, d2, d3, d4] }
  | _ => none }
def pipeApartRow : OpenClaim := { program := "ytnmbkhofikbcjaa", sum := "d1043b9d7e82165a7e7c7911f01b2a17ecb3b94a0591d96b73da2108a05c07c7", func := "septum/septumlaw18.PipeApart", spec := "pipeApart", apart := false }
def PipeApartSaid : Prop := pipeApartRow.holds Try.pinned (OpenSpec.ofChange pipeApartSpec)

/-- ITS FALSE NEIGHBOUR: 'it returns false'. Refute it at one input. -/
def pipeApartWrong : ChangeSpec := { name := "pipeApart", fn := fun _ => fun
  | [d1, d2, d3, d4] => { results := [.lit (.bool false)], args := [d1, d2, d3, d4] }
  | _ => none }
def PipeApartWrongFalsely : Prop := pipeApartRow.holds Try.pinned (OpenSpec.ofChange pipeApartWrong)

/-- 'septumlaw13.RotorPoints': WHATEVER THE INPUT: true; the input reads as it did. -/
def rotorPointsSpec : ChangeSpec := { name := "rotorPoints", fn := fun _ => fun
  | [d1, d2, d3] => { results := [.lit (.bool true)], args := [d1, d2, d3] }
  | _ => none }
def rotorPointsRow : OpenClaim := { program := "ytnmbkhofikbcjaa", sum := "d1043b9d7e82165a7e7c7911f01b2a17ecb3b94a0591d96b73da2108a05c07c7", func := "septum/septumlaw13.RotorPoints", spec := "rotorPoints", unfollowed := true, recurses := true, apart := false }
def RotorPointsSaid : Prop := rotorPointsRow.holds Try.pinned (OpenSpec.ofChange rotorPointsSpec)

/-- ITS FALSE NEIGHBOUR: 'it returns false'. Refute it at one input. -/
def rotorPointsWrong : ChangeSpec := { name := "rotorPoints", fn := fun _ => fun
  | [d1, d2, d3] => { results := [.lit (.bool false)], args := [d1, d2, d3] }
  | _ => none }
def RotorPointsWrongFalsely : Prop := rotorPointsRow.holds Try.pinned (OpenSpec.ofChange rotorPointsWrong)

/-- 'septumlaw13.RotorOthers': WHATEVER THE INPUT: true; the input reads as it did. -/
def rotorOthersSpec : ChangeSpec := { name := "rotorOthers", fn := fun _ => fun
  | [d1, d2, d3] => { results := [.lit (.bool true)], args := [d1, d2, d3] }
  | _ => none }
def rotorOthersRow : OpenClaim := { program := "ytnmbkhofikbcjaa", sum := "d1043b9d7e82165a7e7c7911f01b2a17ecb3b94a0591d96b73da2108a05c07c7", func := "septum/septumlaw13.RotorOthers", spec := "rotorOthers", unfollowed := true, recurses := true, apart := false }
def RotorOthersSaid : Prop := rotorOthersRow.holds Try.pinned (OpenSpec.ofChange rotorOthersSpec)

/-- ITS FALSE NEIGHBOUR: 'it returns false'. Refute it at one input. -/
def rotorOthersWrong : ChangeSpec := { name := "rotorOthers", fn := fun _ => fun
  | [d1, d2, d3] => { results := [.lit (.bool false)], args := [d1, d2, d3] }
  | _ => none }
def RotorOthersWrongFalsely : Prop := rotorOthersRow.holds Try.pinned (OpenSpec.ofChange rotorOthersWrong)

/-- 'septumlaw13.RotorRing': WHATEVER THE INPUT: true; the input reads as it did. -/
def rotorRingSpec : ChangeSpec := { name := "rotorRing", fn := fun _ => fun
  | [d1, d2, d3] => { results := [.lit (.bool true)], args := [d1, d2, d3] }
  | _ => none }
def rotorRingRow : OpenClaim := { program := "ytnmbkhofikbcjaa", sum := "d1043b9d7e82165a7e7c7911f01b2a17ecb3b94a0591d96b73da2108a05c07c7", func := "septum/septumlaw13.RotorRing", spec := "rotorRing", unfollowed := true, recurses := true, apart := false }
def RotorRingSaid : Prop := rotorRingRow.holds Try.pinned (OpenSpec.ofChange rotorRingSpec)

/-- ITS FALSE NEIGHBOUR: 'it returns false'. Refute it at one input. -/
def rotorRingWrong : ChangeSpec := { name := "rotorRing", fn := fun _ => fun
  | [d1, d2, d3] => { results := [.lit (.bool false)], args := [d1, d2, d3] }
  | _ => none }
def RotorRingWrongFalsely : Prop := rotorRingRow.holds Try.pinned (OpenSpec.ofChange rotorRingWrong)

/-- 'septumlaw13.RotorTurns': WHATEVER THE INPUT: true; the input reads as it did. -/
def rotorTurnsSpec : ChangeSpec := { name := "rotorTurns", fn := fun _ => fun
  | [d1, d2, d3] => { results := [.lit (.bool true)], args := [d1, d2, d3] }
  | _ => none }
def rotorTurnsRow : OpenClaim := { program := "ytnmbkhofikbcjaa", sum := "d1043b9d7e82165a7e7c7911f01b2a17ecb3b94a0591d96b73da2108a05c07c7", func := "septum/septumlaw13.RotorTurns", spec := "rotorTurns", unfollowed := true, recurses := true, apart := false }
def RotorTurnsSaid : Prop := rotorTurnsRow.holds Try.pinned (OpenSpec.ofChange rotorTurnsSpec)

/-- ITS FALSE NEIGHBOUR: 'it returns false'. Refute it at one input. -/
def rotorTurnsWrong : ChangeSpec := { name := "rotorTurns", fn := fun _ => fun
  | [d1, d2, d3] => { results := [.lit (.bool false)], args := [d1, d2, d3] }
  | _ => none }
def RotorTurnsWrongFalsely : Prop := rotorTurnsRow.holds Try.pinned (OpenSpec.ofChange rotorTurnsWrong)

/-- 'septumlaw18.PipeLate': WHATEVER THE INPUT: true; the input reads as it did. -/
def pipeLateSpec : ChangeSpec := { name := "pipeLate", fn := fun _ => fun
  | [d1, d2, d3] => { results := [.lit (.bool true)], args := [d1, d2, d3] }
  | _ => none }
def pipeLateRow : OpenClaim := { program := "ytnmbkhofikbcjaa", sum := "d1043b9d7e82165a7e7c7911f01b2a17ecb3b94a0591d96b73da2108a05c07c7", func := "septum/septumlaw18.PipeLate", spec := "pipeLate", apart := false }
def PipeLateSaid : Prop := pipeLateRow.holds Try.pinned (OpenSpec.ofChange pipeLateSpec)

/-- ITS FALSE NEIGHBOUR: 'it returns false'. Refute it at one input. -/
def pipeLateWrong : ChangeSpec := { name := "pipeLate", fn := fun _ => fun
  | [d1, d2, d3] => { results := [.lit (.bool false)], args := [d1, d2, d3] }
  | _ => none }
def PipeLateWrongFalsely : Prop := pipeLateRow.holds Try.pinned (OpenSpec.ofChange pipeLateWrong)

/-- 'septumlaw18.PipeDoes': WHATEVER THE INPUT: true; the input reads as it did. -/
def pipeDoesSpec : ChangeSpec := { name := "pipeDoes", fn := fun _ => fun
  | [d1, d2] => { results := [.lit (.bool true)], args := [d1, d2] }
  | _ => none }
def pipeDoesRow : OpenClaim := { program := "ytnmbkhofikbcjaa", sum := "d1043b9d7e82165a7e7c7911f01b2a17ecb3b94a0591d96b73da2108a05c07c7", func := "septum/septumlaw18.PipeDoes", spec := "pipeDoes", apart := false }
def PipeDoesSaid : Prop := pipeDoesRow.holds Try.pinned (OpenSpec.ofChange pipeDoesSpec)

/-- ITS FALSE NEIGHBOUR: 'it returns false'. Refute it at one input. -/
def pipeDoesWrong : ChangeSpec := { name := "pipeDoes", fn := fun _ => fun
  | [d1, d2] => { results := [.lit (.bool false)], args := [d1, d2] }
  | _ => none }
def PipeDoesWrongFalsely : Prop := pipeDoesRow.holds Try.pinned (OpenSpec.ofChange pipeDoesWrong)

/-- 'septumlaw18.PipeSmall': WHATEVER THE INPUT: true; the input reads as it did. -/
def pipeSmallSpec : ChangeSpec := { name := "pipeSmall", fn := fun _ => fun
  | [] => { results := [.lit (.bool true)], args := [] }
  | _ => none }
def pipeSmallRow : OpenClaim := { program := "ytnmbkhofikbcjaa", sum := "d1043b9d7e82165a7e7c7911f01b2a17ecb3b94a0591d96b73da2108a05c07c7", func := "septum/septumlaw18.PipeSmall", spec := "pipeSmall", apart := false }
def PipeSmallSaid : Prop := pipeSmallRow.holds Try.pinned (OpenSpec.ofChange pipeSmallSpec)

/-- ITS FALSE NEIGHBOUR: 'it returns false'. Refute it at one input. -/
def pipeSmallWrong : ChangeSpec := { name := "pipeSmall", fn := fun _ => fun
  | [] => { results := [.lit (.bool false)], args := [] }
  | _ => none }
def PipeSmallWrongFalsely : Prop := pipeSmallRow.holds Try.pinned (OpenSpec.ofChange pipeSmallWrong)

/-- 'septumlaw13.RotorDoes': WHATEVER THE INPUT: true; the input reads as it did. -/
def rotorDoesSpec : ChangeSpec := { name := "rotorDoes", fn := fun _ => fun
  | [d] => { results := [.lit (.bool true)], args := [d] }
  | _ => none }
def rotorDoesRow : OpenClaim := { program := "ytnmbkhofikbcjaa", sum := "d1043b9d7e82165a7e7c7911f01b2a17ecb3b94a0591d96b73da2108a05c07c7", func := "septum/septumlaw13.RotorDoes", spec := "rotorDoes", unfollowed := true, recurses := true, apart := false }
def RotorDoesSaid : Prop := rotorDoesRow.holds Try.pinned (OpenSpec.ofChange rotorDoesSpec)

/-- ITS FALSE NEIGHBOUR: 'it returns false'. Refute it at one input. -/
def rotorDoesWrong : ChangeSpec := { name := "rotorDoes", fn := fun _ => fun
  | [d] => { results := [.lit (.bool false)], args := [d] }
  | _ => none }
def RotorDoesWrongFalsely : Prop := rotorDoesRow.holds Try.pinned (OpenSpec.ofChange rotorDoesWrong)

/-- 'septumlaw13.RotorEnds': WHATEVER THE INPUT: true; the input reads as it did. -/
def rotorEndsSpec : ChangeSpec := { name := "rotorEnds", fn := fun _ => fun
  | [] => { results := [.lit (.bool true)], args := [] }
  | _ => none }
def rotorEndsRow : OpenClaim := { program := "ytnmbkhofikbcjaa", sum := "d1043b9d7e82165a7e7c7911f01b2a17ecb3b94a0591d96b73da2108a05c07c7", func := "septum/septumlaw13.RotorEnds", spec := "rotorEnds", unfollowed := true, recurses := true, apart := false }
def RotorEndsSaid : Prop := rotorEndsRow.holds Try.pinned (OpenSpec.ofChange rotorEndsSpec)

/-- ITS FALSE NEIGHBOUR: 'it returns false'. Refute it at one input. -/
def rotorEndsWrong : ChangeSpec := { name := "rotorEnds", fn := fun _ => fun
  | [] => { results := [.lit (.bool false)], args := [] }
  | _ => none }
def RotorEndsWrongFalsely : Prop := rotorEndsRow.holds Try.pinned (OpenSpec.ofChange rotorEndsWrong)

/- THE SECOND FORM. 'bulk': how many values and letters a reading holds, each counted each time it is reached (what is shared counts as often as it is met; a slice's spare places count too). A statement '..UptoSaid' is the law's where the arguments, and the package variables that the reading takes, are together of bulk at most 1048576: NARROWER than '..Said'. Prove '..Said' where nothing that the law and all that it calls make is longer than what came in: it says more and counts as full. Else prove '..UptoSaid'. A law counts once. -/
mutual
def uptoBulk {H : Type} : DataW H → Nat
  | .lit (.string bytes) => bytes.length + 1
  | .lit _ => 1
  | .nil => 1
  | .ptr d => uptoBulk d + 1
  | .slice elems spare => uptoBulkAll elems + uptoBulkAll spare + 1
  | .agg parts => uptoBulkAll parts + 1
  | .iface _ d => uptoBulk d + 1
  | .map entries => uptoBulkEntries entries + 1
  | .held _ => 1
def uptoBulkAll {H : Type} : List (DataW H) → Nat
  | [] => 0
  | d :: r => uptoBulk d + uptoBulkAll r
def uptoBulkEntries {H : Type} : List (Lit × DataW H) → Nat
  | [] => 0
  | x :: r => uptoBulkEntry x + uptoBulkEntries r
def uptoBulkEntry {H : Type} : Lit × DataW H → Nat
  | (.string bytes, d) => bytes.length + uptoBulk d + 1
  | (_, d) => uptoBulk d + 1
 end
def uptoSmall : (H : Type) → List (DataW H) → Bool := fun _ ds => decide (uptoBulkAll ds ≤ 1048576)
def OpenSpec.upto (s : _root_.Go.ChangeSpec) : _root_.Go.OpenSpec := { _root_.Go.OpenSpec.ofChange s with cond := some uptoSmall }

/-- 'septumlaw18.PipeApart', WHERE WHAT IT READS IS OF BULK AT MOST 1048576: true; the input reads as it did. -/
def pipeApartUptoRow : OpenClaim := { program := "ytnmbkhofikbcjaa", sum := "d1043b9d7e82165a7e7c7911f01b2a17ecb3b94a0591d96b73da2108a05c07c7", func := "septum/septumlaw18.PipeApart", spec := "pipeApart", apart := false, narrowed := true }
def PipeApartUptoSaid : Prop := pipeApartUptoRow.holds Try.pinned (OpenSpec.upto pipeApartSpec)

/-- 'septumlaw13.RotorPoints', WHERE WHAT IT READS IS OF BULK AT MOST 1048576: true; the input reads as it did. -/
def rotorPointsUptoRow : OpenClaim := { program := "ytnmbkhofikbcjaa", sum := "d1043b9d7e82165a7e7c7911f01b2a17ecb3b94a0591d96b73da2108a05c07c7", func := "septum/septumlaw13.RotorPoints", spec := "rotorPoints", unfollowed := true, recurses := true, apart := false, narrowed := true }
def RotorPointsUptoSaid : Prop := rotorPointsUptoRow.holds Try.pinned (OpenSpec.upto rotorPointsSpec)

/-- 'septumlaw13.RotorOthers', WHERE WHAT IT READS IS OF BULK AT MOST 1048576: true; the input reads as it did. -/
def rotorOthersUptoRow : OpenClaim := { program := "ytnmbkhofikbcjaa", sum := "d1043b9d7e82165a7e7c7911f01b2a17ecb3b94a0591d96b73da2108a05c07c7", func := "septum/septumlaw13.RotorOthers", spec := "rotorOthers", unfollowed := true, recurses := true, apart := false, narrowed := true }
def RotorOthersUptoSaid : Prop := rotorOthersUptoRow.holds Try.pinned (OpenSpec.upto rotorOthersSpec)

/-- 'septumlaw13.RotorRing', WHERE WHAT IT READS IS OF BULK AT MOST 1048576: true; the input reads as it did. -/
def rotorRingUptoRow : OpenClaim := { program := "ytnmbkhofikbcjaa", sum := "d1043b9d7e82165a7e7c7911f01b2a17ecb3b94a0591d96b73da2108a05c07c7", func := "septum/septumlaw13.RotorRing", spec := "rotorRing", unfollowed := true, recurses := true, apart := false, narrowed := true }
def RotorRingUptoSaid : Prop := rotorRingUptoRow.holds Try.pinned (OpenSpec.upto rotorRingSpec)

/-- 'septumlaw13.RotorTurns', WHERE WHAT IT READS IS OF BULK AT MOST 1048576: true; the input reads as it did. -/
def rotorTurnsUptoRow : OpenClaim := { program := "ytnmbkhofikbcjaa", sum := "d1043b9d7e82165a7e7c7911f01b2a17ecb3b94a0591d96b73da2108a05c07c7", func := "septum/septumlaw13.RotorTurns", spec := "rotorTurns", unfollowed := true, recurses := true, apart := false, narrowed := true }
def RotorTurnsUptoSaid : Prop := rotorTurnsUptoRow.holds Try.pinned (OpenSpec.upto rotorTurnsSpec)

/-- 'septumlaw18.PipeLate', WHERE WHAT IT READS IS OF BULK AT MOST 1048576: true; the input reads as it did. -/
def pipeLateUptoRow : OpenClaim := { program := "ytnmbkhofikbcjaa", sum := "d1043b9d7e82165a7e7c7911f01b2a17ecb3b94a0591d96b73da2108a05c07c7", func := "septum/septumlaw18.PipeLate", spec := "pipeLate", apart := false, narrowed := true }
def PipeLateUptoSaid : Prop := pipeLateUptoRow.holds Try.pinned (OpenSpec.upto pipeLateSpec)

/-- 'septumlaw18.PipeDoes', WHERE WHAT IT READS IS OF BULK AT MOST 1048576: true; the input reads as it did. -/
def pipeDoesUptoRow : OpenClaim := { program := "ytnmbkhofikbcjaa", sum := "d1043b9d7e82165a7e7c7911f01b2a17ecb3b94a0591d96b73da2108a05c07c7", func := "septum/septumlaw18.PipeDoes", spec := "pipeDoes", apart := false, narrowed := true }
def PipeDoesUptoSaid : Prop := pipeDoesUptoRow.holds Try.pinned (OpenSpec.upto pipeDoesSpec)

/-- 'septumlaw18.PipeSmall', WHERE WHAT IT READS IS OF BULK AT MOST 1048576: true; the input reads as it did. -/
def pipeSmallUptoRow : OpenClaim := { program := "ytnmbkhofikbcjaa", sum := "d1043b9d7e82165a7e7c7911f01b2a17ecb3b94a0591d96b73da2108a05c07c7", func := "septum/septumlaw18.PipeSmall", spec := "pipeSmall", apart := false, narrowed := true }
def PipeSmallUptoSaid : Prop := pipeSmallUptoRow.holds Try.pinned (OpenSpec.upto pipeSmallSpec)

/-- 'septumlaw13.RotorDoes', WHERE WHAT IT READS IS OF BULK AT MOST 1048576: true; the input reads as it did. -/
def rotorDoesUptoRow : OpenClaim := { program := "ytnmbkhofikbcjaa", sum := "d1043b9d7e82165a7e7c7911f01b2a17ecb3b94a0591d96b73da2108a05c07c7", func := "septum/septumlaw13.RotorDoes", spec := "rotorDoes", unfollowed := true, recurses := true, apart := false, narrowed := true }
def RotorDoesUptoSaid : Prop := rotorDoesUptoRow.holds Try.pinned (OpenSpec.upto rotorDoesSpec)

/-- 'septumlaw13.RotorEnds', WHERE WHAT IT READS IS OF BULK AT MOST 1048576: true; the input reads as it did. -/
def rotorEndsUptoRow : OpenClaim := { program := "ytnmbkhofikbcjaa", sum := "d1043b9d7e82165a7e7c7911f01b2a17ecb3b94a0591d96b73da2108a05c07c7", func := "septum/septumlaw13.RotorEnds", spec := "rotorEnds", unfollowed := true, recurses := true, apart := false, narrowed := true }
def RotorEndsUptoSaid : Prop := rotorEndsUptoRow.holds Try.pinned (OpenSpec.upto rotorEndsSpec)

end Rows
end Go.Proofs.Ytnmbkhofikbcjaa
