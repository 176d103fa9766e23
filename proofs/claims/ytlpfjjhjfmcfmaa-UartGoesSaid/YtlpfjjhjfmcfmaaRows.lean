/-
  No cell of these rows narrows 'for every input' (looked for: loops, veiled, ifaces, maps, wideKeys, modest, calm, conditions, laid).
  DERIVED. THE GIVEN ROWS OF THIS SEAT. 6 by the template 'for every input the law returns true; each argument reads behind the call as it read before'; 0 by the template 'total and deterministic' (their statements: YtlpfjjhjfmcfmaaTotals.lean).
  GIVEN WITH THE SEED: the statements are not yours to turn. If you find one false, say at which input.
  Laid BY PROGRAM, IN A SANDBOX (cutbox-rows.mjs): the forced cells as the released guide's own fill.sh prints them over the translation b0e948512daacebb… (all of the seat's roots in one cut). By AI agents, Wed Nov 11 2026. No macro, syntax, notation, axiom, sorry.
-/
import Derived.Test.YtlpfjjhjfmcfmaaChecked
import GoSem.Claim
import GoSem.ClaimJoined
import GoSem.ClaimMapViews
import Derived.JoinedTies
import Derived.KernelRfl
namespace Go.Proofs.Ytlpfjjhjfmcfmaa
/- THE CELL 'sum', in the pinned program and in every row, IS THE sha256 OF THE DUMP (.gsa) THAT YtlpfjjhjfmcfmaaProg.lean LOADS. Nothing in Lean hashes anything: it is a label: what it is worth is what the hold of that sum in a sandbox is worth. -/
noncomputable def Try.pinned : Pinned := { name := "ytlpfjjhjfmcfmaa", sum := "b0e948512daacebb745b7ed7e200b39d6ead62640d736c876815c3eeed94c7ea", checked := Try.checked }
namespace Rows
def none {H : Type} : Left H := { results := [], args := [] }

/-- 'septumlaw11.UartOrder': WHATEVER THE INPUT: true; the input reads as it did. -/
def uartOrderSpec : ChangeSpec := { name := "uartOrder", fn := fun _ => fun
  | [d1, d2] => { results := [.lit (.bool true)], args := [d1, d2] }
  | _ => none }
def uartOrderRow : OpenClaim := { program := "ytlpfjjhjfmcfmaa", sum := "b0e948512daacebb745b7ed7e200b39d6ead62640d736c876815c3eeed94c7ea", func := "septum/septumlaw11.UartOrder", spec := "uartOrder", unfollowed := true, recurses := true, apart := false }
def UartOrderSaid : Prop := uartOrderRow.holds Try.pinned (OpenSpec.ofChange uartOrderSpec)

/-- ITS FALSE NEIGHBOUR: 'it returns false'. Refute it at one input. -/
def uartOrderWrong : ChangeSpec := { name := "uartOrder", fn := fun _ => fun
  | [d1, d2] => { results := [.lit (.bool false)], args := [d1, d2] }
  | _ => none }
def UartOrderWrongFalsely : Prop := uartOrderRow.holds Try.pinned (OpenSpec.ofChange uartOrderWrong)

/-- 'septumlaw11.UartGoes': WHATEVER THE INPUT: true; the input reads as it did. -/
def uartGoesSpec : ChangeSpec := { name := "uartGoes", fn := fun _ => fun
  | [d1, d2] => { results := [.lit (.bool true)], args := [d1, d2] }
  | _ => none }
def uartGoesRow : OpenClaim := { program := "ytlpfjjhjfmcfmaa", sum := "b0e948512daacebb745b7ed7e200b39d6ead62640d736c876815c3eeed94c7ea", func := "septum/septumlaw11.UartGoes", spec := "uartGoes", unfollowed := true, recurses := true, apart := false }
def UartGoesSaid : Prop := uartGoesRow.holds Try.pinned (OpenSpec.ofChange uartGoesSpec)

/-- ITS FALSE NEIGHBOUR: 'it returns false'. Refute it at one input. -/
def uartGoesWrong : ChangeSpec := { name := "uartGoes", fn := fun _ => fun
  | [d1, d2] => { results := [.lit (.bool false)], args := [d1, d2] }
  | _ => none }
def UartGoesWrongFalsely : Prop := uartGoesRow.holds Try.pinned (OpenSpec.ofChange uartGoesWrong)

/-- 'septumlaw12.MailboxOrder': WHATEVER THE INPUT: true; the input reads as it did. -/
def mailboxOrderSpec : ChangeSpec := { name := "mailboxOrder", fn := fun _ => fun
  | [d1, d2] => { results := [.lit (.bool true)], args := [d1, d2] }
  | _ => none }
def mailboxOrderRow : OpenClaim := { program := "ytlpfjjhjfmcfmaa", sum := "b0e948512daacebb745b7ed7e200b39d6ead62640d736c876815c3eeed94c7ea", func := "septum/septumlaw12.MailboxOrder", spec := "mailboxOrder", unfollowed := true, recurses := true, apart := false }
def MailboxOrderSaid : Prop := mailboxOrderRow.holds Try.pinned (OpenSpec.ofChange mailboxOrderSpec)

/-- ITS FALSE NEIGHBOUR: 'it returns false'. Refute it at one input. -/
def mailboxOrderWrong : ChangeSpec := { name := "mailboxOrder", fn := fun _ => fun
  | [d1, d2] => { results := [.lit (.bool false)], args := [d1, d2] }
  | _ => none }
def MailboxOrderWrongFalsely : Prop := mailboxOrderRow.holds Try.pinned (OpenSpec.ofChange mailboxOrderWrong)

/-- 'septumlaw12.MailboxApart': WHATEVER THE INPUT: true; the input reads as it did. -/
def mailboxApartSpec : ChangeSpec := { name := "mailboxApart", fn := fun _ => fun
  | [d1, d2, d3] => { results := [.lit (.bool true)], args := [d1, d2, d3] }
  | _ => none }
def mailboxApartRow : OpenClaim := { program := "ytlpfjjhjfmcfmaa", sum := "b0e948512daacebb745b7ed7e200b39d6ead62640d736c876815c3eeed94c7ea", func := "septum/septumlaw12.MailboxApart", spec := "mailboxApart", unfollowed := true, recurses := true, apart := false }
def MailboxApartSaid : Prop := mailboxApartRow.holds Try.pinned (OpenSpec.ofChange mailboxApartSpec)

/-- ITS FALSE NEIGHBOUR: 'it returns false'. Refute it at one input. -/
def mailboxApartWrong : ChangeSpec := { name := "mailboxApart", fn := fun _ => fun
  | [d1, d2, d3] => { results := [.lit (.bool false)], args := [d1, d2, d3] }
  | _ => none }
def MailboxApartWrongFalsely : Prop := mailboxApartRow.holds Try.pinned (OpenSpec.ofChange mailboxApartWrong)

/-- 'septumlaw12.MailboxDoes': WHATEVER THE INPUT: true; the input reads as it did. -/
def mailboxDoesSpec : ChangeSpec := { name := "mailboxDoes", fn := fun _ => fun
  | [d] => { results := [.lit (.bool true)], args := [d] }
  | _ => none }
def mailboxDoesRow : OpenClaim := { program := "ytlpfjjhjfmcfmaa", sum := "b0e948512daacebb745b7ed7e200b39d6ead62640d736c876815c3eeed94c7ea", func := "septum/septumlaw12.MailboxDoes", spec := "mailboxDoes", unfollowed := true, recurses := true, apart := false }
def MailboxDoesSaid : Prop := mailboxDoesRow.holds Try.pinned (OpenSpec.ofChange mailboxDoesSpec)

/-- ITS FALSE NEIGHBOUR: 'it returns false'. Refute it at one input. -/
def mailboxDoesWrong : ChangeSpec := { name := "mailboxDoes", fn := fun _ => fun
  | [d] => { results := [.lit (.bool false)], args := [d] }
  | _ => none }
def MailboxDoesWrongFalsely : Prop := mailboxDoesRow.holds Try.pinned (OpenSpec.ofChange mailboxDoesWrong)

/-- 'septumlaw12.MailboxEnds': WHATEVER THE INPUT: true; the input reads as it did. -/
def mailboxEndsSpec : ChangeSpec := { name := "mailboxEnds", fn := fun _ => fun
  | [] => { results := [.lit (.bool true)], args := [] }
  | _ => none }
def mailboxEndsRow : OpenClaim := { program := "ytlpfjjhjfmcfmaa", sum := "b0e948512daacebb745b7ed7e200b39d6ead62640d736c876815c3eeed94c7ea", func := "septum/septumlaw12.MailboxEnds", spec := "mailboxEnds", unfollowed := true, recurses := true, apart := false }
def MailboxEndsSaid : Prop := mailboxEndsRow.holds Try.pinned (OpenSpec.ofChange mailboxEndsSpec)

/-- ITS FALSE NEIGHBOUR: 'it returns false'. Refute it at one input. -/
def mailboxEndsWrong : ChangeSpec := { name := "mailboxEnds", fn := fun _ => fun
  | [] => { results := [.lit (.bool false)], args := [] }
  | _ => none }
def MailboxEndsWrongFalsely : Prop := mailboxEndsRow.holds Try.pinned (OpenSpec.ofChange mailboxEndsWrong)

/- THE SECOND FORM. 'bulk': how many values and letters a reading holds, each counted each time it is reached (what is shared counts as often as it is met; a slice's spare places count too). A statement '..UptoSaid' is the law's where the arguments, and the package variables that the reading takes, are together of bulk at most 1048576: NARROWER than '..Said'. Prove '..Said' where nothing that the law and all that it calls make is longer than what came in: it says more and counts as full. Else prove '..UptoSaid'. A law counts once. -/
mutual
def uptoBulk {H : Type} : DataW H → Nat
  | .lit (.string bytes) => bytes.length + 1
  | .lit _ => 1
  | .nil => 1
  | .ptr d => uptoBulk d + 1
  | .slice elems spare => uptoBulkAll elems + uptoBulkAll spare + 1
  | .agg parts => uptoBulkAll parts + 1
  | .iface _ d => uptoBulk d + 1
  | .map entries => uptoBulkEntries entries + 1
  | .held _ => 1
def uptoBulkAll {H : Type} : List (DataW H) → Nat
  | [] => 0
  | d :: r => uptoBulk d + uptoBulkAll r
def uptoBulkEntries {H : Type} : List (Lit × DataW H) → Nat
  | [] => 0
  | x :: r => uptoBulkEntry x + uptoBulkEntries r
def uptoBulkEntry {H : Type} : Lit × DataW H → Nat
  | (.string bytes, d) => bytes.length + uptoBulk d + 1
  | (_, d) => uptoBulk d + 1
 end
def uptoSmall : (H : Type) → List (DataW H) → Bool := fun _ ds => decide (uptoBulkAll ds ≤ 1048576)
def OpenSpec.upto (s : _root_.Go.ChangeSpec) : _root_.Go.OpenSpec := { _root_.Go.OpenSpec.ofChange s with cond := some uptoSmall }

/-- 'septumlaw11.UartOrder', WHERE WHAT IT READS IS OF BULK AT MOST 1048576: true; the input reads as it did. -/
def uartOrderUptoRow : OpenClaim := { program := "ytlpfjjhjfmcfmaa", sum := "b0e948512daacebb745b7ed7e200b39d6ead62640d736c876815c3eeed94c7ea", func := "septum/septumlaw11.UartOrder", spec := "uartOrder", unfollowed := true, recurses := true, apart := false, narrowed := true }
def UartOrderUptoSaid : Prop := uartOrderUptoRow.holds Try.pinned (OpenSpec.upto uartOrderSpec)

/-- 'septumlaw11.UartGoes', WHERE WHAT IT READS IS OF BULK AT MOST 1048576: true; the input reads as it did. -/
def uartGoesUptoRow : OpenClaim := { program := "ytlpfjjhjfmcfmaa", sum := "b0e948512daacebb745b7ed7e200b39d6ead62640d736c876815c3eeed94c7ea", func := "septum/septumlaw11.UartGoes", spec := "uartGoes", unfollowed := true, recurses := true, apart := false, narrowed := true }
def UartGoesUptoSaid : Prop := uartGoesUptoRow.holds Try.pinned (OpenSpec.upto uartGoesSpec)

/-- 'septumlaw12.MailboxOrder', WHERE WHAT IT READS IS OF BULK AT MOST 1048576: true; the input reads as it did. -/
def mailboxOrderUptoRow : OpenClaim := { program := "ytlpfjjhjfmcfmaa", sum := "b0e948512daacebb745b7ed7e200b39d6ead62640d736c876815c3eeed94c7ea", func := "septum/septumlaw12.MailboxOrder", spec := "mailboxOrder", unfollowed := true, recurses := true, apart := false, narrowed := true }
def MailboxOrderUptoSaid : Prop := mailboxOrderUptoRow.holds Try.pinned (OpenSpec.upto mailboxOrderSpec)

/-- 'septumlaw12.MailboxApart', WHERE WHAT IT READS IS OF BULK AT MOST 1048576: true; the input reads as it did. -/
def mailboxApartUptoRow : OpenClaim := { program := "ytlpfjjhjfmcfmaa", sum := "b0e948512daacebb745b7ed7e200b39d6ead62640d736c876815c3eeed94c7ea", func := "septum/septumlaw12.MailboxApart", spec := "mailboxApart", unfollowed := true, recurses := true, apart := false, narrowed := true }
def MailboxApartUptoSaid : Prop := mailboxApartUptoRow.holds Try.pinned (OpenSpec.upto mailboxApartSpec)

/-- 'septumlaw12.MailboxDoes', WHERE WHAT IT READS IS OF BULK AT MOST 1048576: true; the input reads as it did. -/
def mailboxDoesUptoRow : OpenClaim := { program := "ytlpfjjhjfmcfmaa", sum := "b0e948512daacebb745b7ed7e200b39d6ead62640d736c876815c3eeed94c7ea", func := "septum/septumlaw12.MailboxDoes", spec := "mailboxDoes", unfollowed := true, recurses := true, apart := false, narrowed := true }
def MailboxDoesUptoSaid : Prop := mailboxDoesUptoRow.holds Try.pinned (OpenSpec.upto mailboxDoesSpec)

/-- 'septumlaw12.MailboxEnds', WHERE WHAT IT READS IS OF BULK AT MOST 1048576: true; the input reads as it did. -/
def mailboxEndsUptoRow : OpenClaim := { program := "ytlpfjjhjfmcfmaa", sum := "b0e948512daacebb745b7ed7e200b39d6ead62640d736c876815c3eeed94c7ea", func := "septum/septumlaw12.MailboxEnds", spec := "mailboxEnds", unfollowed := true, recurses := true, apart := false, narrowed := true }
def MailboxEndsUptoSaid : Prop := mailboxEndsUptoRow.holds Try.pinned (OpenSpec.upto mailboxEndsSpec)

end Rows
end Go.Proofs.Ytlpfjjhjfmcfmaa
