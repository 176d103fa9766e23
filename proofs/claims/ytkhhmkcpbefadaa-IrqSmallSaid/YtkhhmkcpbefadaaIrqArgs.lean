/- The laws' arguments: devices and deeds, their cells, their size. No condition. -/
import Derived.Test.YtkhhmkcpbefadaaIrqBlk
namespace Go.Proofs.Ytkhhmkcpbefadaa
open Go.RowKit
/-- The devices' cells, and the deeds'. -/
def DevsAt (w : World) (A : Option Addr) (n : Nat) (O N : Nat → Int) : Prop := 0 < n → ∃ b o, A = some ⟨b, o, none⟩ ∧ ∀ i, i < n → DevAt w b o i (O i) (N i)
structure DeedAt (w : World) (b o i : Nat) (H N K : Int) (A : Option Addr) (n c : Nat) : Prop where
  h0 : w.cell? ⟨b, o + i * 4, none⟩ = some (.int .i64 H)
  h1 : w.cell? ⟨b, o + i * 4 + 1, none⟩ = some (.int .i64 N)
  h2 : w.cell? ⟨b, o + i * 4 + 2, none⟩ = some (.int .i64 K)
  h3 : w.cell? ⟨b, o + i * 4 + 3, none⟩ = some (.slice A n c)
/-- All deeds. -/
structure Deeds where
  m : Nat
  H : Nat → Int
  N : Nat → Int
  K : Nat → Int
  LA : Nat → Option Addr
  LN : Nat → Nat
  LC : Nat → Nat
  LV : Nat → Nat → Bool
structure DeedsAt (w : World) (D : Option Addr) (d : Deeds) : Prop where
  at' : 0 < d.m → ∃ b o, D = some ⟨b, o, none⟩ ∧ ∀ i, i < d.m → DeedAt w b o i (d.H i) (d.N i) (d.K i) (d.LA i) (d.LN i) (d.LC i)
  lv : ∀ i, i < d.m → BoolsAt w (d.LA i) (d.LN i) (d.LV i)
  big : d.m ≤ 2 ^ 48
  bigs : ∀ i, i < d.m → d.LN i ≤ 2 ^ 48
theorem size_of {A : Option Addr} {n cc : Nat} {D : Option Addr} {dc : Nat} {d : Deeds} (hn : n ≤ 2 ^ 48) {w : World} (h : DeedsAt w D d) :
    Calls Try.prog 15 #[.slice A n cc, .slice D d.m dc] w fun e w' => ∃ z : Int, e = .returned (.int .i64 z) ∧ (z ≤ 400 → n ≤ 400 ∧ d.m ≤ 400 ∧ ∀ i, i < d.m → d.LN i ≤ 400) ∧ w = w' :=
  size_is A n cc D d.m dc d.LA d.LN d.LC hn h.big h.bigs w fun hm => by
    obtain ⟨b, o, e, hc⟩ := h.at' hm
    exact ⟨b, o, e, fun i hi => (hc i hi).h3⟩
end Go.Proofs.Ytkhhmkcpbefadaa
