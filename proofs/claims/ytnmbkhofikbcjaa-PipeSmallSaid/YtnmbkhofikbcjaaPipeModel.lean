/- The pipe's memory as a structure of numbers: how its block reads and is written, cell by cell. No condition. -/
import Derived.Test.YtnmbkhofikbcjaaBase
namespace Go.Proofs.Ytnmbkhofikbcjaa
open Go.RowKit

/-- A cell of the ring. -/
structure PC where
  is : Bool
  wo : Int
  va : Int
  er : Int
def PC.no : PC := ⟨false, 0, 0, 0⟩
def PC.enc (c : PC) : List Value := [.bool c.is, .int .i64 c.wo, .int .u32 c.va, .int .i64 c.er]
/-- A pipe. -/
structure PS where
  cells : Nat → PC
  lat : Nat
  now : Nat
  began : Bool
def PS.enc (s : PS) : Array Value :=
  ([0, 1, 2, 3, 4, 5, 6, 7, 8, 9, 10, 11, 12, 13, 14, 15].flatMap (fun i => (s.cells i).enc) ++ [Value.int .i64 s.lat, Value.int .i64 s.now, Value.bool s.began]).toArray
structure PS.ok (s : PS) : Prop where
  pos : 0 < s.lat
  le : s.lat ≤ 16
  now : s.now < s.lat
def PS.put (s : PS) (k : Nat) (c : PC) : PS := { s with cells := fun i => if i = k then c else s.cells i }
def PS.next (s : PS) : Nat := (s.now + 1) % s.lat
def PS.on (s : PS) : PS := { s.put s.next PC.no with now := s.next }
def PS.fresh (l : Nat) : PS := ⟨fun _ => PC.no, l, 0, false⟩

theorem lt16 {k : Nat} (h : k < 16) : k = 0 ∨ k = 1 ∨ k = 2 ∨ k = 3 ∨ k = 4 ∨ k = 5 ∨ k = 6 ∨ k = 7 ∨ k = 8 ∨ k = 9 ∨ k = 10 ∨ k = 11 ∨ k = 12 ∨ k = 13 ∨ k = 14 ∨ k = 15 := by omega
theorem PS.next_lt {s : PS} (h : s.ok) : s.next < s.lat := Nat.mod_lt _ h.pos
theorem PS.next_lt16 {s : PS} (h : s.ok) : s.next < 16 := Nat.lt_of_lt_of_le (PS.next_lt h) h.le
theorem PS.on_ok {s : PS} (h : s.ok) : s.on.ok := ⟨h.pos, h.le, PS.next_lt h⟩
theorem PS.enc_lat (s : PS) : s.enc[64]? = some (.int .i64 s.lat) := rfl
theorem PS.enc_now (s : PS) : s.enc[65]? = some (.int .i64 s.now) := rfl
theorem PS.enc_began (s : PS) : s.enc[66]? = some (.bool s.began) := rfl
theorem PS.enc_cell (s : PS) (k : Nat) (hk : k < 16) :
    s.enc[k * 4]? = some (.bool (s.cells k).is) ∧ s.enc[k * 4 + 1]? = some (.int .i64 (s.cells k).wo) ∧ s.enc[k * 4 + 2]? = some (.int .u32 (s.cells k).va) ∧ s.enc[k * 4 + 3]? = some (.int .i64 (s.cells k).er) := by
  rcases lt16 hk with rfl | rfl | rfl | rfl | rfl | rfl | rfl | rfl | rfl | rfl | rfl | rfl | rfl | rfl | rfl | rfl
  all_goals exact ⟨rfl, rfl, rfl, rfl⟩
theorem PS.set_now (s : PS) (n : Nat) : s.enc.setIfInBounds 65 (.int .i64 n) = ({ s with now := n } : PS).enc := by rfl
theorem PS.set_began (s : PS) (x : Bool) : s.enc.setIfInBounds 66 (.bool x) = ({ s with began := x } : PS).enc := by rfl
theorem PS.set_cell (s : PS) (k : Nat) (hk : k < 16) (c : PC) :
    (((s.enc.setIfInBounds (k * 4) (.bool c.is)).setIfInBounds (k * 4 + 1) (.int .i64 c.wo)).setIfInBounds (k * 4 + 2) (.int .u32 c.va)).setIfInBounds (k * 4 + 3) (.int .i64 c.er) = (s.put k c).enc := by
  rcases lt16 hk with rfl | rfl | rfl | rfl | rfl | rfl | rfl | rfl | rfl | rfl | rfl | rfl | rfl | rfl | rfl | rfl
  all_goals kernel_rfl
theorem PS.enc_one (s : PS) : s.enc.all (·.oneCell') = true := by kernel_rfl
theorem PS.enc_fresh (l : Nat) : (PS.fresh l).enc = (PS.fresh 0).enc.setIfInBounds 64 (.int .i64 l) := by kernel_rfl
end Go.Proofs.Ytnmbkhofikbcjaa
