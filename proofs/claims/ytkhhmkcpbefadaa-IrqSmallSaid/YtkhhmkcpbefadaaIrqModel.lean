/- A board's memory as a structure: how its block reads and is written. No condition. -/
import Derived.Test.YtkhhmkcpbefadaaBase
import Derived.Test.YtkhhmkcpbefadaaProg
namespace Go.Proofs.Ytkhhmkcpbefadaa
open Go.RowKit
/-- A wire. -/
structure WR where
  ow : Int
  ln : Int
  hi : Bool
def WR.enc (x : WR) : List Value := [.int .i64 x.ow, .int .i64 x.ln, .bool x.hi]
def wenc : List WR → List Value
  | [] => []
  | x :: l => x.enc ++ wenc l
/-- What the eight worlds have. -/
structure WS where
  wt : Nat → Nat
  le : Nat → Nat
def WS.fresh : WS := ⟨fun _ => 0, fun _ => 0⟩
def WS.setW (s : WS) (k v : Nat) : WS := ⟨fun j => if j = k then v else s.wt j, s.le⟩
def WS.setL (s : WS) (k v : Nat) : WS := ⟨s.wt, fun j => if j = k then v else s.le j⟩
/-- The board's block: the row's slice, the worlds, the mark. -/
def benc (v : Value) (s : WS) : Array Value := (v :: ([0, 1, 2, 3, 4, 5, 6, 7].flatMap (fun k => [Value.int .u8 (s.wt k), Value.int .u8 (s.le k)]) ++ [Value.bool true])).toArray
theorem lt8 {k : Nat} (h : k < 8) : k = 0 ∨ k = 1 ∨ k = 2 ∨ k = 3 ∨ k = 4 ∨ k = 5 ∨ k = 6 ∨ k = 7 := by omega
theorem benc_made (v : Value) (s : WS) : (benc v s)[17]? = some (.bool true) := rfl
theorem benc_row (v : Value) (s : WS) : (benc v s)[0]? = some v := rfl
theorem benc_cell (v : Value) (s : WS) (k : Nat) (hk : k < 8) : (benc v s)[1 + k * 2]? = some (.int .u8 (s.wt k)) ∧ (benc v s)[1 + k * 2 + 1]? = some (.int .u8 (s.le k)) := by
  rcases lt8 hk with rfl | rfl | rfl | rfl | rfl | rfl | rfl | rfl
  all_goals exact ⟨rfl, rfl⟩
theorem benc_setW (v : Value) (s : WS) (k : Nat) (hk : k < 8) (x : Nat) : (benc v s).setIfInBounds (1 + k * 2) (.int .u8 x) = benc v (s.setW k x) := by
  rcases lt8 hk with rfl | rfl | rfl | rfl | rfl | rfl | rfl | rfl
  all_goals kernel_rfl
theorem benc_setL (v : Value) (s : WS) (k : Nat) (hk : k < 8) (x : Nat) : (benc v s).setIfInBounds (1 + k * 2 + 1) (.int .u8 x) = benc v (s.setL k x) := by
  rcases lt8 hk with rfl | rfl | rfl | rfl | rfl | rfl | rfl | rfl
  all_goals kernel_rfl
theorem benc_setRow (v u : Value) (s : WS) : (benc v s).setIfInBounds 0 u = benc u s := rfl
end Go.Proofs.Ytkhhmkcpbefadaa
