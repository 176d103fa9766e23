/- The ports' memory as a structure: how their block reads and is written, cell by cell. No condition. -/
import Derived.Test.YtmblplhehbdocaaBase
import Derived.Test.YtmblplhehbdocaaProg
namespace Go.Proofs.Ytmblplhehbdocaa
open Go.RowKit

/-- What an ask of the laws has. -/
structure AK where
  c : Bool
  a : Int
  m : Bool
  i : Int
def AK.no : AK := ⟨false, 0, false, 0⟩
def AK.enc (x : AK) : Array Value := #[.bool x.c, .int .i64 0, .bool false, .int .u32 x.a, .int .i64 0, .int .u32 0, .bool x.m, .int .i64 0, .int .i64 x.i, .int .i64 0, .int .i64 0, .bool false, .int .i64 0, .int .u32 0, .int .u32 0, .bool false, .bool false, .int .i64 0, .bool false]
/-- The ports: each world's state, and its ask. -/
structure QS where
  st : Nat → Int
  ak : Nat → AK
def QS.enc (s : QS) : Array Value := ([0, 1, 2, 3, 4, 5, 6, 7].flatMap (fun k => .int .i64 (s.st k) :: (s.ak k).enc.toList) ++ [Value.bool true]).toArray
def QS.fresh : QS := ⟨fun _ => 0, fun _ => AK.no⟩
def QS.set (s : QS) (k : Nat) (v : Int) (x : AK) : QS := ⟨fun j => if j = k then v else s.st j, fun j => if j = k then x else s.ak j⟩
def QS.turn (s : QS) (k : Nat) (v : Int) : QS := ⟨fun j => if j = k then v else s.st j, s.ak⟩
theorem lt8 {k : Nat} (h : k < 8) : k = 0 ∨ k = 1 ∨ k = 2 ∨ k = 3 ∨ k = 4 ∨ k = 5 ∨ k = 6 ∨ k = 7 := by omega
theorem QS.enc_made (s : QS) : s.enc[160]? = some (.bool true) := rfl
theorem QS.enc_st (s : QS) (k : Nat) (hk : k < 8) : s.enc[k * 20]? = some (.int .i64 (s.st k)) := by
  rcases lt8 hk with rfl | rfl | rfl | rfl | rfl | rfl | rfl | rfl
  all_goals rfl
theorem QS.enc_cell (s : QS) (k : Nat) (hk : k < 8) :
    s.enc[k * 20]? = some (.int .i64 (s.st k)) ∧ s.enc[k * 20 + 1]? = some (.bool (s.ak k).c) ∧ s.enc[k * 20 + 2]? = some (.int .i64 0) ∧ s.enc[k * 20 + 3]? = some (.bool false) ∧ s.enc[k * 20 + 4]? = some (.int .u32 (s.ak k).a) ∧ s.enc[k * 20 + 5]? = some (.int .i64 0) ∧ s.enc[k * 20 + 6]? = some (.int .u32 0) ∧ s.enc[k * 20 + 7]? = some (.bool (s.ak k).m) ∧ s.enc[k * 20 + 8]? = some (.int .i64 0) ∧ s.enc[k * 20 + 9]? = some (.int .i64 (s.ak k).i) ∧ s.enc[k * 20 + 10]? = some (.int .i64 0) ∧ s.enc[k * 20 + 11]? = some (.int .i64 0) ∧ s.enc[k * 20 + 12]? = some (.bool false) ∧ s.enc[k * 20 + 13]? = some (.int .i64 0) ∧ s.enc[k * 20 + 14]? = some (.int .u32 0) ∧ s.enc[k * 20 + 15]? = some (.int .u32 0) ∧ s.enc[k * 20 + 16]? = some (.bool false) ∧ s.enc[k * 20 + 17]? = some (.bool false) ∧ s.enc[k * 20 + 18]? = some (.int .i64 0) ∧ s.enc[k * 20 + 19]? = some (.bool false) := by
  rcases lt8 hk with rfl | rfl | rfl | rfl | rfl | rfl | rfl | rfl
  all_goals exact ⟨rfl, rfl, rfl, rfl, rfl, rfl, rfl, rfl, rfl, rfl, rfl, rfl, rfl, rfl, rfl, rfl, rfl, rfl, rfl, rfl⟩
theorem QS.set_cell (s : QS) (k : Nat) (hk : k < 8) (v : Int) (x : AK) :
    (((((((((((((((((((s.enc.setIfInBounds (k * 20) (.int .i64 v)).setIfInBounds (k * 20 + 1) (.bool x.c)).setIfInBounds (k * 20 + 2) (.int .i64 0)).setIfInBounds (k * 20 + 3) (.bool false)).setIfInBounds (k * 20 + 4) (.int .u32 x.a)).setIfInBounds (k * 20 + 5) (.int .i64 0)).setIfInBounds (k * 20 + 6) (.int .u32 0)).setIfInBounds (k * 20 + 7) (.bool x.m)).setIfInBounds (k * 20 + 8) (.int .i64 0)).setIfInBounds (k * 20 + 9) (.int .i64 x.i)).setIfInBounds (k * 20 + 10) (.int .i64 0)).setIfInBounds (k * 20 + 11) (.int .i64 0)).setIfInBounds (k * 20 + 12) (.bool false)).setIfInBounds (k * 20 + 13) (.int .i64 0)).setIfInBounds (k * 20 + 14) (.int .u32 0)).setIfInBounds (k * 20 + 15) (.int .u32 0)).setIfInBounds (k * 20 + 16) (.bool false)).setIfInBounds (k * 20 + 17) (.bool false)).setIfInBounds (k * 20 + 18) (.int .i64 0)).setIfInBounds (k * 20 + 19) (.bool false) = (s.set k v x).enc := by
  rcases lt8 hk with rfl | rfl | rfl | rfl | rfl | rfl | rfl | rfl
  all_goals kernel_rfl
theorem QS.turn_cell (s : QS) (k : Nat) (hk : k < 8) (v : Int) : s.enc.setIfInBounds (k * 20) (.int .i64 v) = (s.turn k v).enc := by
  rcases lt8 hk with rfl | rfl | rfl | rfl | rfl | rfl | rfl | rfl
  all_goals kernel_rfl
def QBlk (w : World) (b : Nat) (s : QS) : Prop := Blk w b s.enc 133
theorem QBlk.upd {S : Nat → Prop} {w w' : World} {b : Nat} {s : QS} (u : Upd S w w') (h : QBlk w b s) (hs : ¬ S b) : QBlk w' b s := Blk.upd u h hs
theorem QBlk.blk {w : World} {b : Nat} {s : QS} (h : QBlk w b s) : Blk w b s.enc 133 := h
end Go.Proofs.Ytmblplhehbdocaa
