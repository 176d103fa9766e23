/- The rotor's and the document's Write at any register, in one form. Conditions: as at each lemma. -/
import Derived.Test.YtnmbkhofikbcjaaRotorRead
import Derived.Test.YtnmbkhofikbcjaaRotorWrite
namespace Go.Proofs.Ytnmbkhofikbcjaa
open Go.RowKit Flt

/-- What a write leaves: the point's word, the steps. -/
def wV (reg v x : Int) : Int := if reg = 0 then x else if reg = 1 then plusW v x else if reg = 2 then timesW v x else if reg = 3 then turnW (x % 4).toNat v else v
def wN (reg n : Int) : Int := if reg = 1 ∨ reg = 2 ∨ reg = 3 then (n + 1) % 4294967296 else n
theorem wV_range (reg v x : Int) (hv : 0 ≤ v ∧ v ≤ 4294967295) (hx : 0 ≤ x ∧ x ≤ 4294967295) : 0 ≤ wV reg v x ∧ wV reg v x ≤ 4294967295 := by
  unfold wV
  split
  · exact hx
  split
  · exact plusW_range _ _
  split
  · exact timesW_range _ _
  split
  · exact turnW_range _ _ hv
  · exact hv
theorem wV_bad {reg : Int} (h : reg < 0 ∨ 3 < reg) (v x : Int) : wV reg v x = v := by
  unfold wV; rw [if_neg (by omega), if_neg (by omega), if_neg (by omega), if_neg (by omega)]
theorem wN_bad {reg : Int} (h : reg < 0 ∨ 3 < reg) (n : Int) : wN reg n = n := by unfold wN; rw [if_neg (by omega)]

theorem write_any (b : Nat) (v n x reg : Int) (hx : 0 ≤ x ∧ x ≤ 4294967295) (w : World) (hb : RBlk w b v n) :
    Calls Try.prog 38 #[.pointer (some ⟨b, 0, none⟩), .int .i64 reg, .int .u32 x] w fun e w' => e = .returned (.tuple #[]) ∧ RBlk w' b (wV reg v x) (wN reg n) ∧ Upd (· = b) w w' := by
  by_cases h : reg < 0 ∨ 3 < reg
  · rw [wV_bad h, wN_bad h]
    exact (write_bad b v n x reg h w hb).mono fun e w' ⟨h1, h2⟩ => ⟨h1, RBlk.upd h2 hb, h2.mono (fun _ _ h => h.elim)⟩
  · rcases (show reg = 0 ∨ reg = 1 ∨ reg = 2 ∨ reg = 3 by omega) with rfl | rfl | rfl | rfl
    · exact write_0 b v n x hx w hb
    · exact write_1 b v n x hx w hb
    · exact write_2 b v n x hx w hb
    · exact write_3 b v n x hx w hb
theorem refWrite_any (b : Nat) (v n x reg : Int) (hv : 0 ≤ v ∧ v ≤ 4294967295) (hx : 0 ≤ x ∧ x ≤ 4294967295) (w : World) (hb : SBlk w b v n) :
    Calls Try.prog 39 #[.pointer (some ⟨b, 0, none⟩), .int .i64 reg, .int .u32 x] w fun e w' => e = .returned (.tuple #[]) ∧ SBlk w' b (wV reg v x) (wN reg n) ∧ Upd (· = b) w w' := by
  by_cases h : reg < 0 ∨ 3 < reg
  · rw [wV_bad h, wN_bad h]
    exact (refWrite_bad b x reg h w).mono fun e w' ⟨h1, h2⟩ => ⟨h1, h2 ▸ hb, h2 ▸ Upd.refl _ _⟩
  · rcases (show reg = 0 ∨ reg = 1 ∨ reg = 2 ∨ reg = 3 by omega) with rfl | rfl | rfl | rfl
    · exact refWrite_0 b v n x w hb
    · exact refWrite_1 b v n x hv hx w hb
    · exact refWrite_2 b v n x hv hx w hb
    · exact refWrite_3 b v n x hv hx w hb
end Go.Proofs.Ytnmbkhofikbcjaa
