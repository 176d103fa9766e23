/- A deed on both boards: a device gets a line. Conditions: both are known, and agree. -/
import Derived.Test.YtkhhmkcpbefadaaIrqDeed
import Derived.Deep.RegionWith
import Derived.Deep.RegionHeld3
namespace Go.Proofs.Ytkhhmkcpbefadaa
open Go.RowKit
set_option maxRecDepth 100000 in
set_option maxHeartbeats 16000000 in
theorem one1_route {w W : World} {pc b r c q : Nat} {p : List WR × WS} {f : Nat → Bool} (hh nn kk : Int) (LA : Option Addr) (ln lc : Nat) (h6 : hh % 7 = 3) (h : DS w W pc b r c q p f) :
    Calls Try.prog 26 #[.pointer (some ⟨pc, 0, none⟩), .pointer (some ⟨c, 0, none⟩), .agg #[.int .i64 hh, .int .i64 nn, .int .i64 kk, .slice LA ln lc]] W fun e w' => e = .returned (.bool true) ∧ ∃ b' r' p' f', p'.1.length = p.1.length ∧ DS w w' pc b' r' c q p' f' := by
  have H := Lib.hid h
  have c0 : W.cell? ⟨pc, 0, none⟩ = some (.pointer (some ⟨b, 0, none⟩)) := h.P.cell 0 rfl
  have hpl := h.P.lt
  clear h
  go_enter Try.func26, Try.ntmps26
  go_wp2_with fail
  refine (pick_is hh _).mono ?_
  rintro e w1 ⟨rfl, rfl⟩
  rw [h6]
  obtain ⟨dd, hdd⟩ : ∃ x, x = W.heap.size := ⟨_, rfl⟩
  obtain ⟨wa, hwa⟩ : ∃ x, x = W.alloc (.cells #[.int .i64 hh, .int .i64 nn, .int .i64 kk, .slice LA ln lc] 45) := ⟨_, rfl⟩
  have HD := Lib.hid (show Blk wa dd #[.int .i64 hh, .int .i64 nn, .int .i64 kk, .slice LA ln lc] 45 by rw [hwa]; exact Blk.newAt hdd)
  have HA := Lib.hid (show DS w wa pc b r c q p f by rw [hwa]; exact H.out.non (Upd.refl _ _).alloc)
  have hne : dd ≠ b ∧ dd ≠ r := ⟨by have := H.out.B.ltb; omega, by have := H.out.B.lt; omega⟩
  have HN := Lib.hid hne
  have HN3 := Lib.hid (show dd ≠ c ∧ dd ≠ q from ⟨by have := H.out.R.ltb; omega, by have := H.out.R.lt; omega⟩)
  rw [← hdd, ← hwa]
  clear hwa hdd hne c0 hpl h6
  have f1 : wa.cell? ⟨dd, 1, none⟩ = some (.int .i64 nn) := HD.out.cell 1 rfl
  have f2 : wa.cell? ⟨dd, 2, none⟩ = some (.int .i64 kk) := HD.out.cell 2 rfl
  have f3 : wa.cell? ⟨dd, 3, none⟩ = some (.slice LA ln lc) := HD.out.cell 3 rfl
  have DB := Lib.hid (ds_route (HA.out.non (W' := wa.drew) (Upd.refl _ _).drew) nn kk)
  have hne3 : dd ≠ c ∧ dd ≠ q := HN3.out
  have HN2 := Lib.hid hne3
  clear hne3
  go_wp2_with fail
  go_region_held3 (fun w' => w'.cell? ⟨dd, 1, none⟩ = some (.int .i64 nn) ∧ w'.cell? ⟨dd, 2, none⟩ = some (.int .i64 kk)) (first | exact ⟨f1, f2⟩ | exact ⟨HX.out.cell 1 rfl, HX.out.cell 2 rfl⟩ | exact ⟨HY.out.cell 1 rfl, HY.out.cell 2 rfl⟩) (first
    | (go_at_call 19; refine DB.out.mono ?_; rintro e w5 ⟨rfl, hB, hu⟩; have HB := Lib.hid hB; have HX := Lib.hid (Blk.upd hu (Blk.drew HD.out) (fun e => e.elim HN.out.1 HN.out.2)); clear hB hu)
    | (go_at_call 45; refine (dmu_route nn kk HB.out).mono ?_; rintro e w6 ⟨rfl, hC, hv⟩; have HC := Lib.hid hC; have HY := Lib.hid (Blk.upd hv HX.out (fun e => e.elim HN2.out.1 HN2.out.2)); clear hC hv))
  all_goals
    go_wp2_with fail
    go_ret
    exact ⟨rfl, b, r, _, f, routeW_length _ _ _, HC.out⟩
end Go.Proofs.Ytkhhmkcpbefadaa
