/- Contracts of the fifo's functions that only read. Conditions: the fifo's blocks are known whole, its state is a sound one. -/
import Derived.Test.YtmblplhehbdocaaFifoModel
import Derived.Test.YtmblplhehbdocaaWays
namespace Go.Proofs.Ytmblplhehbdocaa
open Go.RowKit

theorem ret_int {k : IntKind} {a b : Int} (h : a = b) : Ending.returned (.int k a) = .returned (.int k b) := by rw [h]
theorem quiet_at {P : Program} {f : FuncId} {args : Array Value} {w : World} {n : Nat} {v : Value} (h : Calls P f args (w.drewN n) fun e w' => e = .returned v ∧ ∃ m, w' = (w.drewN n).drewN m) :
    Calls P f args (w.drewN n) fun e w'' => e = .returned v ∧ ∃ m, w'' = w.drewN m := h.mono fun _ _ ⟨he, m, hm⟩ => ⟨he, n + m, by rw [hm, World.drewN_drewN]⟩
theorem Upd.drawn {S : Nat → Prop} {w w' : World} (h : ∃ k, w' = w.drewN k) : Upd S w w' := by
  obtain ⟨k, rfl⟩ := h
  exact (Upd.refl _ _).drewN
theorem there_spec (s : FS) (b : Nat) (w : World) (hb : FBlk w b s) : Calls Try.prog 68 #[.pointer (some ⟨b, 0, none⟩)] w fun e w' => e = .returned (.bool true) ∧ w = w' := by
  have c4 := hb.c4
  clear hb
  go_enter Try.func68, Try.ntmps68
  go_wp2
  go_ret
  exact ⟨rfl, rfl⟩
theorem len_spec (s : FS) (b : Nat) (w : World) (hb : FBlk w b s) : Calls Try.prog 24 #[.pointer (some ⟨b, 0, none⟩)] w fun e w' => e = .returned (.int .i64 s.xs.length) ∧ w = w' := by
  have HB := Lib.hid hb
  have c2 := hb.c2
  clear hb
  go_enter Try.func24, Try.ntmps24
  go_wp2_with (go_at_call 68; refine (there_spec s b _ HB.out).mono ?_; rintro e w1 ⟨rfl, rfl⟩)
  go_ret
  exact ⟨rfl, rfl⟩
theorem left_spec (s : FS) (b : Nat) (ok : s.ok) (w : World) (hb : FBlk w b s) : Calls Try.prog 25 #[.pointer (some ⟨b, 0, none⟩)] w fun e w' => e = .returned (.int .i64 ((s.most : Int) - s.xs.length)) ∧ ∃ k, w' = w.drewN k := by
  have HB := Lib.hid hb
  have c2 := hb.c2
  have c3 := hb.c3
  have h1 := ok.le
  have h2 := ok.lm
  have h3 := ok.l5
  have h4 := ok.mm
  have g1 : IntKind.i64.wrap ((s.most : Int) - (s.xs.length : Int)) = (s.most : Int) - (s.xs.length : Int) := IntWalk.i64_in _ (by unfold maxI at h4; omega)
  clear hb h4
  go_enter Try.func25, Try.ntmps25
  go_wp2_with (go_at_call 68; refine (there_spec s b _ HB.out).mono ?_; rintro e w1 ⟨rfl, rfl⟩)
  go_quiet (fail)
  go_wp2_with fail
  go_ret
  exact ⟨rfl, _, rfl⟩
def FS.fresh (m g : Nat) : FS := ⟨g, 0, 0, m, fun _ => 0, []⟩
theorem FS.fresh_ok {m g : Nat} (h : m ≤ maxI) : (FS.fresh m g).ok := ⟨fun h => absurd h (Nat.lt_irrefl 0), fun _ => rfl, Nat.le_refl _, Nat.zero_le _, Nat.zero_le _, (fun j v h => by simp [FS.fresh] at h), h⟩
theorem new_spec (m : Nat) (w : World) : Calls Try.prog 22 #[.int .i64 m] w fun e w' => e = .returned (.pointer (some ⟨w.heap.size, 0, none⟩)) ∧ w' = w.alloc (.cells (FS.fresh m w.heap.size).enc 123) := by
  have h0 : ¬ (m : Int) < 0 := by omega
  go_enter Try.func22, Try.ntmps22
  go_wp2
  go_ret
  exact ⟨rfl, rfl⟩
theorem new_none (m : Int) (h : m < 0) (w : World) : Calls Try.prog 22 #[.int .i64 m] w fun e w' => e = .returned (.pointer none) ∧ w = w' := by
  go_enter Try.func22, Try.ntmps22
  go_wp2
  go_ret
  exact ⟨rfl, rfl⟩
theorem place_raw (s : FS) (b n x : Nat) (h5 : s.L ≤ 5000) (ha : s.fst < s.L) (hn : n ≤ s.L) (hx : (s.fst + n) % s.L = x) (w : World) (hb : FBlk w b s) :
    Calls Try.prog 67 #[.pointer (some ⟨b, 0, none⟩), .int .i64 n] w fun e w' => e = .returned (.int .i64 x) ∧ ∃ k, w' = w.drewN k := by
  have hL : 0 < s.L := by omega
  have c0 := hb.c0
  have c1 := hb.c1
  rw [FS.sl_some hL] at c0
  have g1 : IntKind.i64.wrap ((s.fst : Int) + (n : Int)) = (s.fst : Int) + (n : Int) := IntWalk.i64_in _ (by omega)
  have g2 : ((s.fst : Int) + (n : Int)) % (s.L : Int) = (x : Int) := by rw [← hx, Int.natCast_emod, Int.natCast_add]
  have g3 : ¬ (s.L : Int) = 0 := by omega
  have G2 := Lib.hid g2
  clear hb hx g2
  go_enter Try.func67, Try.ntmps67
  go_wp2_with fail
  go_quiet (fail)
  go_wp2_with fail
  go_ret
  exact ⟨ret_int G2.out, _, rfl⟩
theorem place_spec (s : FS) (b n x : Nat) (ok : s.ok) (hL : 0 < s.L) (hn : n ≤ s.L) (hx : (s.fst + n) % s.L = x) (w : World) (hb : FBlk w b s) :
    Calls Try.prog 67 #[.pointer (some ⟨b, 0, none⟩), .int .i64 n] w fun e w' => e = .returned (.int .i64 x) ∧ ∃ k, w' = w.drewN k := place_raw s b n x ok.l5 (ok.at_lt hL) hn hx w hb
theorem nth_no (s : FS) (b n : Nat) (hn : s.xs.length ≤ n) (w : World) (hb : FBlk w b s) :
    Calls Try.prog 70 #[.pointer (some ⟨b, 0, none⟩), .int .i64 n] w fun e w' => e = .returned (.tuple #[.int .i64 0, .bool false]) ∧ ∃ k, w' = w.drewN k := by
  have c2 := hb.c2
  have h0 : (s.xs.length : Int) ≤ n := by omega
  clear hb hn
  go_enter Try.func70, Try.ntmps70
  go_wp2
  go_ret2
  exact ⟨rfl, 0, rfl⟩
theorem nth_spec (s : FS) (b n : Nat) (v : Int) (ok : s.ok) (hv : s.xs[n]? = some v) (w : World) (hb : FBlk w b s) :
    Calls Try.prog 70 #[.pointer (some ⟨b, 0, none⟩), .int .i64 n] w fun e w' => e = .returned (.tuple #[.int .i64 v, .bool true]) ∧ ∃ k, w' = w.drewN k := by
  have hn : n < s.xs.length := (List.getElem?_eq_some_iff.1 hv).1
  have hle := ok.le
  have hL : 0 < s.L := by omega
  have c2 := hb.c2
  have c0 := hb.c0
  rw [FS.sl_some hL] at c0
  have h0 : ¬ (s.xs.length : Int) ≤ n := by omega
  obtain ⟨x, hx⟩ : ∃ x, (s.fst + n) % s.L = x := ⟨_, rfl⟩
  have hxL : x < s.L := by rw [← hx]; exact Nat.mod_lt _ hL
  have c5 := (hb.2 hL).1.cell x (rowI_at s.row hxL)
  rw [← hx, ok.row n v hv, hx] at c5
  have b0 : (0 : Int) ≤ (x : Int) := by omega
  have b1 : (x : Int) < (s.L : Int) := by omega
  have HB := Lib.hid hb
  have HX := Lib.hid hx
  clear hb hv hx
  go_enter Try.func70, Try.ntmps70
  go_wp2_with fail
  go_quiet ((go_at_call 67; refine quiet_at (place_spec s b n x ok hL (by omega) HX.out _ HB.out.drewN)))
  go_wp2_with fail
  go_ret2
  exact ⟨rfl, _, rfl⟩
/-- The first thing, if there is one. -/
def headI (xs : List Int) : Int := xs.headD 0
def someI (xs : List Int) : Bool := !xs.isEmpty
theorem ask_spec05 (s : FS) (b : Nat) (ok : s.ok) (w : World) (hb : FBlk w b s) :
    Calls Try.prog 70 #[.pointer (some ⟨b, 0, none⟩), .int .i64 0] w fun e w' => e = .returned (.tuple #[.int .i64 (headI s.xs), .bool (someI s.xs)]) ∧ ∃ k, w' = w.drewN k := by
  cases h : s.xs with
  | nil => exact nth_no s b 0 (by rw [h]; exact Nat.le_refl _) w hb
  | cons v l => exact nth_spec s b 0 v ok (by rw [h]; rfl) w hb
theorem told_spec (s : FS) (b : Nat) (ok : s.ok) (w : World) (hb : FBlk w b s) :
    Calls Try.prog 69 #[.pointer (some ⟨b, 0, none⟩), .func (.func 70) #[.pointer (some ⟨b, 0, none⟩)] #[]] w fun e w' => e = .returned (.tuple #[.int .i64 (headI s.xs), .bool (someI s.xs)]) ∧ ∃ k, w' = w.drewN k := by
  have HB := Lib.hid hb
  clear hb
  go_enter Try.func69, Try.ntmps69
  go_wp2_with (first | (go_at_call 68; refine (there_spec s b _ HB.out).mono ?_; rintro e w1 ⟨rfl, rfl⟩) | (go_at_call 70; refine (ask_spec05 s b ok _ HB.out).mono ?_; rintro e w1 ⟨rfl, k, rfl⟩))
  go_ret2
  exact ⟨rfl, _, rfl⟩
theorem first_spec (s : FS) (b : Nat) (ok : s.ok) (w : World) (hb : FBlk w b s) :
    Calls Try.prog 26 #[.pointer (some ⟨b, 0, none⟩)] w fun e w' => e = .returned (.tuple #[.int .i64 (headI s.xs), .bool (someI s.xs)]) ∧ ∃ k, w' = w.drewN k := by
  have HB := Lib.hid hb
  clear hb
  go_enter Try.func26, Try.ntmps26
  go_wp2_with (first | (go_at_call 68; refine (there_spec s b _ HB.out).mono ?_; rintro e w1 ⟨rfl, rfl⟩) | (go_at_call 69; refine (told_spec s b ok _ HB.out).mono ?_; rintro e w1 ⟨rfl, k, rfl⟩))
  go_ret2
  exact ⟨rfl, _, rfl⟩
end Go.Proofs.Ytmblplhehbdocaa
