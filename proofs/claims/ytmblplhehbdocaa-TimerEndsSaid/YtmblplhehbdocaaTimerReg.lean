/- Contracts of the timer's Write. Conditions: the timer's block is known whole, its words are words. -/
import Derived.Test.YtmblplhehbdocaaTimerFns
namespace Go.Proofs.Ytmblplhehbdocaa
open Go.RowKit

theorem eqIn_nil {P : Program} (w : World) (d : Nat) (t : TypeId) {a b c} (h : P.underlying t = some (.func a b c)) :
    (Op.equalIn (d + 1) t .nilFunc .nilFunc).run P w = .ok true w := by simp [Op.equalIn, run_underlying h]
theorem eqIn_func {P : Program} (w : World) (d : Nat) (t : TypeId) (f : Fn) (x y : Array Value) {a b c} (h : P.underlying t = some (.func a b c)) :
    (Op.equalIn (d + 1) t (.func f x y) .nilFunc).run P w = .ok false w := by simp [Op.equalIn, run_underlying h]
theorem nil_no (w : World) : (binOp .neq 139 .nilFunc .nilFunc).run Try.prog w = .ok (.bool false) w := by
  simp only [binOp]
  simp [Op.equal, Op.maxDepth, eqIn_nil w 9999 139 Try.underlying139]
theorem nil_is (f : Fn) (x y : Array Value) (w : World) : (binOp .neq 139 (.func f x y) .nilFunc).run Try.prog w = .ok (.bool true) w := by
  simp only [binOp]
  simp [Op.equal, Op.maxDepth, eqIn_func w 9999 139 f x y Try.underlying139]
theorem Upd.mw (w : World) (m : IM) (j : Nat) : Upd Non w (MW w m j) := ((Upd.refl Non w).alloc).drewN

theorem count_spec (b : Nat) (s : TS) (x : Int) (w : World) (hb : TBlk w b s) :
    Calls Try.prog 76 #[.pointer (some ⟨b, 0, none⟩), .int .u32 x] w fun e w' => e = .returned (.tuple #[]) ∧ TBlk w' b { s with c := x } ∧ Upd (fun i => i = b) w w' := by
  have HB := Lib.hid hb
  have c0 : w.cell? ⟨b, 0, none⟩ = some (.int .u32 s.c) := hb.cell 0 rfl
  have f0 : w.frozen? ⟨b, 0, none⟩ = false := hb.frozen 0
  clear hb
  go_enter Try.func76, Try.ntmps76
  go_wp2
  go_end0
  exact ⟨rfl, Blk.set HB.out.blk, by ((with_reducible repeat' first | exact Upd.refl _ _ | apply Upd.drew | apply Upd.drewN | apply Upd.alloc | refine Upd.setCell ?_ ?_) <;> first | (intro _ _ h; exact h) | (intro _ _ h; exact h.elim) | (intro i h1 h2; exfalso; (try simp only at h2); omega) | (left; rfl) | (right; dsimp only; omega) | (right; omega))⟩
theorem limit_spec (b : Nat) (s : TS) (x : Int) (w : World) (hb : TBlk w b s) :
    Calls Try.prog 77 #[.pointer (some ⟨b, 0, none⟩), .int .u32 x] w fun e w' => e = .returned (.tuple #[]) ∧ TBlk w' b { s with l := x } ∧ Upd (fun i => i = b) w w' := by
  have HB := Lib.hid hb
  have c0 : w.cell? ⟨b, 1, none⟩ = some (.int .u32 s.l) := hb.cell 1 rfl
  have f0 : w.frozen? ⟨b, 1, none⟩ = false := hb.frozen 1
  clear hb
  go_enter Try.func77, Try.ntmps77
  go_wp2
  go_end0
  exact ⟨rfl, Blk.set HB.out.blk, by ((with_reducible repeat' first | exact Upd.refl _ _ | apply Upd.drew | apply Upd.drewN | apply Upd.alloc | refine Upd.setCell ?_ ?_) <;> first | (intro _ _ h; exact h) | (intro _ _ h; exact h.elim) | (intro i h1 h2; exfalso; (try simp only at h2); omega) | (left; rfl) | (right; dsimp only; omega) | (right; omega))⟩
theorem ctrl_spec (b : Nat) (s : TS) (x : Int) (hx : 0 ≤ x ∧ x ≤ 4294967295) (w : World) (hb : TBlk w b s) :
    Calls Try.prog 78 #[.pointer (some ⟨b, 0, none⟩), .int .u32 x] w fun e w' => e = .returned (.tuple #[]) ∧ TBlk w' b { s with k := x % 8 } ∧ Upd (fun i => i = b) w w' := by
  have HB := Lib.hid hb
  have c0 : w.cell? ⟨b, 2, none⟩ = some (.int .u32 s.k) := hb.cell 2 rfl
  have f0 : w.frozen? ⟨b, 2, none⟩ = false := hb.frozen 2
  have h7 := and_7 hx
  clear hb hx
  go_enter Try.func78, Try.ntmps78
  go_wp2
  go_end0
  exact ⟨rfl, Blk.set HB.out.blk, by ((with_reducible repeat' first | exact Upd.refl _ _ | apply Upd.drew | apply Upd.drewN | apply Upd.alloc | refine Upd.setCell ?_ ?_) <;> first | (intro _ _ h; exact h) | (intro _ _ h; exact h.elim) | (intro i h1 h2; exfalso; (try simp only at h2); omega) | (left; rfl) | (right; dsimp only; omega) | (right; omega))⟩
theorem hits_spec (b : Nat) (s : TS) (x : Int) (w : World) (hb : TBlk w b s) :
    Calls Try.prog 79 #[.pointer (some ⟨b, 0, none⟩), .int .u32 x] w fun e w' => e = .returned (.tuple #[]) ∧ TBlk w' b { s with h := 0 } ∧ Upd (fun i => i = b) w w' := by
  have HB := Lib.hid hb
  have c0 : w.cell? ⟨b, 3, none⟩ = some (.int .u32 s.h) := hb.cell 3 rfl
  have f0 : w.frozen? ⟨b, 3, none⟩ = false := hb.frozen 3
  clear hb
  go_enter Try.func79, Try.ntmps79
  go_wp2
  go_end0
  exact ⟨rfl, Blk.set HB.out.blk, by ((with_reducible repeat' first | exact Upd.refl _ _ | apply Upd.drew | apply Upd.drewN | apply Upd.alloc | refine Upd.setCell ?_ ?_) <;> first | (intro _ _ h; exact h) | (intro _ _ h; exact h.elim) | (intro i h1 h2; exfalso; (try simp only at h2); omega) | (left; rfl) | (right; dsimp only; omega) | (right; omega))⟩

/-- The function that the registers' map has for a register. -/
def fOf (b : Nat) (r : Int) : Value :=
  if r = 0 then .func (.func 76) #[.pointer (some ⟨b, 0, none⟩)] #[] else if r = 1 then .func (.func 77) #[.pointer (some ⟨b, 0, none⟩)] #[]
  else if r = 2 then .func (.func 78) #[.pointer (some ⟨b, 0, none⟩)] #[] else if r = 3 then .func (.func 79) #[.pointer (some ⟨b, 0, none⟩)] #[] else .nilFunc
def TS.write (s : TS) (r x : Int) : TS := if r = 0 then { s with c := x } else if r = 1 then { s with l := x } else if r = 2 then { s with k := x % 8 } else if r = 3 then { s with h := 0 } else s
theorem TS.write_ok {s : TS} (h : s.ok) (r : Int) {x : Int} (hx : 0 ≤ x ∧ x ≤ 4294967295) : (s.write r x).ok := by
  unfold TS.write
  split
  · exact ⟨hx, h.l, h.k, h.h⟩
  split
  · exact ⟨h.c, hx, h.k, h.h⟩
  split
  · exact ⟨h.c, h.l, by dsimp only; omega, h.h⟩
  split
  · exact ⟨h.c, h.l, h.k, by dsimp only; omega⟩
  exact h
theorem look_one (k i : Int) (v z : Value) : (IM.none.ins k v).look i z = if k = i then v else z := IM.look_ins IM.none k i v z (IM.has_none k)
theorem five (r : Int) : r = 0 ∨ r = 1 ∨ r = 2 ∨ r = 3 ∨ (¬ 0 = r ∧ ¬ 1 = r ∧ ¬ 2 = r ∧ ¬ 3 = r ∧ ¬ r = 0 ∧ ¬ r = 1 ∧ ¬ r = 2 ∧ ¬ r = 3) := by omega

set_option maxRecDepth 100000 in
set_option maxHeartbeats 16000000 in
theorem write_spec (b : Nat) (s : TS) (r x : Int) (hx : 0 ≤ x ∧ x ≤ 4294967295) (w : World) (hb : TBlk w b s) :
    Calls Try.prog 36 #[.pointer (some ⟨b, 0, none⟩), .int .i64 r, .int .u32 x] w fun e w' => e = .returned (.tuple #[]) ∧ TBlk w' b (s.write r x) ∧ Upd (fun i => i = b) w w' := by
  have HB := Lib.hid hb
  have H := Lib.hid hx
  have hlt := hb.lt
  clear hb hx
  have hm0 := run_make_mw w
  have hm1 : (Instr.makeMap 140 .none).run Try.prog w.drew = .ok (.map (some w.heap.size)) (MW w IM.none 1) := rfl
  have hin := fun m j k v h => run_insert_mw w m j k v h
  have hdr := fun m j => MW_drew w m j
  have hn0 := fun k => IM.has_none k
  have hn1 := fun m k v i => IM.has_ins m k v i
  go_enter Try.func36, Try.ntmps36
  go_upto_region 1 with (go_at_call 63; refine (there_spec b s _ HB.out).mono ?_; rintro e w1 ⟨rfl, rfl⟩)
  go_cut [6] (fun s6 wx => s6 = .map (some w.heap.size) ∧ ∃ m j, wx = MW w m j ∧ m.look r .nilFunc = fOf b r)
  case first =>
    go_region
    all_goals
      go_wp2_with fail
      go_meet
      refine ⟨rfl, _, _, rfl, ?_⟩
      clear hm0 hm1 hin hdr hn0 hn1
      unfold fOf
      rcases five r with rfl | rfl | rfl | rfl | ⟨g0, g1, g2, g3, h0, h1, h2, h3⟩
      all_goals simp [look_one, IM.look_ins, IM.has_ins, IM.has_none, *]
  case rest =>
    obtain ⟨rfl, m, j, rfl, hl⟩ := hcut
    have hlk := run_lookup_mw w m j r
    rw [hl] at hlk
    clear hm0 hm1 hin hdr hn0 hn1 hl
    have HB2 := Lib.hid (TBlk.upd (Upd.mw w m j) HB.out id)
    have hq0 := nil_no
    have hq1 := nil_is
    unfold fOf at hlk
    rcases five r with rfl | rfl | rfl | rfl | ⟨-, -, -, -, h0, h1, h2, h3⟩
    · go_wp2_with fail
      refine (count_spec b s x _ HB2.out).mono ?_
      rintro e w2 ⟨rfl, hb2, U2⟩
      go_wp2_with fail
      go_end0
      exact ⟨rfl, hb2, Upd.call U2 ((Upd.mw w m j).mono (fun _ _ h => h.elim)) (fun _ _ h => h)⟩
    · go_wp2_with fail
      refine (limit_spec b s x _ HB2.out).mono ?_
      rintro e w2 ⟨rfl, hb2, U2⟩
      go_wp2_with fail
      go_end0
      exact ⟨rfl, hb2, Upd.call U2 ((Upd.mw w m j).mono (fun _ _ h => h.elim)) (fun _ _ h => h)⟩
    · go_wp2_with fail
      refine (ctrl_spec b s x H.out _ HB2.out).mono ?_
      rintro e w2 ⟨rfl, hb2, U2⟩
      go_wp2_with fail
      go_end0
      exact ⟨rfl, hb2, Upd.call U2 ((Upd.mw w m j).mono (fun _ _ h => h.elim)) (fun _ _ h => h)⟩
    · go_wp2_with fail
      refine (hits_spec b s x _ HB2.out).mono ?_
      rintro e w2 ⟨rfl, hb2, U2⟩
      go_wp2_with fail
      go_end0
      exact ⟨rfl, hb2, Upd.call U2 ((Upd.mw w m j).mono (fun _ _ h => h.elim)) (fun _ _ h => h)⟩
    · rw [if_neg h0, if_neg h1, if_neg h2, if_neg h3] at hlk
      have hw : s.write r x = s := by unfold TS.write; rw [if_neg h0, if_neg h1, if_neg h2, if_neg h3]
      go_wp2_with fail
      go_end0
      exact ⟨rfl, by rw [hw]; exact HB2.out, (Upd.mw w m j).mono (fun _ _ h => h.elim)⟩
end Go.Proofs.Ytmblplhehbdocaa
