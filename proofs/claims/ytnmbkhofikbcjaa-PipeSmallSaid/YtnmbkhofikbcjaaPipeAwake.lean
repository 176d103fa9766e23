/- The chapter's example: awake returns true. No condition. -/
import Derived.Test.YtnmbkhofikbcjaaPipeAll
namespace Go.Proofs.Ytnmbkhofikbcjaa
open Go.RowKit

theorem a_spec (w : World) : Calls Try.prog 44 #[] w fun e w' => e = .returned (.agg #[.int .i64 1, .int .u32 5, .int .i64 0]) ∧ w' = w.alloc (.cells #[.int .i64 1, .int .u32 5, .int .i64 0] 33) := by
  go_enter Try.func44, Try.ntmps44
  go_wp2
  refine bodyPost_ret (v := .agg #[.int .i64 1, .int .u32 5, .int .i64 0]) (by simp only [results, Try.results44]; go_simp) rfl ⟨rfl, rfl⟩
theorem b_spec (w : World) : Calls Try.prog 45 #[] w fun e w' => e = .returned (.agg #[.int .i64 2, .int .u32 0, .int .i64 10]) ∧ w' = w.alloc (.cells #[.int .i64 2, .int .u32 0, .int .i64 10] 33) := by
  go_enter Try.func45, Try.ntmps45
  go_wp2
  refine bodyPost_ret (v := .agg #[.int .i64 2, .int .u32 0, .int .i64 10]) (by simp only [results, Try.results45]; go_simp) rfl ⟨rfl, rfl⟩

def s0 : PS := PS.fresh 2
def s1 : PS := s0.tick
def s2 : PS := s1.puts 1 5 0
def s3 : PS := s2.tick
def s4 : PS := s3.puts 2 0 10
def s5 : PS := s4.tick
def s6 : PS := s5.tick
def s7 : PS := s6.tick
theorem ok0 : s0.ok := ⟨by decide, by decide, by decide⟩
theorem ok1 : s1.ok := ⟨by decide, by decide, by decide⟩
theorem ok2 : s2.ok := ⟨by decide, by decide, by decide⟩
theorem ok3 : s3.ok := ⟨by decide, by decide, by decide⟩
theorem ok4 : s4.ok := ⟨by decide, by decide, by decide⟩
theorem ok5 : s5.ok := ⟨by decide, by decide, by decide⟩
theorem ok6 : s6.ok := ⟨by decide, by decide, by decide⟩

/-- Tick at a pipe of which it is known what comes out. -/
theorem tick_at (s s' : PS) (hs : s.ok) (h' : s.tick = s') (is : Bool) (wo va er : Int) (hc : s.cells s.next = ⟨is, wo, va, er⟩) (b : Nat) (w : World) (hb : Blk w b s.enc 96) :
    Calls Try.prog 16 #[.pointer (some ⟨b, 0, none⟩)] w fun e w' =>
      e = .returned (.tuple #[.agg #[.int .i64 wo, .int .u32 va, .int .i64 er], .bool is]) ∧ Blk w' b s'.enc 96 ∧ Upd (fun i => i = b) w w' := by
  refine (tick_spec s hs b w hb).mono ?_
  rintro e w' ⟨rfl, h1, h2⟩
  rw [hc, ← h']
  exact ⟨rfl, h1, h2⟩

set_option maxRecDepth 100000 in
set_option maxHeartbeats 4000000 in
theorem awake18 (w : World) : Calls Try.prog 13 #[] w fun e w' => e = .returned (.bool true) ∧ Upd Non w w' := by
  go_enter Try.func13, Try.ntmps13
  go_wp2_with fail
  refine (new_spec 2 (by decide) (by decide) _).mono ?_
  rintro e w1 ⟨rfl, hw1⟩
  have hb : Blk w1 w.heap.size s0.enc 96 := hw1 ▸ Blk.new w _ _
  have hU : Upd Non w w1 := hw1 ▸ (Upd.refl _ _).alloc
  clear hw1
  obtain ⟨b, hbb⟩ : ∃ b, b = w.heap.size := ⟨_, rfl⟩
  rw [← hbb] at hb ⊢
  have hbw : w.heap.size ≤ b := by omega
  clear hbb
  have HB := Lib.hid hb; clear hb
  have HU := Lib.hid hU; clear hU
  go_wp2_with (go_at_call 44; refine (a_spec _).mono ?_; rintro e w2 ⟨rfl, rfl⟩)
  refine (put_early s0 ok0 rfl b 1 5 0 _ (by ((with_reducible repeat' first | apply Blk.drew | apply Blk.drewN | apply Blk.alloc | apply Blk.set | refine Blk.set_ne ?_ ?_) <;> first | with_reducible exact HB.out | omega | (dsimp only; omega)))).mono ?_
  rintro e w2 ⟨rfl, hU2⟩
  have HB2 := Lib.hid (Blk.upd hU2 (by ((with_reducible repeat' first | apply Blk.drew | apply Blk.drewN | apply Blk.alloc | apply Blk.set | refine Blk.set_ne ?_ ?_) <;> first | with_reducible exact HB.out | omega | (dsimp only; omega)) : Blk _ b s0.enc 96) id)
  have HU2 := Lib.hid (by ((with_reducible repeat' first | exact Upd.refl _ _ | apply Upd.drew | apply Upd.drewN | apply Upd.alloc | refine Upd.setCell ?_ ?_ | refine Upd.call hU2 ?_ ?_ | refine Upd.call HU.out ?_ ?_) <;> first | (intro _ _ h; exact h) | (intro _ _ h; exact h.elim) | (intro i h1 h2; exfalso; (try simp only at h2); omega) | (left; rfl) | (right; dsimp only; omega) | (right; omega)) : Upd Non w w2)
  clear hU2
  go_wp2_with fail
  refine (tick_at s0 s1 ok0 rfl false 0 0 0 rfl b _ HB2.out).mono ?_
  rintro e w3 ⟨rfl, hb3, hU3⟩
  have HB3 := Lib.hid hb3; clear hb3
  have HU3 := Lib.hid (by ((with_reducible repeat' first | exact Upd.refl _ _ | apply Upd.drew | apply Upd.drewN | apply Upd.alloc | refine Upd.setCell ?_ ?_ | refine Upd.call hU3 ?_ ?_ | refine Upd.call HU2.out ?_ ?_) <;> first | (intro _ _ h; exact h) | (intro _ _ h; exact h.elim) | (intro i h1 h2; exfalso; (try simp only at h2); omega) | (left; rfl) | (right; dsimp only; omega) | (right; omega)) : Upd Non w w3)
  have hs3 := hU3.size
  clear hU3
  go_wp2_with (go_at_call 44; refine (a_spec _).mono ?_; rintro e w4 ⟨rfl, rfl⟩)
  refine (put_ok s1 ok1 rfl rfl b 1 5 0 _ (by ((with_reducible repeat' first | apply Blk.drew | apply Blk.drewN | apply Blk.alloc | apply Blk.set | refine Blk.set_ne ?_ ?_) <;> first | with_reducible exact HB3.out | omega | (dsimp only; omega)))).mono ?_
  rintro e w4 ⟨rfl, hb4, hU4⟩
  have HB4 := Lib.hid (show Blk w4 b s2.enc 96 from hb4); clear hb4
  have HU4 := Lib.hid (by ((with_reducible repeat' first | exact Upd.refl _ _ | apply Upd.drew | apply Upd.drewN | apply Upd.alloc | refine Upd.setCell ?_ ?_ | refine Upd.call hU4 ?_ ?_ | refine Upd.call HU3.out ?_ ?_) <;> first | (intro _ _ h; exact h) | (intro _ _ h; exact h.elim) | (intro i h1 h2; exfalso; (try simp only at h2); omega) | (left; rfl) | (right; dsimp only; omega) | (right; omega)) : Upd Non w w4)
  have hs4 := hU4.size
  clear hU4
  go_wp2_with fail
  refine (tick_at s2 s3 ok2 rfl false 0 0 0 rfl b _ (by ((with_reducible repeat' first | apply Blk.drew | apply Blk.drewN | apply Blk.alloc | apply Blk.set | refine Blk.set_ne ?_ ?_) <;> first | with_reducible exact HB4.out | omega | (dsimp only; omega)))).mono ?_
  rintro e w5 ⟨rfl, hb5, hU5⟩
  have HB5 := Lib.hid hb5; clear hb5
  have HU5 := Lib.hid (by ((with_reducible repeat' first | exact Upd.refl _ _ | apply Upd.drew | apply Upd.drewN | apply Upd.alloc | refine Upd.setCell ?_ ?_ | refine Upd.call hU5 ?_ ?_ | refine Upd.call HU4.out ?_ ?_) <;> first | (intro _ _ h; exact h) | (intro _ _ h; exact h.elim) | (intro i h1 h2; exfalso; (try simp only at h2); omega) | (left; rfl) | (right; dsimp only; omega) | (right; omega)) : Upd Non w w5)
  have hs5 := hU5.size
  clear hU5
  go_wp2_with (go_at_call 45; refine (b_spec _).mono ?_; rintro e w6 ⟨rfl, rfl⟩)
  refine (put_ok s3 ok3 rfl rfl b 2 0 10 _ (by ((with_reducible repeat' first | apply Blk.drew | apply Blk.drewN | apply Blk.alloc | apply Blk.set | refine Blk.set_ne ?_ ?_) <;> first | with_reducible exact HB5.out | omega | (dsimp only; omega)))).mono ?_
  rintro e w6 ⟨rfl, hb6, hU6⟩
  have HB6 := Lib.hid (show Blk w6 b s4.enc 96 from hb6); clear hb6
  have HU6 := Lib.hid (by ((with_reducible repeat' first | exact Upd.refl _ _ | apply Upd.drew | apply Upd.drewN | apply Upd.alloc | refine Upd.setCell ?_ ?_ | refine Upd.call hU6 ?_ ?_ | refine Upd.call HU5.out ?_ ?_) <;> first | (intro _ _ h; exact h) | (intro _ _ h; exact h.elim) | (intro i h1 h2; exfalso; (try simp only at h2); omega) | (left; rfl) | (right; dsimp only; omega) | (right; omega)) : Upd Non w w6)
  have hs6 := hU6.size
  clear hU6
  go_wp2_with fail
  refine (tick_at s4 s5 ok4 rfl true 1 5 0 rfl b _ (by ((with_reducible repeat' first | apply Blk.drew | apply Blk.drewN | apply Blk.alloc | apply Blk.set | refine Blk.set_ne ?_ ?_) <;> first | with_reducible exact HB6.out | omega | (dsimp only; omega)))).mono ?_
  rintro e w7 ⟨rfl, hb7, hU7⟩
  have HB7 := Lib.hid hb7; clear hb7
  have HU7 := Lib.hid (by ((with_reducible repeat' first | exact Upd.refl _ _ | apply Upd.drew | apply Upd.drewN | apply Upd.alloc | refine Upd.setCell ?_ ?_ | refine Upd.call hU7 ?_ ?_ | refine Upd.call HU6.out ?_ ?_) <;> first | (intro _ _ h; exact h) | (intro _ _ h; exact h.elim) | (intro i h1 h2; exfalso; (try simp only at h2); omega) | (left; rfl) | (right; dsimp only; omega) | (right; omega)) : Upd Non w w7)
  have hs7 := hU7.size
  clear hU7
  have hl7 := HB7.out.lt
  go_wp2_with fail
  refine (tick_at s5 s6 ok5 rfl true 2 0 10 rfl b _ (by ((with_reducible repeat' first | apply Blk.drew | apply Blk.drewN | apply Blk.alloc | apply Blk.set | refine Blk.set_ne ?_ ?_) <;> first | with_reducible exact HB7.out | omega | (dsimp only; omega)))).mono ?_
  rintro e w8 ⟨rfl, hb8, hU8⟩
  have HB8 := Lib.hid hb8; clear hb8
  have HU8 := Lib.hid (by ((with_reducible repeat' first | exact Upd.refl _ _ | apply Upd.drew | apply Upd.drewN | apply Upd.alloc | refine Upd.setCell ?_ ?_ | refine Upd.call hU8 ?_ ?_ | refine Upd.call HU7.out ?_ ?_) <;> first | (intro _ _ h; exact h) | (intro _ _ h; exact h.elim) | (intro i h1 h2; exfalso; (try simp only at h2); omega) | (left; rfl) | (right; dsimp only; omega) | (right; omega)) : Upd Non w w8)
  have hx8 : Blk w8 w7.heap.size #[.int .i64 1, .int .u32 5, .int .i64 0] 33 := Blk.upd hU8 (by ((with_reducible repeat' first | apply Blk.new | (refine Blk.newAt ?_; (simp; done)) | apply Blk.drew | apply Blk.drewN | apply Blk.alloc | apply Blk.set | refine Blk.set_ne ?_ ?_) <;> first | omega | (dsimp only; omega))) (by omega)
  have hs8 := hU8.size
  have hl8 := HB8.out.lt
  simp only [World.size_alloc] at hs8
  clear hU8
  go_wp2_with fail
  refine (tick_at s6 s7 ok6 rfl false 0 0 0 rfl b _ (by ((with_reducible repeat' first | apply Blk.drew | apply Blk.drewN | apply Blk.alloc | apply Blk.set | refine Blk.set_ne ?_ ?_) <;> first | with_reducible exact HB8.out | omega | (dsimp only; omega)))).mono ?_
  rintro e w9 ⟨rfl, hb9, hU9⟩
  clear hb9
  have HU9 := Lib.hid (by ((with_reducible repeat' first | exact Upd.refl _ _ | apply Upd.drew | apply Upd.drewN | apply Upd.alloc | refine Upd.setCell ?_ ?_ | refine Upd.call hU9 ?_ ?_ | refine Upd.call HU8.out ?_ ?_) <;> first | (intro _ _ h; exact h) | (intro _ _ h; exact h.elim) | (intro i h1 h2; exfalso; (try simp only at h2); omega) | (left; rfl) | (right; dsimp only; omega) | (right; omega)) : Upd Non w w9)
  have hx9 : Blk w9 w7.heap.size #[.int .i64 1, .int .u32 5, .int .i64 0] 33 := Blk.upd hU9 (by ((with_reducible repeat' first | apply Blk.drew | apply Blk.drewN | apply Blk.alloc | apply Blk.set | refine Blk.set_ne ?_ ?_) <;> first | with_reducible exact hx8 | omega | (dsimp only; omega))) (by omega)
  have hy9 : Blk w9 w8.heap.size #[.int .i64 2, .int .u32 0, .int .i64 10] 33 := Blk.upd hU9 (by ((with_reducible repeat' first | apply Blk.new | (refine Blk.newAt ?_; (simp; done)) | apply Blk.drew | apply Blk.drewN | apply Blk.alloc | apply Blk.set | refine Blk.set_ne ?_ ?_) <;> first | omega | (dsimp only; omega))) (by omega)
  have hs9 := hU9.size
  simp only [World.size_alloc] at hs9
  clear hU9
  have x0 : w9.cell? ⟨w7.heap.size, 0, none⟩ = some (.int .i64 1) := hx9.cell 0 rfl
  have x1 : w9.cell? ⟨w7.heap.size, 1, none⟩ = some (.int .u32 5) := hx9.cell 1 rfl
  have x2 : w9.cell? ⟨w7.heap.size, 2, none⟩ = some (.int .i64 0) := hx9.cell 2 rfl
  have y0 : w9.cell? ⟨w8.heap.size, 0, none⟩ = some (.int .i64 2) := hy9.cell 0 rfl
  have y1 : w9.cell? ⟨w8.heap.size, 1, none⟩ = some (.int .u32 0) := hy9.cell 1 rfl
  have y2 : w9.cell? ⟨w8.heap.size, 2, none⟩ = some (.int .i64 10) := hy9.cell 2 rfl
  clear hx9 hy9 hx8
  go_wp2_with fail
  go_region_held3 (fun w' => w'.cell? ⟨w7.heap.size, 0, none⟩ = some (.int .i64 1) ∧ w'.cell? ⟨w7.heap.size, 1, none⟩ = some (.int .u32 5) ∧ w'.cell? ⟨w7.heap.size, 2, none⟩ = some (.int .i64 0) ∧ w'.cell? ⟨w8.heap.size, 0, none⟩ = some (.int .i64 2) ∧ w'.cell? ⟨w8.heap.size, 1, none⟩ = some (.int .u32 0) ∧ w'.cell? ⟨w8.heap.size, 2, none⟩ = some (.int .i64 10)) ((refine ⟨?_, ?_, ?_, ?_, ?_, ?_⟩ <;> (simp (disch := ((try simp only [World.size_alloc]); omega)) only [World.cell?_drew, World.cell?_alloc_past]; assumption))) (first | (go_at_call 44; refine (a_spec _).mono ?_; rintro e w10 ⟨rfl, rfl⟩) | (go_at_call 45; refine (b_spec _).mono ?_; rintro e w10 ⟨rfl, rfl⟩))
  all_goals
    go_wp2
    go_ret
    exact ⟨rfl, by ((with_reducible repeat' first | exact Upd.refl _ _ | apply Upd.drew | apply Upd.drewN | apply Upd.alloc | refine Upd.setCell ?_ ?_ | refine Upd.call HU9.out ?_ ?_) <;> first | (intro _ _ h; exact h) | (intro _ _ h; exact h.elim) | (intro i h1 h2; exfalso; (try simp only at h2); omega) | (left; rfl) | (right; dsimp only; omega) | (right; omega))⟩
end Go.Proofs.Ytnmbkhofikbcjaa
