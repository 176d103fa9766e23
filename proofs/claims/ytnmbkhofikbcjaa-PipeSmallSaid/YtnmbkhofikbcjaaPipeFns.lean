/- Contracts of the pipe's functions. Conditions: the pipe's block is known whole, its latency is 1 to 16. -/
import Derived.Test.YtnmbkhofikbcjaaProg
import Derived.Test.YtnmbkhofikbcjaaPipeModel
namespace Go.Proofs.Ytnmbkhofikbcjaa
open Go.RowKit

theorem made_spec (s : PS) (hs : s.ok) (b : Nat) (w : World) (hb : Blk w b s.enc 96) :
    Calls Try.prog 46 #[.pointer (some ⟨b, 0, none⟩)] w fun e w' => e = .returned (.bool true) ∧ w = w' := by
  have h1 := hb.cell 64 (PS.enc_lat s)
  have h0 := hs.pos
  have hl := hs.le
  clear hb
  go_enter Try.func46, Try.ntmps46
  go_wp2
  go_ret
  exact ⟨rfl, rfl⟩

theorem on_spec (s : PS) (hs : s.ok) (b : Nat) (w : World) (hb : Blk w b s.enc 96) :
    Calls Try.prog 47 #[.pointer (some ⟨b, 0, none⟩)] w fun e w' =>
      e = .returned (.agg #[.bool (s.cells s.next).is, .int .i64 (s.cells s.next).wo, .int .u32 (s.cells s.next).va, .int .i64 (s.cells s.next).er]) ∧ Blk w' b s.on.enc 96 ∧ Upd (fun i => i = b) w w' := by
  obtain ⟨k, hk⟩ : ∃ k, k = s.next := ⟨_, rfl⟩
  have hk16 : k < 16 := hk ▸ PS.next_lt16 hs
  obtain ⟨h0, hl, ht⟩ := hs
  have hbl := hb.lt
  have h1 := hb.cell 64 (PS.enc_lat s)
  have h2 := hb.cell 65 (PS.enc_now s)
  have f65 := hb.frozen 65
  obtain ⟨e0, e1, e2, e3⟩ := PS.enc_cell s k hk16
  have c0 := hb.cell _ e0
  have c1 := hb.cell _ e1
  have c2 := hb.cell _ e2
  have c3 := hb.cell _ e3
  have fk0 := hb.frozen (k * 4)
  have fk1 := hb.frozen (k * 4 + 1)
  have fk2 := hb.frozen (k * 4 + 2)
  have fk3 := hb.frozen (k * 4 + 3)
  have n0 : ¬ 65 = k * 4 := by omega
  have n1 : ¬ 65 = k * 4 + 1 := by omega
  have n2 : ¬ 65 = k * 4 + 2 := by omega
  have n3 : ¬ 65 = k * 4 + 3 := by omega
  clear e0 e1 e2 e3
  have HB := Lib.hid hb; clear hb
  have hsum : IntKind.i64.wrap ((s.now : Int) + 1) = (s.now : Int) + 1 := IntWalk.i64_in _ (by omega)
  have hq : ((s.now : Int) + 1).tmod s.lat = k := by
    rw [Int.tmod_eq_emod_of_nonneg (by omega), hk]; unfold PS.next; push_cast; rfl
  have hl0 : ¬ (s.lat : Int) = 0 := by omega
  have hs2 : IntKind.i64.wrap (k : Int) = (k : Int) := IntWalk.i64_in _ (by omega)
  have HK := Lib.hid hk; clear hk
  go_enter Try.func47, Try.ntmps47
  go_wp2
  go_region
  go_wp2
  go_region
  go_wp2
  go_region
  go_wp2
  refine bodyPost_ret (v := .agg #[.bool (s.cells k).is, .int .i64 (s.cells k).wo, .int .u32 (s.cells k).va, .int .i64 (s.cells k).er]) (by simp [results, Try.results47, go_sem]) rfl ⟨by rw [HK.out], ?_, ?_⟩
  · refine Blk.eq (c := ((((s.enc.setIfInBounds 65 (.int .i64 k)).setIfInBounds (k * 4) (.bool false)).setIfInBounds (k * 4 + 1) (.int .i64 0)).setIfInBounds (k * 4 + 2) (.int .u32 0)).setIfInBounds (k * 4 + 3) (.int .i64 0)) ?_ ?_
    · with_reducible repeat' first | apply Blk.drew | apply Blk.drewN | apply Blk.alloc | apply Blk.set | refine Blk.set_ne ?_ ?_
      exact HB.out
    · rw [PS.set_now]; exact (PS.set_cell { s with now := k } k hk16 PC.no).trans (by rw [HK.out]; rfl)
  · with_reducible repeat' first | exact Upd.refl _ _ | apply Upd.drew | apply Upd.drewN | apply Upd.alloc | refine Upd.setCell ?_ ?_
    all_goals first | (left; rfl) | (right; dsimp only; omega)

/-- The address of a cell ahead. -/
def PS.at_ (s : PS) (n : Nat) : Nat := (s.now + n) % s.lat
theorem PS.at_lt {s : PS} (h : s.ok) (n : Nat) : s.at_ n < s.lat := Nat.mod_lt _ h.pos
theorem PS.at_lt16 {s : PS} (h : s.ok) (n : Nat) : s.at_ n < 16 := Nat.lt_of_lt_of_le (PS.at_lt h n) h.le

theorem ahead_spec (s : PS) (hs : s.ok) (b n : Nat) (hn : n ≤ 16) (w : World) (hb : Blk w b s.enc 96) :
    Calls Try.prog 48 #[.pointer (some ⟨b, 0, none⟩), .int .i64 n] w fun e w' => e = .returned (.pointer (some ⟨b, s.at_ n * 4, none⟩)) ∧ ∃ m, w' = w.drewN m := by
  obtain ⟨k, hk⟩ : ∃ k, k = s.at_ n := ⟨_, rfl⟩
  have hk16 : k < 16 := hk ▸ PS.at_lt16 hs n
  obtain ⟨h0, hl, ht⟩ := hs
  have h1 := hb.cell 64 (PS.enc_lat s)
  have h2 := hb.cell 65 (PS.enc_now s)
  have hsum : IntKind.i64.wrap ((s.now : Int) + n) = (s.now : Int) + n := IntWalk.i64_in _ (by omega)
  have hq : ((s.now : Int) + n).tmod s.lat = k := by
    rw [Int.tmod_eq_emod_of_nonneg (by omega), hk]; unfold PS.at_; push_cast; rfl
  have hl0 : ¬ (s.lat : Int) = 0 := by omega
  have hs2 : IntKind.i64.wrap (k : Int) = (k : Int) := IntWalk.i64_in _ (by omega)
  have HB := Lib.hid hb; clear hb
  have HK := Lib.hid hk; clear hk
  go_enter Try.func48, Try.ntmps48
  go_wp2
  go_quiet (fail)
  go_wp2
  go_ret
  exact ⟨by rw [HK.out]; rfl, nq, rfl⟩

/-- What Tick makes of a pipe. -/
def PS.tick (s : PS) : PS := { s.on with began := true }

set_option maxRecDepth 100000 in
theorem tick_spec (s : PS) (hs : s.ok) (b : Nat) (w : World) (hb : Blk w b s.enc 96) :
    Calls Try.prog 16 #[.pointer (some ⟨b, 0, none⟩)] w fun e w' =>
      e = .returned (.tuple #[.agg #[.int .i64 (s.cells s.next).wo, .int .u32 (s.cells s.next).va, .int .i64 (s.cells s.next).er], .bool (s.cells s.next).is]) ∧ Blk w' b s.tick.enc 96 ∧ Upd (fun i => i = b) w w' := by
  obtain ⟨h0, hl, ht⟩ := id hs
  have hbl := hb.lt
  have h1 := hb.cell 64 (PS.enc_lat s)
  have h6 := hb.cell 66 (PS.enc_began s)
  have f66 := hb.frozen 66
  have HB := Lib.hid hb; clear hb
  have HS := Lib.hid hs; clear hs
  go_enter Try.func16, Try.ntmps16
  go_wp2_with (go_at_call 46; refine (made_spec s HS.out b _ (by ((with_reducible repeat' first | apply Blk.drew | apply Blk.drewN | apply Blk.alloc | apply Blk.set | refine Blk.set_ne ?_ ?_) <;> first | with_reducible exact HB.out | omega | (dsimp only; omega)))).mono ?_; rintro e w1 ⟨rfl, rfl⟩)
  refine (on_spec { s with began := true } ⟨h0, hl, ht⟩ b _ ?_).mono ?_
  · rw [← PS.set_began]; ((with_reducible repeat' first | apply Blk.drew | apply Blk.drewN | apply Blk.alloc | apply Blk.set | refine Blk.set_ne ?_ ?_) <;> first | with_reducible exact HB.out | omega | (dsimp only; omega))
  rintro e w1 ⟨rfl, hb1, hU⟩
  have hne : w.heap.size ≠ b := by omega
  have hr : Blk w1 w.heap.size #[.int .i64 0, .int .u32 0, .int .i64 0] 33 := Blk.upd hU (by ((with_reducible repeat' first | apply Blk.new | (refine Blk.newAt ?_; (simp; done)) | apply Blk.drew | apply Blk.drewN | apply Blk.alloc | apply Blk.set | refine Blk.set_ne ?_ ?_) <;> first | omega | (dsimp only; omega))) hne
  have r0 : (w1).cell? ⟨w.heap.size, 0, none⟩ = some (.int .i64 0) := hr.cell 0 rfl; have rf0 : (w1).frozen? ⟨w.heap.size, 0, none⟩ = false := hr.frozen 0; have r1 : (w1).cell? ⟨w.heap.size, 1, none⟩ = some (.int .u32 0) := hr.cell 1 rfl; have rf1 : (w1).frozen? ⟨w.heap.size, 1, none⟩ = false := hr.frozen 1; have r2 : (w1).cell? ⟨w.heap.size, 2, none⟩ = some (.int .i64 0) := hr.cell 2 rfl; have rf2 : (w1).frozen? ⟨w.heap.size, 2, none⟩ = false := hr.frozen 2
  have hlt := hr.lt
  have HR := Lib.hid hr; clear hr
  have HB1 := Lib.hid hb1; clear hb1
  go_wp2_with fail
  go_region
  go_wp2
  refine bodyPost_ret (v := .tuple #[.agg #[.int .i64 (s.cells s.next).wo, .int .u32 (s.cells s.next).va, .int .i64 (s.cells s.next).er], .bool (s.cells s.next).is]) (by simp only [results, Try.results16]; go_simp; exact ⟨⟨rfl, rfl, rfl⟩, rfl⟩) rfl ⟨rfl, ?_, ?_⟩
  · refine Blk.eq (c := ({ s with began := true } : PS).on.enc) (by ((with_reducible repeat' first | apply Blk.drew | apply Blk.drewN | apply Blk.alloc | apply Blk.set | refine Blk.set_ne ?_ ?_) <;> first | with_reducible exact HB1.out | omega | (dsimp only; omega))) rfl
  · ((with_reducible repeat' first | exact Upd.refl _ _ | apply Upd.drew | apply Upd.drewN | apply Upd.alloc | refine Upd.setCell ?_ ?_ | refine Upd.call hU ?_ ?_) <;> first | (intro _ _ h; exact h) | (intro _ _ h; exact h.elim) | (intro i h1 h2; exfalso; (try simp only at h2); omega) | (left; rfl) | (right; dsimp only; omega) | (right; omega))

theorem zero96 (w : World) : (zeroValue 96).run Try.prog w = .ok (.agg (PS.fresh 0).enc) w := (zero_of_info (n := 67) (by kernel_rfl)).1 w

theorem new_spec (l : Nat) (h0 : 0 < l) (hl : l ≤ 16) (w : World) :
    Calls Try.prog 15 #[.int .i64 l] w fun e w' => e = .returned (.tuple #[.pointer (some ⟨w.heap.size, 0, none⟩), .int .i64 0]) ∧ w' = w.alloc (.cells (PS.fresh l).enc 96) := by
  have h1 : ¬ (l : Int) < 1 := by omega
  have h2 : ¬ (16 : Int) < l := by omega
  go_enter Try.func15, Try.ntmps15
  go_wp2
  go_ret2
  refine ⟨rfl, ?_⟩
  exact congrArg (fun c => w.alloc (Obj.cells c 96)) (by kernel_rfl)
theorem new_bad (l : Int) (h : l < 1 ∨ 16 < l) (w : World) :
    Calls Try.prog 15 #[.int .i64 l] w fun e w' => e = .returned (.tuple #[.pointer none, .int .i64 2]) ∧ w' = w := by
  rcases h with h | h
  · go_enter Try.func15, Try.ntmps15
    go_wp2
    go_ret2
    exact ⟨rfl, rfl⟩
  · have h1 : ¬ l < 1 := by omega
    go_enter Try.func15, Try.ntmps15
    go_wp2
    go_ret2
    exact ⟨rfl, rfl⟩

theorem copy_spec (s : PS) (hs : s.ok) (b : Nat) (w : World) (hb : Blk w b s.enc 96) :
    Calls Try.prog 34 #[.pointer (some ⟨b, 0, none⟩)] w fun e w' => e = .returned (.pointer (some ⟨w.heap.size, 0, none⟩)) ∧ w' = w.alloc (.cells s.enc 96) := by
  obtain ⟨h0, hl, ht⟩ := id hs
  have h1 := hb.cell 64 (PS.enc_lat s)
  have HB := Lib.hid hb; clear hb
  have HS := Lib.hid hs; clear hs
  have hz := zero96
  go_enter Try.func34, Try.ntmps34
  go_wp2_with (first | (go_at_call 46; refine (made_spec s HS.out b _ (by ((with_reducible repeat' first | apply Blk.drew | apply Blk.drewN | apply Blk.alloc | apply Blk.set | refine Blk.set_ne ?_ ?_) <;> first | with_reducible exact HB.out | omega | (dsimp only; omega)))).mono ?_; rintro e w1 ⟨rfl, rfl⟩) | (refine wpList_load_row rfl 96 _ rfl b rfl 96 s.enc (0, 0) _ HB.out Try.underlying96 rfl (by kernel_rfl) ?_) | (refine wpList_store_row rfl 96 _ _ rfl w.heap.size s.enc rfl rfl 96 (PS.fresh 0).enc (heap_alloc_new w _) (by kernel_rfl) rfl (PS.enc_one s) ?_; rw [World.setRow_alloc_new]))
  go_ret
  exact ⟨rfl, rfl⟩

theorem put_early (s : PS) (hs : s.ok) (hg : s.began = false) (b : Nat) (wo va er : Int) (w : World) (hb : Blk w b s.enc 96) :
    Calls Try.prog 17 #[.pointer (some ⟨b, 0, none⟩), .agg #[.int .i64 wo, .int .u32 va, .int .i64 er]] w fun e w' => e = .returned (.int .i64 9) ∧ Upd Non w w' := by
  obtain ⟨h0, hl, ht⟩ := hs
  have h1 := hb.cell 64 (PS.enc_lat s)
  have h6 := hb.cell 66 (PS.enc_began s)
  rw [hg] at h6
  have hbl := hb.lt
  have HB := Lib.hid hb; clear hb
  go_enter Try.func17, Try.ntmps17
  go_wp2
  go_ret
  exact ⟨rfl, by ((with_reducible repeat' first | exact Upd.refl _ _ | apply Upd.drew | apply Upd.drewN | apply Upd.alloc | refine Upd.setCell ?_ ?_) <;> first | (intro _ _ h; exact h) | (intro _ _ h; exact h.elim) | (intro i h1 h2; exfalso; (try simp only at h2); omega) | (left; rfl) | (right; dsimp only; omega) | (right; omega))⟩

theorem put_full (s : PS) (hs : s.ok) (hg : s.began = true) (hc : (s.cells s.now).is = true) (b : Nat) (wo va er : Int) (w : World) (hb : Blk w b s.enc 96) :
    Calls Try.prog 17 #[.pointer (some ⟨b, 0, none⟩), .agg #[.int .i64 wo, .int .u32 va, .int .i64 er]] w fun e w' => e = .returned (.int .i64 7) ∧ Upd Non w w' := by
  obtain ⟨h0, hl, ht⟩ := id hs
  have h1 := hb.cell 64 (PS.enc_lat s)
  have h6 := hb.cell 66 (PS.enc_began s)
  rw [hg] at h6
  have hbl := hb.lt
  obtain ⟨e0, e1, e2, e3⟩ := PS.enc_cell s s.now (by omega)
  have c0 := hb.cell _ e0
  rw [hc] at c0
  have c1 := hb.cell _ e1
  have c2 := hb.cell _ e2
  have c3 := hb.cell _ e3
  clear e0 e1 e2 e3
  have HB := Lib.hid hb; clear hb
  have HS := Lib.hid hs; clear hs
  have hat : s.at_ 0 = s.now := Nat.mod_eq_of_lt ht
  go_enter Try.func17, Try.ntmps17
  go_wp2_with (first | (go_at_call 46; refine (made_spec s HS.out b _ (by ((with_reducible repeat' first | apply Blk.drew | apply Blk.drewN | apply Blk.alloc | apply Blk.set | refine Blk.set_ne ?_ ?_) <;> first | with_reducible exact HB.out | omega | (dsimp only; omega)))).mono ?_; rintro e w1 ⟨rfl, rfl⟩) | (go_at_call 48; refine (ahead_spec s HS.out b 0 (by omega) _ (by ((with_reducible repeat' first | apply Blk.drew | apply Blk.drewN | apply Blk.alloc | apply Blk.set | refine Blk.set_ne ?_ ?_) <;> first | with_reducible exact HB.out | omega | (dsimp only; omega)))).mono ?_; rintro e w1 ⟨rfl, m, rfl⟩))
  go_ret
  exact ⟨rfl, by ((with_reducible repeat' first | exact Upd.refl _ _ | apply Upd.drew | apply Upd.drewN | apply Upd.alloc | refine Upd.setCell ?_ ?_) <;> first | (intro _ _ h; exact h) | (intro _ _ h; exact h.elim) | (intro i h1 h2; exfalso; (try simp only at h2); omega) | (left; rfl) | (right; dsimp only; omega) | (right; omega))⟩

/-- What Put makes of a pipe. -/
def PS.puts (s : PS) (wo va er : Int) : PS := s.put s.now ⟨true, wo, va, er⟩

set_option maxRecDepth 100000 in
theorem put_ok (s : PS) (hs : s.ok) (hg : s.began = true) (hc : s.cells s.now = PC.no) (b : Nat) (wo va er : Int) (w : World) (hb : Blk w b s.enc 96) :
    Calls Try.prog 17 #[.pointer (some ⟨b, 0, none⟩), .agg #[.int .i64 wo, .int .u32 va, .int .i64 er]] w fun e w' => e = .returned (.int .i64 0) ∧ Blk w' b (s.puts wo va er).enc 96 ∧ Upd (fun i => i = b) w w' := by
  obtain ⟨h0, hl, ht⟩ := id hs
  have h1 := hb.cell 64 (PS.enc_lat s)
  have h6 := hb.cell 66 (PS.enc_began s)
  rw [hg] at h6
  have hbl := hb.lt
  obtain ⟨e0, e1, e2, e3⟩ := PS.enc_cell s s.now (by omega)
  rw [hc] at e0 e1 e2 e3
  have c0 : w.cell? ⟨b, s.now * 4, none⟩ = some (.bool false) := hb.cell _ e0
  have c1 : w.cell? ⟨b, s.now * 4 + 1, none⟩ = some (.int .i64 0) := hb.cell _ e1
  have c2 : w.cell? ⟨b, s.now * 4 + 2, none⟩ = some (.int .u32 0) := hb.cell _ e2
  have c3 : w.cell? ⟨b, s.now * 4 + 3, none⟩ = some (.int .i64 0) := hb.cell _ e3
  have f0 := hb.frozen (s.now * 4)
  have f1 := hb.frozen (s.now * 4 + 1)
  have f2 := hb.frozen (s.now * 4 + 2)
  have f3 := hb.frozen (s.now * 4 + 3)
  clear e0 e1 e2 e3
  have HB := Lib.hid hb; clear hb
  have HS := Lib.hid hs; clear hs
  have hat : s.at_ 0 = s.now := Nat.mod_eq_of_lt ht
  go_enter Try.func17, Try.ntmps17
  go_wp2_with (first | (go_at_call 46; refine (made_spec s HS.out b _ (by ((with_reducible repeat' first | apply Blk.drew | apply Blk.drewN | apply Blk.alloc | apply Blk.set | refine Blk.set_ne ?_ ?_) <;> first | with_reducible exact HB.out | omega | (dsimp only; omega)))).mono ?_; rintro e w1 ⟨rfl, rfl⟩) | (go_at_call 48; refine (ahead_spec s HS.out b 0 (by omega) _ (by ((with_reducible repeat' first | apply Blk.drew | apply Blk.drewN | apply Blk.alloc | apply Blk.set | refine Blk.set_ne ?_ ?_) <;> first | with_reducible exact HB.out | omega | (dsimp only; omega)))).mono ?_; rintro e w1 ⟨rfl, m, rfl⟩))
  go_region_with (go_at_call 48; refine (ahead_spec s HS.out b 0 (by omega) _ (by ((with_reducible repeat' first | apply Blk.drew | apply Blk.drewN | apply Blk.alloc | apply Blk.set | refine Blk.set_ne ?_ ?_) <;> first | with_reducible exact HB.out | omega | (dsimp only; omega)))).mono ?_; rintro e w1 ⟨rfl, m, rfl⟩)
  all_goals
    go_wp2
    go_ret
    refine ⟨rfl, ?_, by ((with_reducible repeat' first | exact Upd.refl _ _ | apply Upd.drew | apply Upd.drewN | apply Upd.alloc | refine Upd.setCell ?_ ?_) <;> first | (intro _ _ h; exact h) | (intro _ _ h; exact h.elim) | (intro i h1 h2; exfalso; (try simp only at h2); omega) | (left; rfl) | (right; dsimp only; omega) | (right; omega))⟩
    refine Blk.eq (c := (((s.enc.setIfInBounds (s.now * 4) (.bool true)).setIfInBounds (s.now * 4 + 1) (.int .i64 wo)).setIfInBounds (s.now * 4 + 2) (.int .u32 va)).setIfInBounds (s.now * 4 + 3) (.int .i64 er)) (by ((with_reducible repeat' first | apply Blk.drew | apply Blk.drewN | apply Blk.alloc | apply Blk.set | refine Blk.set_ne ?_ ?_) <;> first | with_reducible exact HB.out | omega | (dsimp only; omega))) ?_
    exact PS.set_cell s s.now (by omega) ⟨true, wo, va, er⟩

/-- How many cycles from now on a cell comes that is full; 0: none. -/
def PS.idleFrom (s : PS) : Nat → Nat → Nat
  | 0, _ => 0
  | k + 1, n => if (s.cells (s.at_ n)).is then n else s.idleFrom k (n + 1)
def PS.idle (s : PS) : Nat := s.idleFrom s.lat 1
theorem PS.idleFrom_succ (s : PS) (k n : Nat) : s.idleFrom (k + 1) n = if (s.cells (s.at_ n)).is then n else s.idleFrom k (n + 1) := rfl

set_option maxRecDepth 100000 in
theorem idle_spec (s : PS) (hs : s.ok) (b : Nat) (w : World) (hb : Blk w b s.enc 96) :
    Calls Try.prog 30 #[.pointer (some ⟨b, 0, none⟩)] w fun e w' => e = .returned (.int .i64 s.idle) ∧ ∃ m, w' = w.drewN m := by
  obtain ⟨h0, hl, ht⟩ := id hs
  have h1 := hb.cell 64 (PS.enc_lat s)
  have HB := Lib.hid hb; clear hb
  have HS := Lib.hid hs; clear hs
  go_enter Try.func30, Try.ntmps30
  go_wp2_with (go_at_call 46; refine (made_spec s HS.out b _ (by ((with_reducible repeat' first | apply Blk.drew | apply Blk.drewN | apply Blk.alloc | apply Blk.set | refine Blk.set_ne ?_ ?_) <;> first | with_reducible exact HB.out | omega | (dsimp only; omega)))).mono ?_; rintro e w1 ⟨rfl, rfl⟩)
  go_loopw [3] (fun i wr => ∃ n m : Nat, 1 ≤ n ∧ n ≤ s.lat + 1 ∧ i = .int .i64 n ∧ Hid (s.idle = s.idleFrom (s.lat + 1 - n) n) ∧ wr = w.drewN m) (fun i _ => s.lat + 1 - (intOf i).toNat)
  case atStart => exact ⟨1, 0, by omega, by omega, rfl, rfl, rfl⟩
  case round =>
    obtain ⟨n, m, hn1, hn2, rfl, HI, rfl⟩ := hrel
    by_cases hlt : n ≤ s.lat
    · obtain ⟨e0, -, -, -⟩ := PS.enc_cell s (s.at_ n) (PS.at_lt16 HS.out n)
      have c0 : w.cell? ⟨b, s.at_ n * 4, none⟩ = some (.bool (s.cells (s.at_ n)).is) := HB.out.cell _ e0
      clear e0
      cases hc : (s.cells (s.at_ n)).is
      all_goals
        rw [hc] at c0
        have HC := Lib.hid hc; clear hc
        go_wp2_with (go_at_call 48; refine (ahead_spec s HS.out b n (by omega) _ (by ((with_reducible repeat' first | apply Blk.drew | apply Blk.drewN | apply Blk.alloc | apply Blk.set | refine Blk.set_ne ?_ ?_) <;> first | with_reducible exact HB.out | omega | (dsimp only; omega)))).mono ?_; rintro e w1 ⟨rfl, m2, rfl⟩)
      · go_roundw
        case rel => exact ⟨n + 1, m + m2, by omega, by omega, by go_num, by
          have h := HI.out
          rw [show s.lat + 1 - n = (s.lat + 1 - (n + 1)) + 1 by omega, PS.idleFrom_succ, HC.out] at h
          exact h, rfl⟩
        case measure => simp [intOf]; omega
      · go_ret
        refine ⟨?_, m + m2, rfl⟩
        have h := HI.out
        rw [show s.lat + 1 - n = (s.lat + 1 - (n + 1)) + 1 by omega, PS.idleFrom_succ, HC.out] at h
        rw [h]; rfl
    · go_wp2
      go_ret
      refine ⟨?_, m, rfl⟩
      have h := HI.out
      rw [show s.lat + 1 - n = 0 by omega] at h
      rw [h]; rfl
end Go.Proofs.Ytnmbkhofikbcjaa
