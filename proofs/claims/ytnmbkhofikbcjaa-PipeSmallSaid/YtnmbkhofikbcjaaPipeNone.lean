/- Contracts where there is no pipe, and the law's none. Conditions: as at each lemma. -/
import Derived.Test.YtnmbkhofikbcjaaPipeAwake
namespace Go.Proofs.Ytnmbkhofikbcjaa
open Go.RowKit

/-- No pipe: nil, or one that New has not made. -/
def NoPipe (w : World) (p : Value) : Prop := p = .pointer none ∨ ∃ b, p = .pointer (some ⟨b, 0, none⟩) ∧ w.cell? ⟨b, 64, none⟩ = some (.int .i64 0)
theorem NoPipe.upd {a b : World} {p : Value} (u : Upd Non a b) (h : NoPipe a p) : NoPipe b p := by
  rcases h with h | ⟨k, h, hc⟩
  · exact .inl h
  · exact .inr ⟨k, h, u.cell_eq id hc⟩
theorem made_none (p : Value) (w : World) (h : NoPipe w p) : Calls Try.prog 46 #[p] w fun e w' => e = .returned (.bool false) ∧ w = w' := by
  rcases h with rfl | ⟨b, rfl, hc⟩
  all_goals
    go_enter Try.func46, Try.ntmps46
    go_wp2
    go_ret
    exact ⟨rfl, rfl⟩
theorem tick_none (p : Value) (w : World) (h : NoPipe w p) :
    Calls Try.prog 16 #[p] w fun e w' => e = .returned (.tuple #[.agg #[.int .i64 0, .int .u32 0, .int .i64 0], .bool false]) ∧ Upd Non w w' := by
  have H := Lib.hid h
  clear h
  go_enter Try.func16, Try.ntmps16
  go_wp2_with fail
  refine (made_none p _ (NoPipe.upd (by ((with_reducible repeat' first | exact Upd.refl _ _ | apply Upd.drew | apply Upd.drewN | apply Upd.alloc | refine Upd.setCell ?_ ?_) <;> first | (intro _ _ h; exact h) | (intro _ _ h; exact h.elim) | (intro i h1 h2; exfalso; (try simp only at h2); omega) | (left; rfl) | (right; dsimp only; omega) | (right; omega))) H.out)).mono ?_
  rintro e w1 ⟨rfl, rfl⟩
  go_wp2_with fail
  refine bodyPost_ret (v := .tuple #[.agg #[.int .i64 0, .int .u32 0, .int .i64 0], .bool false]) (by simp only [results, Try.results16]; go_simp) rfl ⟨rfl, by ((with_reducible repeat' first | exact Upd.refl _ _ | apply Upd.drew | apply Upd.drewN | apply Upd.alloc | refine Upd.setCell ?_ ?_) <;> first | (intro _ _ h; exact h) | (intro _ _ h; exact h.elim) | (intro i h1 h2; exfalso; (try simp only at h2); omega) | (left; rfl) | (right; dsimp only; omega) | (right; omega))⟩
theorem put_none (p : Value) (wo va er : Int) (w : World) (h : NoPipe w p) :
    Calls Try.prog 17 #[p, .agg #[.int .i64 wo, .int .u32 va, .int .i64 er]] w fun e w' => e = .returned (.int .i64 1) ∧ Upd Non w w' := by
  have H := Lib.hid h
  clear h
  go_enter Try.func17, Try.ntmps17
  go_wp2_with fail
  refine (made_none p _ (NoPipe.upd (by ((with_reducible repeat' first | exact Upd.refl _ _ | apply Upd.drew | apply Upd.drewN | apply Upd.alloc | refine Upd.setCell ?_ ?_) <;> first | (intro _ _ h; exact h) | (intro _ _ h; exact h.elim) | (intro i h1 h2; exfalso; (try simp only at h2); omega) | (left; rfl) | (right; dsimp only; omega) | (right; omega))) H.out)).mono ?_
  rintro e w1 ⟨rfl, rfl⟩
  go_wp2_with fail
  go_ret
  exact ⟨rfl, by ((with_reducible repeat' first | exact Upd.refl _ _ | apply Upd.drew | apply Upd.drewN | apply Upd.alloc | refine Upd.setCell ?_ ?_) <;> first | (intro _ _ h; exact h) | (intro _ _ h; exact h.elim) | (intro i h1 h2; exfalso; (try simp only at h2); omega) | (left; rfl) | (right; dsimp only; omega) | (right; omega))⟩
theorem all_none (p : Value) (w : World) (h : NoPipe w p) :
    Calls Try.prog 55 #[p] w fun e w' => e = .returned (.slice none 0 0) ∧ Upd Non w w' := by
  have H := Lib.hid h
  clear h
  go_enter Try.func55, Try.ntmps55
  go_wp2_with fail
  refine (made_none p _ (NoPipe.upd (by ((with_reducible repeat' first | exact Upd.refl _ _ | apply Upd.drew | apply Upd.drewN | apply Upd.alloc | refine Upd.setCell ?_ ?_) <;> first | (intro _ _ h; exact h) | (intro _ _ h; exact h.elim) | (intro i h1 h2; exfalso; (try simp only at h2); omega) | (left; rfl) | (right; dsimp only; omega) | (right; omega))) H.out)).mono ?_
  rintro e w1 ⟨rfl, rfl⟩
  go_wp2_with fail
  go_ret
  exact ⟨rfl, by ((with_reducible repeat' first | exact Upd.refl _ _ | apply Upd.drew | apply Upd.drewN | apply Upd.alloc | refine Upd.setCell ?_ ?_) <;> first | (intro _ _ h; exact h) | (intro _ _ h; exact h.elim) | (intro i h1 h2; exfalso; (try simp only at h2); omega) | (left; rfl) | (right; dsimp only; omega) | (right; omega))⟩
theorem len_none (p : Value) (w : World) (h : NoPipe w p) :
    Calls Try.prog 29 #[p] w fun e w' => e = .returned (.int .i64 0) ∧ Upd Non w w' := by
  have H := Lib.hid h
  clear h
  go_enter Try.func29, Try.ntmps29
  go_wp2_with fail
  refine (all_none p _ H.out).mono ?_
  rintro e w1 ⟨rfl, U1⟩
  go_wp2_with fail
  go_ret
  exact ⟨rfl, by ((with_reducible repeat' first | exact Upd.refl _ _ | apply Upd.drew | apply Upd.drewN | apply Upd.alloc | refine Upd.setCell ?_ ?_ | refine Upd.call U1 ?_ ?_) <;> first | (intro _ _ h; exact h) | (intro _ _ h; exact h.elim) | (intro i h1 h2; exfalso; (try simp only at h2); omega) | (left; rfl) | (right; dsimp only; omega) | (right; omega))⟩
theorem idle_none (p : Value) (w : World) (h : NoPipe w p) :
    Calls Try.prog 30 #[p] w fun e w' => e = .returned (.int .i64 0) ∧ Upd Non w w' := by
  have H := Lib.hid h
  clear h
  go_enter Try.func30, Try.ntmps30
  go_wp2_with fail
  refine (made_none p _ (NoPipe.upd (by ((with_reducible repeat' first | exact Upd.refl _ _ | apply Upd.drew | apply Upd.drewN | apply Upd.alloc | refine Upd.setCell ?_ ?_) <;> first | (intro _ _ h; exact h) | (intro _ _ h; exact h.elim) | (intro i h1 h2; exfalso; (try simp only at h2); omega) | (left; rfl) | (right; dsimp only; omega) | (right; omega))) H.out)).mono ?_
  rintro e w1 ⟨rfl, rfl⟩
  go_wp2_with fail
  go_ret
  exact ⟨rfl, by ((with_reducible repeat' first | exact Upd.refl _ _ | apply Upd.drew | apply Upd.drewN | apply Upd.alloc | refine Upd.setCell ?_ ?_) <;> first | (intro _ _ h; exact h) | (intro _ _ h; exact h.elim) | (intro i h1 h2; exfalso; (try simp only at h2); omega) | (left; rfl) | (right; dsimp only; omega) | (right; omega))⟩
theorem copy_none (p : Value) (w : World) (h : NoPipe w p) :
    Calls Try.prog 34 #[p] w fun e w' => e = .returned (.pointer none) ∧ Upd Non w w' := by
  have H := Lib.hid h
  clear h
  go_enter Try.func34, Try.ntmps34
  go_wp2_with fail
  refine (made_none p _ (NoPipe.upd (by ((with_reducible repeat' first | exact Upd.refl _ _ | apply Upd.drew | apply Upd.drewN | apply Upd.alloc | refine Upd.setCell ?_ ?_) <;> first | (intro _ _ h; exact h) | (intro _ _ h; exact h.elim) | (intro i h1 h2; exfalso; (try simp only at h2); omega) | (left; rfl) | (right; dsimp only; omega) | (right; omega))) H.out)).mono ?_
  rintro e w1 ⟨rfl, rfl⟩
  go_wp2_with fail
  go_ret
  exact ⟨rfl, by ((with_reducible repeat' first | exact Upd.refl _ _ | apply Upd.drew | apply Upd.drewN | apply Upd.alloc | refine Upd.setCell ?_ ?_) <;> first | (intro _ _ h; exact h) | (intro _ _ h; exact h.elim) | (intro i h1 h2; exfalso; (try simp only at h2); omega) | (left; rfl) | (right; dsimp only; omega) | (right; omega))⟩

set_option maxRecDepth 100000 in
set_option maxHeartbeats 4000000 in
theorem none_law (w : World) : Calls Try.prog 36 #[] w fun e w' => e = .returned (.bool true) ∧ Upd Non w w' := by
  go_enter Try.func36, Try.ntmps36
  go_wp2_with fail
  obtain ⟨br, hbr⟩ : ∃ b, b = w.heap.size := ⟨_, rfl⟩
  rw [← hbr]
  have hn0 : ((w.alloc (Obj.cells Try.zeroCells96 96)).alloc (Obj.cells #[Value.pointer none, Value.pointer (some { block := br, off := 0 })] 25)).cell? ⟨br, 64, none⟩ = some (.int .i64 0) :=
    (Blk.alloc (hbr ▸ Blk.new w Try.zeroCells96 96)).cell 64 (by kernel_rfl)
  have hN0 := Lib.hid hn0
  have hB0 := Lib.hid (Blk.newAt (w := w.alloc (Obj.cells Try.zeroCells96 96)) (n := br + 1) (c := #[Value.pointer none, Value.pointer (some { block := br, off := 0 })]) (t := 25) (by rw [World.size_alloc, hbr]))
  have hU0 := Lib.hid (by ((with_reducible repeat' first | exact Upd.refl _ _ | apply Upd.drew | apply Upd.drewN | apply Upd.alloc | refine Upd.setCell ?_ ?_) <;> first | (intro _ _ h; exact h) | (intro _ _ h; exact h.elim) | (intro i h1 h2; exfalso; (try simp only at h2); omega) | (left; rfl) | (right; dsimp only; omega) | (right; omega)) : Upd Non w ((w.alloc (Obj.cells Try.zeroCells96 96)).alloc (Obj.cells #[Value.pointer none, Value.pointer (some { block := br, off := 0 })] 25)))
  clear hbr hn0
  go_loopw [2] (fun i wr => ∃ t : Nat, t ≤ 2 ∧ i = .int .i64 t ∧ Blk wr (br + 1) #[.pointer none, .pointer (some ⟨br, 0, none⟩)] 25 ∧ wr.cell? ⟨br, 64, none⟩ = some (.int .i64 0) ∧ Upd Non w wr) (fun i _ => 2 - (intOf i).toNat)
  case atStart => exact ⟨0, by omega, rfl, hB0.out, hN0.out, hU0.out⟩
  case round =>
    clear hB0 hU0 hN0
    obtain ⟨t, ht, rfl, hp, hn, hu⟩ := hrel
    have HB := Lib.hid hp
    have HN := Lib.hid hn
    have HU := Lib.hid hu
    clear hp hu hn
    by_cases hlt : t < 2
    case neg =>
      have k1 : ¬ (t : Int) < 2 := by omega
      go_wp2_with fail
      go_ret
      exact ⟨rfl, HU.out⟩
    have k1 : (t : Int) < 2 := by omega
    obtain ⟨p, hp, hn⟩ : ∃ p, (#[.pointer none, .pointer (some ⟨br, 0, none⟩)] : Array Value)[t]? = some p ∧ NoPipe wr p := by
      rcases (show t = 0 ∨ t = 1 by omega) with rfl | rfl
      · exact ⟨_, rfl, .inl rfl⟩
      · exact ⟨_, rfl, .inr ⟨br, rfl, HN.out⟩⟩
    have c1 := HB.out.cell t hp
    have HQ := Lib.hid hn
    clear hp hn
    go_wp2_with fail
    refine (tick_none p _ HQ.out).mono ?_
    rintro e w1 ⟨rfl, U1⟩
    have HQ1 := Lib.hid (HQ.out.upd U1)
    have HU1 := Lib.hid (by ((with_reducible repeat' first | exact Upd.refl _ _ | apply Upd.drew | apply Upd.drewN | apply Upd.alloc | refine Upd.setCell ?_ ?_ | refine Upd.call U1 ?_ ?_) <;> first | (intro _ _ h; exact h) | (intro _ _ h; exact h.elim) | (intro i h1 h2; exfalso; (try simp only at h2); omega) | (left; rfl) | (right; dsimp only; omega) | (right; omega)) : Upd Non wr w1)
    clear U1
    go_wp2_with fail
    refine (a_spec _).mono ?_
    rintro e w2 ⟨rfl, hw2⟩
    have hu2 : Upd Non wr w2 := by
      have h := HU1.out
      rw [hw2]
      ((with_reducible repeat' first | exact Upd.refl _ _ | apply Upd.drew | apply Upd.drewN | apply Upd.alloc | refine Upd.setCell ?_ ?_ | refine Upd.call h ?_ ?_) <;> first | (intro _ _ h; exact h) | (intro _ _ h; exact h.elim) | (intro i h1 h2; exfalso; (try simp only at h2); omega) | (left; rfl) | (right; dsimp only; omega) | (right; omega))
    have HU2 := Lib.hid hu2
    have HQ2 := Lib.hid (HQ.out.upd hu2)
    clear hw2 hu2
    go_wp2_with fail
    refine (put_none p 1 5 0 _ HQ2.out).mono ?_
    rintro e w3 ⟨rfl, U3⟩
    have HQ3 := Lib.hid (HQ2.out.upd U3)
    have HU3 := Lib.hid (by have h := HU2.out; ((with_reducible repeat' first | exact Upd.refl _ _ | apply Upd.drew | apply Upd.drewN | apply Upd.alloc | refine Upd.setCell ?_ ?_ | refine Upd.call U3 ?_ ?_ | refine Upd.call h ?_ ?_) <;> first | (intro _ _ h; exact h) | (intro _ _ h; exact h.elim) | (intro i h1 h2; exfalso; (try simp only at h2); omega) | (left; rfl) | (right; dsimp only; omega) | (right; omega)) : Upd Non wr w3)
    clear U3
    go_wp2_with fail
    refine (all_none p _ HQ3.out).mono ?_
    rintro e w4 ⟨rfl, U4⟩
    have HQ4 := Lib.hid (HQ3.out.upd U4)
    have HU4 := Lib.hid (by have h := HU3.out; ((with_reducible repeat' first | exact Upd.refl _ _ | apply Upd.drew | apply Upd.drewN | apply Upd.alloc | refine Upd.setCell ?_ ?_ | refine Upd.call U4 ?_ ?_ | refine Upd.call h ?_ ?_) <;> first | (intro _ _ h; exact h) | (intro _ _ h; exact h.elim) | (intro i h1 h2; exfalso; (try simp only at h2); omega) | (left; rfl) | (right; dsimp only; omega) | (right; omega)) : Upd Non wr w4)
    clear U4
    go_wp2_with fail
    refine (len_none p _ HQ4.out).mono ?_
    rintro e w5 ⟨rfl, U5⟩
    have HQ5 := Lib.hid (HQ4.out.upd U5)
    have HU5 := Lib.hid (by have h := HU4.out; ((with_reducible repeat' first | exact Upd.refl _ _ | apply Upd.drew | apply Upd.drewN | apply Upd.alloc | refine Upd.setCell ?_ ?_ | refine Upd.call U5 ?_ ?_ | refine Upd.call h ?_ ?_) <;> first | (intro _ _ h; exact h) | (intro _ _ h; exact h.elim) | (intro i h1 h2; exfalso; (try simp only at h2); omega) | (left; rfl) | (right; dsimp only; omega) | (right; omega)) : Upd Non wr w5)
    clear U5
    go_wp2_with fail
    refine (idle_none p _ HQ5.out).mono ?_
    rintro e w6 ⟨rfl, U6⟩
    have HQ6 := Lib.hid (HQ5.out.upd U6)
    have HU6 := Lib.hid (by have h := HU5.out; ((with_reducible repeat' first | exact Upd.refl _ _ | apply Upd.drew | apply Upd.drewN | apply Upd.alloc | refine Upd.setCell ?_ ?_ | refine Upd.call U6 ?_ ?_ | refine Upd.call h ?_ ?_) <;> first | (intro _ _ h; exact h) | (intro _ _ h; exact h.elim) | (intro i h1 h2; exfalso; (try simp only at h2); omega) | (left; rfl) | (right; dsimp only; omega) | (right; omega)) : Upd Non wr w6)
    clear U6
    go_wp2_with fail
    refine (copy_none p _ HQ6.out).mono ?_
    rintro e w7 ⟨rfl, U7⟩
    have HU7 := Lib.hid (by have h := HU6.out; ((with_reducible repeat' first | exact Upd.refl _ _ | apply Upd.drew | apply Upd.drewN | apply Upd.alloc | refine Upd.setCell ?_ ?_ | refine Upd.call U7 ?_ ?_ | refine Upd.call h ?_ ?_) <;> first | (intro _ _ h; exact h) | (intro _ _ h; exact h.elim) | (intro i h1 h2; exfalso; (try simp only at h2); omega) | (left; rfl) | (right; dsimp only; omega) | (right; omega)) : Upd Non wr w7)
    have HW7 := Lib.hid (by have h := HU6.out; have h2 := HU.out; ((with_reducible repeat' first | exact Upd.refl _ _ | apply Upd.drew | apply Upd.drewN | apply Upd.alloc | refine Upd.setCell ?_ ?_ | refine Upd.call U7 ?_ ?_ | refine Upd.call h ?_ ?_ | refine Upd.call h2 ?_ ?_) <;> first | (intro _ _ h; exact h) | (intro _ _ h; exact h.elim) | (intro i h1 h2; exfalso; (try simp only at h2); omega) | (left; rfl) | (right; dsimp only; omega) | (right; omega)) : Upd Non w w7)
    clear U7
    go_wp2_with fail
    go_roundw
    case rel => exact ⟨t + 1, by omega, by go_num, Blk.upd HU7.out HB.out id, HU7.out.cell_eq id HN.out, HW7.out⟩
    case measure => simp [intOf]; omega
end Go.Proofs.Ytnmbkhofikbcjaa
