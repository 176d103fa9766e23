/- No ports: nil, and ones that New did not make. No condition. -/
import Derived.Test.YtmblplhehbdocaaPortSame
namespace Go.Proofs.Ytmblplhehbdocaa
open Go.RowKit Go.Shelf
attribute [local go_sem] Oper.semAt_some

/-- Nil, or ports that New did not make. -/
def Dead (w : World) (p : Option Addr) : Prop := p = none ∨ ∃ b, p = some ⟨b, 0, none⟩ ∧ w.cell? ⟨b, 160, none⟩ = some (.bool false)
theorem Dead.upd {w w' : World} {p : Option Addr} (h : Dead w p) (u : Upd Non w w') : Dead w' p := by
  rcases h with rfl | ⟨b, rfl, hc⟩
  · exact .inl rfl
  · exact .inr ⟨b, rfl, u.cell_eq id hc⟩
theorem there_dead {p : Option Addr} (w : World) (h : Dead w p) : Calls Try.prog 71 #[.pointer p] w fun e w' => e = .returned (.bool false) ∧ w = w' := by
  rcases h with rfl | ⟨b, rfl, hc⟩
  · go_enter Try.func71, Try.ntmps71
    go_wp2
    go_ret
    exact ⟨rfl, rfl⟩
  · go_enter Try.func71, Try.ntmps71
    go_wp2
    go_ret
    exact ⟨rfl, rfl⟩
theorem state_dead {p : Option Addr} (k : Int) (w : World) (h : Dead w p) : Calls Try.prog 34 #[.pointer p, .int .i64 k] w fun e w' => e = .returned (.int .i64 0) ∧ w = w' := by
  have H := Lib.hid h
  clear h
  go_enter Try.func34, Try.ntmps34
  go_wp2_with fail
  refine (there_dead _ H.out).mono ?_
  rintro e w1 ⟨rfl, rfl⟩
  go_wp2_with fail
  go_ret
  exact ⟨rfl, rfl⟩
theorem back_dead {p : Option Addr} (k : Int) (w : World) (h : Dead w p) : Calls Try.prog 33 #[.pointer p, .int .i64 k] w fun e w' => e = .returned (.int .i64 1) ∧ w = w' := by
  have H := Lib.hid h
  clear h
  go_enter Try.func33, Try.ntmps33
  go_wp2_with fail
  refine (there_dead _ H.out).mono ?_
  rintro e w1 ⟨rfl, rfl⟩
  go_wp2_with fail
  go_ret
  exact ⟨rfl, rfl⟩
theorem copy_dead {p : Option Addr} (w : World) (h : Dead w p) : Calls Try.prog 59 #[.pointer p] w fun e w' => e = .returned (.pointer none) ∧ w = w' := by
  have H := Lib.hid h
  clear h
  go_enter Try.func59, Try.ntmps59
  go_wp2_with fail
  refine (there_dead _ H.out).mono ?_
  rintro e w1 ⟨rfl, rfl⟩
  go_wp2_with fail
  go_ret
  exact ⟨rfl, rfl⟩
theorem put_dead {p : Option Addr} (k : Int) (w : World) (h : Dead w p) : Calls Try.prog 31 #[.pointer p, .int .i64 k, .agg AK.no.enc] w fun e w' => e = .returned (.int .i64 1) ∧ Upd Non w w' := by
  have H := Lib.hid h
  clear h
  unfold AK.enc
  go_enter Try.func31, Try.ntmps31
  go_wp2_with fail
  refine (there_dead _ (H.out.upd (by ((with_reducible repeat' first | exact Upd.refl _ _ | apply Upd.drew | apply Upd.drewN | apply Upd.alloc | refine Upd.setCell ?_ ?_) <;> first | (intro _ _ h; exact h) | (intro _ _ h; exact h.elim) | (intro i h1 h2; exfalso; (try simp only at h2); omega) | (left; rfl) | (right; dsimp only; omega) | (right; omega))))).mono ?_
  rintro e w1 ⟨rfl, rfl⟩
  go_wp2_with fail
  go_ret
  exact ⟨rfl, by ((with_reducible repeat' first | exact Upd.refl _ _ | apply Upd.drew | apply Upd.drewN | apply Upd.alloc | refine Upd.setCell ?_ ?_) <;> first | (intro _ _ h; exact h) | (intro _ _ h; exact h.elim) | (intro i h1 h2; exfalso; (try simp only at h2); omega) | (left; rfl) | (right; dsimp only; omega) | (right; omega))⟩
set_option maxRecDepth 100000 in
set_option maxHeartbeats 4000000 in
theorem take_dead {p : Option Addr} (k : Int) (w : World) (h : Dead w p) : Calls Try.prog 30 #[.pointer p, .int .i64 k] w fun e w' => e = .returned (.tuple #[.agg AK.no.enc, .bool false]) ∧ Upd Non w w' := by
  have H := Lib.hid h
  clear h
  go_enter Try.func30, Try.ntmps30
  go_wp2_with fail
  refine (there_dead _ (H.out.upd (by ((with_reducible repeat' first | exact Upd.refl _ _ | apply Upd.drew | apply Upd.drewN | apply Upd.alloc | refine Upd.setCell ?_ ?_) <;> first | (intro _ _ h; exact h) | (intro _ _ h; exact h.elim) | (intro i h1 h2; exfalso; (try simp only at h2); omega) | (left; rfl) | (right; dsimp only; omega) | (right; omega))))).mono ?_
  rintro e w1 ⟨rfl, rfl⟩
  go_wp2_with (refine wpList_store_row rfl 55 _ _ rfl w.heap.size AK.no.enc rfl rfl 55 AK.no.enc (heap_alloc_new w _) (by kernel_rfl) rfl (AK.enc_one _) ?_; rw [World.setRow_alloc_new])
  exact bodyPost_ret (results_two Try.results30 _ _ w.heap.size 55 AK.no.enc (0, 0) _ (.bool false) rfl rfl (heap_alloc_new w _) Try.underlying55 rfl (by kernel_rfl)) rfl ⟨rfl, by ((with_reducible repeat' first | exact Upd.refl _ _ | apply Upd.drew | apply Upd.drewN | apply Upd.alloc | refine Upd.setCell ?_ ?_) <;> first | (intro _ _ h; exact h) | (intro _ _ h; exact h.elim) | (intro i h1 h2; exfalso; (try simp only at h2); omega) | (left; rfl) | (right; dsimp only; omega) | (right; omega))⟩
set_option maxRecDepth 100000 in
set_option maxHeartbeats 4000000 in
theorem look_dead {p : Option Addr} (k : Int) (w : World) (h : Dead w p) : Calls Try.prog 41 #[.pointer p, .int .i64 k] w fun e w' => e = .returned (.tuple #[.agg AK.no.enc, .bool false]) ∧ Upd Non w w' := by
  have H := Lib.hid h
  clear h
  go_enter Try.func41, Try.ntmps41
  go_wp2_with fail
  refine (state_dead k _ (H.out.upd (by ((with_reducible repeat' first | exact Upd.refl _ _ | apply Upd.drew | apply Upd.drewN | apply Upd.alloc | refine Upd.setCell ?_ ?_) <;> first | (intro _ _ h; exact h) | (intro _ _ h; exact h.elim) | (intro i h1 h2; exfalso; (try simp only at h2); omega) | (left; rfl) | (right; dsimp only; omega) | (right; omega))))).mono ?_
  rintro e w1 ⟨rfl, rfl⟩
  go_wp2_with (refine wpList_store_row rfl 55 _ _ rfl w.heap.size AK.no.enc rfl rfl 55 AK.no.enc (heap_alloc_new w _) (by kernel_rfl) rfl (AK.enc_one _) ?_; rw [World.setRow_alloc_new])
  exact bodyPost_ret (results_two Try.results41 _ _ w.heap.size 55 AK.no.enc (0, 0) _ (.bool false) rfl rfl (heap_alloc_new w _) Try.underlying55 rfl (by kernel_rfl)) rfl ⟨rfl, by ((with_reducible repeat' first | exact Upd.refl _ _ | apply Upd.drew | apply Upd.drewN | apply Upd.alloc | refine Upd.setCell ?_ ?_) <;> first | (intro _ _ h; exact h) | (intro _ _ h; exact h.elim) | (intro i h1 h2; exfalso; (try simp only at h2); omega) | (left; rfl) | (right; dsimp only; omega) | (right; omega))⟩
theorem all_dead {p : Option Addr} (w : World) : Calls Try.prog 61 #[.pointer p] w fun e w' => e = .returned (.func (.func 91) #[] #[.pointer (some ⟨w.heap.size, 0, none⟩)]) ∧ w' = w.alloc (.cells #[.pointer p] 40) := by
  go_enter Try.func61, Try.ntmps61
  go_wp2
  go_ret
  exact ⟨rfl, rfl⟩
/-- No round is run. -/
theorem allp_dead {p : Option Addr} {l bx : Nat} (W : World) (hp : Dead W p) (hx : W.cell? ⟨bx, 0, none⟩ = some (.pointer p)) :
    Calls Try.prog 91 #[.func (.yield l) #[] #[], .pointer (some ⟨bx, 0, none⟩)] W fun e W' => e = .returned (.tuple #[]) ∧ Upd Non W W' := by
  refine calls_of_wp_range Try.func91 rfl ?_
  simp only [Try.ntmps91, List.size_toArray, List.length_cons, List.length_nil, Nat.reduceAdd, Nat.reduceSub, Array.replicate_succ, Array.replicate_zero, List.push_toArray, List.append_toArray, List.nil_append, List.cons_append]
  go_wp2_with fail
  refine (worlds_spec _).mono ?_
  rintro e w1 ⟨rfl, hw1⟩
  obtain ⟨b2, hb2⟩ : ∃ x, x = W.heap.size := ⟨_, rfl⟩
  rw [← hb2]
  have HU := Lib.hid (show Upd Non W w1 by rw [← hw1]; ((with_reducible repeat' first | exact Upd.refl _ _ | apply Upd.drew | apply Upd.drewN | apply Upd.alloc | refine Upd.setCell ?_ ?_) <;> first | (intro _ _ h; exact h) | (intro _ _ h; exact h.elim) | (intro i h1 h2; exfalso; (try simp only at h2); omega) | (left; rfl) | (right; dsimp only; omega) | (right; omega)))
  have HX := Lib.hid hx
  have HP := Lib.hid hp
  clear hw1 hb2 hx hp
  go_wp2_with fail
  refine wp_range (gf := 94) (lb := #[]) rfl (enters_of Try.func94 (by kernel_rfl) rfl) ?_
  intro fn rec hrec W1 hL hU1 hz
  obtain ⟨D, hD⟩ : ∃ D, D = w1.heap.size := ⟨_, rfl⟩
  rw [← hD] at hrec hL hz ⊢
  have HREC := Lib.hid hrec
  have hcon : W.heap.size ≤ D := by have := HU.out.size; omega
  have HU1 := Lib.hid (show Upd Non W W1 by have h := HU.out; ((with_reducible repeat' first | exact Upd.refl _ _ | apply Upd.drew | apply Upd.drewN | apply Upd.alloc | refine Upd.setCell ?_ ?_ | refine Upd.call hU1 ?_ ?_ | refine Upd.call h ?_ ?_) <;> first | (intro _ _ h; exact h) | (intro _ _ h; exact h.elim) | (intro i h1 h2; exfalso; (try simp only at h2); omega) | (left; rfl) | (right; dsimp only; omega) | (right; omega)))
  clear hrec hD hz HU hU1
  refine Calls.mono (R := fun e W' => e = .returned (.tuple #[]) ∧ ((LoopAt (rec .ready none) D W' ∧ Upd Non W W') ∨ False)) (worlds_run W1 (fun t W' => LoopAt (rec .ready none) D W' ∧ Upd Non W W') (fun W' => False) ?h0 ?hY) ?hend
  case h0 => exact ⟨hL, HU1.out⟩
  case hY =>
    rintro t W' ht ⟨hL', hU'⟩
    refine yield_at HREC.out hL' rfl ?_
    gi_wp2
    refine ⟨rfl, fun W2 hU2 hL2 => ?_⟩
    have hu2 : Upd Non W W2 := Upd.call hU2 hU' (fun i hi h => by omega)
    have HU2 := Lib.hid hu2
    have HL2 := Lib.hid hL2
    have y1 : ∀ G : Grown W2, G.W.cell? ⟨bx, 0, none⟩ = some (.pointer p) := fun G => G.cell (hu2.cell_eq id HX.out)
    clear hU' hL' hU2 hL hL2 hu2
    gi_wp2
    refine round_region_grow (by kernel_rfl) (by kernel_rfl) (by kernel_rfl) (fun ⟨_, _, h⟩ => h) ?_
    repeat (go_big_quiet_step ((first | (go_at_call 34; exact Grown.call_same (state_dead t _ ((HP.out.upd HU2.out).upd (Grown.h _)))))))
    refine wpQuiet_nil ?_
    intro G
    gi_wp2
    exact ⟨HL2.out.upd G.h id id, fun W4 hU4 hL4 => ⟨rfl, hL4, Upd.call hU4 (Upd.call G.h HU2.out fun _ _ h => h) (fun i hi h => by omega)⟩⟩
  case hend =>
    rintro e W' ⟨rfl, ⟨hl, hj⟩ | h⟩
    · refine ⟨⟨_, rfl⟩, .inl ⟨hl, fun W4 hU4 hd4 => ?_⟩⟩
      have HH := Lib.hid (show Upd Non W W4 from Upd.call hU4 hj (fun i hi h => by omega))
      clear hj hl hU4
      go_wp2_with fail
      refine postM_end1 (v := .tuple #[]) (D := D) (fun w' _ => results_none rfl _ _ _) rfl hd4 ?_
      intro w' hU'
      exact ⟨rfl, Upd.call hU' HH.out (fun i hi h => by omega)⟩
    · exact h.elim
end Go.Proofs.Ytmblplhehbdocaa
