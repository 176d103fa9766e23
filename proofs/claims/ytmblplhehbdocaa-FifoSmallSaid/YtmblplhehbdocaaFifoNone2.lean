/- The fifo law's own none returns true. No condition. -/
import Derived.Test.YtmblplhehbdocaaFifoNone
namespace Go.Proofs.Ytmblplhehbdocaa
open Go.RowKit Go.Shelf
attribute [local go_sem] Oper.semAt_some

/-- A round's post: whatever is deferred is run. -/
def postL (P : Program) (fn : Func) (R : Ending → World → Prop) : Exit → Act → World → Prop
  | .normal, a, w | .ret, a, w => LeavesInM Fence.wide 3 P fn a.tmps R a.defers .returning w
  | _, _, _ => False
theorem calls_of_wp_leaves {P : Program} {f : FuncId} {fn : Func} {c : Code} {args : Array Value} {w : World} {R : Ending → World → Prop} (hf : P.funcs[f]? = some fn) (hb : fn.body = some c)
    (h : c.wp P (postL P fn R) { tmps := args ++ Array.replicate (fn.ntmps - args.size) undef, defers := [] } w) : Calls P f args w R := by
  refine callsIn_wide.1 (callsIn_of_wp_marks (n := 3) hf hb trivial (wpIn_mono (wpIn_wide.2 h) ?_))
  intro e a w' hp
  cases e with
  | normal => exact hp
  | ret => exact hp
  | exit id => exact hp.elim
  | goto t => exact hp.elim
  | panic ch => exact hp.elim
  | outgrown => exact hp.elim
theorem postL_ret2 {P : Program} {fn : Func} {R : Ending → World → Prop} {a : Act} {w : World} {v : Value} {D E : Nat} (hr : ∀ w', Upd (fun i => i = D ∨ i = E) w w' → (results fn a.tmps).run P w' = .ok v w') (hd : a.defers = [{ target := .collected D, args := #[] }, { target := .collected E, args := #[] }])
    (hk : w.heap[D]? = some (.deferred (some []))) (hk2 : w.heap[E]? = some (.deferred (some []))) (hne : D ≠ E) (hR : ∀ w', Upd (fun i => i = D ∨ i = E) w w' → R (.returned v) w') : postL P fn R .ret a w := by
  have hu : Upd (fun i => i = D ∨ i = E) w ((w.putObj D (.deferred none)).putObj E (.deferred none)) := Upd.trans (upd_putObj w D _) (upd_putObj _ E _) (fun _ h => .inl h) (fun _ _ h => .inr h)
  show LeavesInM Fence.wide 3 P fn a.tmps R a.defers .returning w
  rw [hd]
  refine ⟨by simp, .inl ⟨D, _, rfl, run_takeDeferred hk, by simp, .inl ⟨E, _, rfl, run_takeDeferred ((World.putObj_heap_other (Ne.symm hne)).trans hk2), ?_⟩⟩⟩
  exact ⟨v, hr _ hu, hR _ hu⟩
set_option maxRecDepth 100000 in
set_option maxHeartbeats 16000000 in
theorem none_law (w : World) : Calls Try.prog 55 #[] w fun e w' => e = .returned (.bool true) ∧ Upd Non w w' := by
  refine calls_of_wp_leaves Try.func55 rfl ?_
  simp only [Try.ntmps55, List.size_toArray, List.length_nil, Nat.reduceSub, Array.replicate_succ, Array.replicate_zero, List.push_toArray, List.append_toArray, List.nil_append, List.cons_append]
  go_wp2_with fail
  obtain ⟨w1, hw1⟩ : ∃ x, x = ((w.alloc (.cells #[.bool false] 4)).alloc (.cells #[.slice none 0 0, .int .i64 0, .int .i64 0, .int .i64 0, .bool false] 123)).alloc (.cells #[.pointer none, .pointer (some ⟨w.heap.size + 1, 0, none⟩)] 32) := ⟨_, rfl⟩
  obtain ⟨b0, hb0⟩ : ∃ x, x = w.heap.size := ⟨_, rfl⟩
  obtain ⟨bz, hbz⟩ : ∃ x, x = w.heap.size + 1 := ⟨_, rfl⟩
  obtain ⟨bl, hbl⟩ : ∃ x, x = w.heap.size + 1 + 1 := ⟨_, rfl⟩
  rw [← hw1, ← hbl, ← hbz, ← hb0]
  rw [← hbz] at hw1
  have HS := Lib.hid (show Blk w1 bl #[.pointer none, .pointer (some ⟨bz, 0, none⟩)] 32 ∧ Dead w1 (some ⟨bz, 0, none⟩) ∧ Blk w1 b0 #[.bool false] 4 ∧ Upd Non w w1 from by
    refine ⟨by rw [hw1]; exact Blk.newAt (by rw [World.size_alloc, World.size_alloc]; exact hbl), .inr ⟨bz, rfl, ?_⟩, by rw [hw1]; exact Blk.alloc (Blk.alloc (Blk.newAt hb0)), by rw [hw1]; ((with_reducible repeat' first | exact Upd.refl _ _ | apply Upd.drew | apply Upd.drewN | apply Upd.alloc | refine Upd.setCell ?_ ?_) <;> first | (intro _ _ h; exact h) | (intro _ _ h; exact h.elim) | (intro i h1 h2; exfalso; (try simp only at h2); omega) | (left; rfl) | (right; dsimp only; omega) | (right; omega))⟩
    have h : Blk w1 bz #[.slice none 0 0, .int .i64 0, .int .i64 0, .int .i64 0, .bool false] 123 := by rw [hw1]; exact Blk.alloc (Blk.newAt (by rw [World.size_alloc]; exact hbz))
    exact h.cell 4 rfl)
  have hb01 : b0 < w1.heap.size := HS.out.2.2.1.lt
  have HBLO := Lib.hid (show w.heap.size ≤ b0 by omega)
  have hwb : w.heap.size ≤ w1.heap.size := HS.out.2.2.2.size
  clear hw1 hbl hbz hb0
  refine wp_loop_rounds 3 ?_
  rw [rounds_succ]
  have c0 := HS.out.1.cell 0 rfl
  have c1 := HS.out.1.cell 1 rfl
  go_wp2_with fail
  refine (take_dead (p := none) _ (Or.inl rfl)).mono ?_
  rintro e w2 ⟨rfl, rfl⟩
  go_wp2_with fail
  refine (first_dead (p := none) _ (Or.inl rfl)).mono ?_
  rintro e w2 ⟨rfl, rfl⟩
  go_wp2_with fail
  refine (all_dead (p := none) _).mono ?_
  rintro e w9 ⟨rfl, hw9⟩
  obtain ⟨bx, hbx⟩ : ∃ x, x = w1.heap.size := ⟨_, rfl⟩
  have HXX := Lib.hid (show w9.cell? ⟨bx, 0, none⟩ = some (.pointer none) by have h : Blk w9 bx #[.pointer none] 32 := (by rw [hw9]; exact Blk.newAt hbx); exact h.cell 0 rfl)
  have HU9 := Lib.hid (show Upd Non w1 w9 by rw [hw9]; exact (Upd.refl _ _).alloc)
  rw [← hbx]
  clear hbx hw9 c0 c1
  go_wp2_with fail
  refine wp_range (gf := 80) (lb := #[.pointer (some ⟨bx, 0, none⟩)]) rfl (enters_of Try.func80 (by kernel_rfl) rfl) ?_
  intro fn rec hrec W1 hL hU1 hz
  obtain ⟨D1, hD⟩ : ∃ D, D = w9.heap.size := ⟨_, rfl⟩
  rw [← hD] at hrec hL hz ⊢
  have hconD1 : w1.heap.size ≤ D1 := by have := HU9.out.size; omega
  have HU1 := Lib.hid (show Upd Non w1 W1 from Upd.call hU1 HU9.out fun _ _ h => h)
  refine (alls_dead (p := none) (l := D1 + 1) (bx := bx) W1 (Dead.upd (Or.inl rfl) HU1.out) (hU1.cell_eq id HXX.out)).mono ?_
  rintro e W2 ⟨rfl, rfl⟩
  refine ⟨⟨_, rfl⟩, .inl ⟨hL, fun W4 hU4 hd4 => ?_⟩⟩
  have HV := Lib.hid (show Upd Non w1 W4 from Upd.call hU4 HU1.out (fun i hi h => by omega))
  have HHD1 := Lib.hid hd4
  clear hD hrec hL hz hU1 hU4 hd4 HU1 HU9 HXX
  have y0 : ∀ G : Grown W4, G.W.cell? ⟨bl, 0, none⟩ = some (.pointer none) := fun G => G.cell (HV.out.cell_eq id (HS.out.1.cell 0 rfl))
  have HDW := Lib.hid (show Dead W4 none from Dead.upd (Or.inl rfl) HV.out)
  go_wp2_with fail
  refine wp_region_grow (by kernel_rfl) (by kernel_rfl) ?_
  repeat go_big_quiet_step ((first | (go_at_call 23; with_reducible exact Grown.call_same (put_dead (p := none) 1 _ (Dead.upd HDW.out (Grown.h _)))) | (go_at_call 24; with_reducible exact Grown.call_same (len_dead (p := none) _ (Dead.upd HDW.out (Grown.h _)))) | (go_at_call 25; with_reducible exact Grown.call_same (left_dead (p := none) _ (Dead.upd HDW.out (Grown.h _)))) | (go_at_call 48; with_reducible exact Grown.call_same (clear_dead (p := none) _ (Dead.upd HDW.out (Grown.h _)))) | (go_at_call 42; with_reducible exact Grown.call_same (copy_dead (p := none) _ (Dead.upd HDW.out (Grown.h _))))))
  refine wpQuiet_nil ?_
  rintro ⟨w5, hU5⟩
  show Exit.then _ _ _ _ w5
  have HW := Lib.hid (Upd.call hU5 HV.out fun _ _ h => h)
  have H5D1 := Lib.hid (show w5.heap[D1]? = some (.deferred (some [])) from (hU5.block D1 (Array.getElem?_eq_some_iff.1 HHD1.out).1 id).trans HHD1.out)
  clear hU5 y0 HV HDW HHD1
  have HS2 := Lib.hid (show Blk w5 bl #[.pointer none, .pointer (some ⟨bz, 0, none⟩)] 32 ∧ Dead w5 (some ⟨bz, 0, none⟩) ∧ Blk w5 b0 #[.bool false] 4 ∧ Upd Non w w5 from
    ⟨Blk.upd HW.out HS.out.1 id, HS.out.2.1.upd HW.out, Blk.upd HW.out HS.out.2.2.1 id, Upd.call HW.out HS.out.2.2.2 fun _ _ h => h⟩)
  clear HS HW
  have hD1b : D1 < w5.heap.size := (Array.getElem?_eq_some_iff.1 H5D1.out).1
  obtain ⟨Wb, hWb⟩ : ∃ x, x = w5 := ⟨_, rfl⟩
  rw [← hWb] at HS2 H5D1 hD1b ⊢
  have HS := HS2
  clear hWb HS2
  go_wp2_with fail
  rw [rounds_succ]
  have c0 := HS.out.1.cell 0 rfl
  have c1 := HS.out.1.cell 1 rfl
  go_wp2_with fail
  refine (take_dead (p := (some ⟨bz, 0, none⟩)) _ HS.out.2.1).mono ?_
  rintro e w2 ⟨rfl, rfl⟩
  go_wp2_with fail
  refine (first_dead (p := (some ⟨bz, 0, none⟩)) _ HS.out.2.1).mono ?_
  rintro e w2 ⟨rfl, rfl⟩
  go_wp2_with fail
  refine (all_dead (p := (some ⟨bz, 0, none⟩)) _).mono ?_
  rintro e w9 ⟨rfl, hw9⟩
  obtain ⟨bx, hbx⟩ : ∃ x, x = Wb.heap.size := ⟨_, rfl⟩
  have HXX := Lib.hid (show w9.cell? ⟨bx, 0, none⟩ = some (.pointer (some ⟨bz, 0, none⟩)) by have h : Blk w9 bx #[.pointer (some ⟨bz, 0, none⟩)] 32 := (by rw [hw9]; exact Blk.newAt hbx); exact h.cell 0 rfl)
  have HU9 := Lib.hid (show Upd Non Wb w9 by rw [hw9]; exact (Upd.refl _ _).alloc)
  rw [← hbx]
  clear hbx hw9 c0 c1
  go_wp2_with fail
  refine wp_range (gf := 80) (lb := #[.pointer (some ⟨bx, 0, none⟩)]) rfl (enters_of Try.func80 (by kernel_rfl) rfl) ?_
  intro fn rec hrec W1 hL hU1 hz
  obtain ⟨D2, hD⟩ : ∃ D, D = w9.heap.size := ⟨_, rfl⟩
  rw [← hD] at hrec hL hz ⊢
  have hconD2 : Wb.heap.size ≤ D2 := by have := HU9.out.size; omega
  have HU1 := Lib.hid (show Upd Non Wb W1 from Upd.call hU1 HU9.out fun _ _ h => h)
  refine (alls_dead (p := (some ⟨bz, 0, none⟩)) (l := D2 + 1) (bx := bx) W1 (Dead.upd HS.out.2.1 HU1.out) (hU1.cell_eq id HXX.out)).mono ?_
  rintro e W2 ⟨rfl, rfl⟩
  refine ⟨⟨_, rfl⟩, .inl ⟨hL, fun W4 hU4 hd4 => ?_⟩⟩
  have HV := Lib.hid (show Upd Non Wb W4 from Upd.call hU4 HU1.out (fun i hi h => by omega))
  have HHD2 := Lib.hid hd4
  clear hD hrec hL hz hU1 hU4 hd4 HU1 HU9 HXX
  have y0 : ∀ G : Grown W4, G.W.cell? ⟨bl, 1, none⟩ = some (.pointer (some ⟨bz, 0, none⟩)) := fun G => G.cell (HV.out.cell_eq id (HS.out.1.cell 1 rfl))
  have HDW := Lib.hid (show Dead W4 (some ⟨bz, 0, none⟩) from Dead.upd HS.out.2.1 HV.out)
  go_wp2_with fail
  refine wp_region_grow (by kernel_rfl) (by kernel_rfl) ?_
  repeat go_big_quiet_step ((first | (go_at_call 23; with_reducible exact Grown.call_same (put_dead (p := (some ⟨bz, 0, none⟩)) 1 _ (Dead.upd HDW.out (Grown.h _)))) | (go_at_call 24; with_reducible exact Grown.call_same (len_dead (p := (some ⟨bz, 0, none⟩)) _ (Dead.upd HDW.out (Grown.h _)))) | (go_at_call 25; with_reducible exact Grown.call_same (left_dead (p := (some ⟨bz, 0, none⟩)) _ (Dead.upd HDW.out (Grown.h _)))) | (go_at_call 48; with_reducible exact Grown.call_same (clear_dead (p := (some ⟨bz, 0, none⟩)) _ (Dead.upd HDW.out (Grown.h _)))) | (go_at_call 42; with_reducible exact Grown.call_same (copy_dead (p := (some ⟨bz, 0, none⟩)) _ (Dead.upd HDW.out (Grown.h _))))))
  refine wpQuiet_nil ?_
  rintro ⟨w5, hU5⟩
  show Exit.then _ _ _ _ w5
  have HW := Lib.hid (Upd.call hU5 HV.out fun _ _ h => h)
  have H5D2 := Lib.hid (show w5.heap[D2]? = some (.deferred (some [])) from (hU5.block D2 (Array.getElem?_eq_some_iff.1 HHD2.out).1 id).trans HHD2.out)
  clear hU5 y0 HV HDW HHD2
  have HS3 := Lib.hid (show Blk w5 b0 #[.bool false] 4 from Blk.upd HW.out HS.out.2.2.1 id)
  have HD1' := Lib.hid (show w5.heap[D1]? = some (.deferred (some [])) from (HW.out.block D1 hD1b id).trans H5D1.out)
  have HU4 := Lib.hid (show Upd Non w w5 from Upd.call HW.out HS.out.2.2.2 fun _ _ h => h)
  have f0 := HS3.out.frozen 0
  have c0 := HS3.out.cell 0 rfl
  have hl0 := HS3.out.lt
  have hlo : w.heap.size ≤ b0 := HBLO.out
  clear HW HS H5D1
  go_wp2_with fail
  rw [rounds_succ]
  go_wp2_with fail
  have n1 : b0 ≠ D1 := by omega
  have n2 : b0 ≠ D2 := by omega
  refine postL_ret2 (v := .bool true) (D := D2) (E := D1) ?_ rfl ?_ ?_ (by omega) ?_
  · intro w' hU'
    have hc : w'.cell? ⟨b0, 0, none⟩ = some (.bool true) := (Blk.upd hU' (Blk.set HS3.out) (by omega)).cell 0 rfl
    simp [results, Try.results55, go_sem, hc]
  · exact (show Upd (fun i => i = b0) w5 _ by ((with_reducible repeat' first | exact Upd.refl _ _ | apply Upd.drew | apply Upd.drewN | apply Upd.alloc | refine Upd.setCell ?_ ?_) <;> first | (intro _ _ h; exact h) | (intro _ _ h; exact h.elim) | (intro i h1 h2; exfalso; (try simp only at h2); omega) | (left; rfl) | (right; dsimp only; omega) | (right; omega))).block D2 (Array.getElem?_eq_some_iff.1 H5D2.out).1 (fun e => n2 e.symm) |>.trans H5D2.out
  · exact (show Upd (fun i => i = b0) w5 _ by ((with_reducible repeat' first | exact Upd.refl _ _ | apply Upd.drew | apply Upd.drewN | apply Upd.alloc | refine Upd.setCell ?_ ?_) <;> first | (intro _ _ h; exact h) | (intro _ _ h; exact h.elim) | (intro i h1 h2; exfalso; (try simp only at h2); omega) | (left; rfl) | (right; dsimp only; omega) | (right; omega))).block D1 (Array.getElem?_eq_some_iff.1 HD1'.out).1 (fun e => n1 e.symm) |>.trans HD1'.out
  · intro w' hU'
    have h := HU4.out
    exact ⟨rfl, by ((with_reducible repeat' first | exact Upd.refl _ _ | apply Upd.drew | apply Upd.drewN | apply Upd.alloc | refine Upd.setCell ?_ ?_ | refine Upd.call hU' ?_ ?_ | refine Upd.call h ?_ ?_) <;> first | (intro _ _ h; exact h) | (intro _ _ h; exact h.elim) | (intro i h1 h2; exfalso; (try simp only at h2); omega) | (left; rfl) | (right; dsimp only; omega) | (right; omega))⟩
end Go.Proofs.Ytmblplhehbdocaa
