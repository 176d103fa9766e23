/- The law's own none returns true. No condition. -/
import Derived.Test.YtmblplhehbdocaaPortNone
import Derived.LoopN
namespace Go.Proofs.Ytmblplhehbdocaa
open Go.RowKit Go.Shelf
attribute [local go_sem] Oper.semAt_some

/-- A round's post: whatever is deferred is run. -/
def postL (P : Program) (fn : Func) (R : Ending → World → Prop) : Exit → Act → World → Prop
  | .normal, a, w | .ret, a, w => LeavesInM Fence.wide 3 P fn a.tmps R a.defers .returning w
  | _, _, _ => False
theorem calls_of_wp_leaves {P : Program} {f : FuncId} {fn : Func} {c : Code} {args : Array Value} {w : World} {R : Ending → World → Prop} (hf : P.funcs[f]? = some fn) (hb : fn.body = some c)
    (h : c.wp P (postL P fn R) { tmps := args ++ Array.replicate (fn.ntmps - args.size) undef, defers := [] } w) : Calls P f args w R := by
  refine callsIn_wide.1 (callsIn_of_wp_marks (n := 3) hf hb trivial (wpIn_mono (wpIn_wide.2 h) ?_))
  intro e a w' hp
  cases e with
  | normal => exact hp
  | ret => exact hp
  | exit id => exact hp.elim
  | goto t => exact hp.elim
  | panic ch => exact hp.elim
  | outgrown => exact hp.elim
theorem postL_ret2 {P : Program} {fn : Func} {R : Ending → World → Prop} {a : Act} {w : World} {v : Value} {D E : Nat} (hr : ∀ w', Upd (fun i => i = D ∨ i = E) w w' → (results fn a.tmps).run P w' = .ok v w') (hd : a.defers = [{ target := .collected D, args := #[] }, { target := .collected E, args := #[] }])
    (hk : w.heap[D]? = some (.deferred (some []))) (hk2 : w.heap[E]? = some (.deferred (some []))) (hne : D ≠ E) (hR : ∀ w', Upd (fun i => i = D ∨ i = E) w w' → R (.returned v) w') : postL P fn R .ret a w := by
  have hu : Upd (fun i => i = D ∨ i = E) w ((w.putObj D (.deferred none)).putObj E (.deferred none)) := Upd.trans (upd_putObj w D _) (upd_putObj _ E _) (fun _ h => .inl h) (fun _ _ h => .inr h)
  show LeavesInM Fence.wide 3 P fn a.tmps R a.defers .returning w
  rw [hd]
  refine ⟨by simp, .inl ⟨D, _, rfl, run_takeDeferred hk, by simp, .inl ⟨E, _, rfl, run_takeDeferred ((World.putObj_heap_other (Ne.symm hne)).trans hk2), ?_⟩⟩⟩
  exact ⟨v, hr _ hu, hR _ hu⟩
set_option maxRecDepth 100000 in
set_option maxHeartbeats 16000000 in
theorem none_spec (w : World) : Calls Try.prog 62 #[] w fun e w' => e = .returned (.bool true) ∧ Upd Non w w' := by
  refine calls_of_wp_leaves Try.func62 rfl ?_
  simp only [Try.ntmps62, List.size_toArray, List.length_nil, Nat.reduceSub, Array.replicate_succ, Array.replicate_zero, List.push_toArray, List.append_toArray, List.nil_append, List.cons_append]
  go_wp2_with fail
  obtain ⟨w1, hw1⟩ : ∃ x, x = ((w.alloc (.cells #[.bool false] 4)).alloc (.cells Try.zeroCells133 133)).alloc (.cells #[.pointer none, .pointer (some ⟨w.heap.size + 1, 0, none⟩)] 40) := ⟨_, rfl⟩
  obtain ⟨b0, hb0⟩ : ∃ x, x = w.heap.size := ⟨_, rfl⟩
  obtain ⟨bz, hbz⟩ : ∃ x, x = w.heap.size + 1 := ⟨_, rfl⟩
  obtain ⟨bl, hbl⟩ : ∃ x, x = w.heap.size + 1 + 1 := ⟨_, rfl⟩
  rw [← hw1, ← hbl, ← hbz, ← hb0]
  rw [← hbz] at hw1
  have HS := Lib.hid (show Blk w1 bl #[.pointer none, .pointer (some ⟨bz, 0, none⟩)] 40 ∧ Dead w1 (some ⟨bz, 0, none⟩) ∧ Blk w1 b0 #[.bool false] 4 ∧ Upd Non w w1 from by
    refine ⟨by rw [hw1]; exact Blk.newAt (by rw [World.size_alloc, World.size_alloc]; exact hbl), .inr ⟨bz, rfl, ?_⟩, by rw [hw1]; exact Blk.alloc (Blk.alloc (Blk.newAt hb0)), by rw [hw1]; ((with_reducible repeat' first | exact Upd.refl _ _ | apply Upd.drew | apply Upd.drewN | apply Upd.alloc | refine Upd.setCell ?_ ?_) <;> first | (intro _ _ h; exact h) | (intro _ _ h; exact h.elim) | (intro i h1 h2; exfalso; (try simp only at h2); omega) | (left; rfl) | (right; dsimp only; omega) | (right; omega))⟩
    have h : Blk w1 bz Try.zeroCells133 133 := by rw [hw1]; exact Blk.alloc (Blk.newAt (by rw [World.size_alloc]; exact hbz))
    exact h.cell 160 (by kernel_rfl))
  have hb01 : b0 < w1.heap.size := HS.out.2.2.1.lt
  have HBLO := Lib.hid (show w.heap.size ≤ b0 by omega)
  have hwb : w.heap.size ≤ w1.heap.size := HS.out.2.2.2.size
  clear hw1 hbl hbz hb0
  refine wp_loop_rounds 3 ?_
  rw [rounds_succ]
  have c0 := HS.out.1.cell 0 rfl
  have c1 := HS.out.1.cell 1 rfl
  go_wp2_with fail
  refine (take_dead (p := none) 0 _ (Or.inl rfl)).mono ?_
  rintro e w2 ⟨rfl, U2⟩
  have HU2 := Lib.hid U2
  clear U2 c0 c1
  go_upto_region 7 with (refine wpList_store_row rfl 55 _ _ rfl w2.heap.size AK.no.enc rfl rfl 55 AK.no.enc (heap_alloc_new w2 _) (by kernel_rfl) rfl (AK.enc_one _) ?_; rw [World.setRow_alloc_new])
  obtain ⟨w3, hw3⟩ : ∃ x, x = w2.alloc (.cells AK.no.enc 55) := ⟨_, rfl⟩
  obtain ⟨b4, hb4⟩ : ∃ x, x = w2.heap.size := ⟨_, rfl⟩
  have HX3 := Lib.hid (show Blk w3 b4 AK.no.enc 55 by rw [hw3]; exact Blk.newAt hb4)
  have HU3 := Lib.hid (show Upd Non w1 w3 by rw [hw3]; exact HU2.out.alloc)
  rw [← hw3, ← hb4]
  clear hw3 hb4 HU2
  go_wp2_with fail
  refine (look_dead (p := none) 0 _ (Dead.upd (Or.inl rfl) HU3.out)).mono ?_
  rintro e w4 ⟨rfl, U4⟩
  have HU4 := Lib.hid (show Upd Non w1 w4 from Upd.call U4 HU3.out fun _ _ h => h)
  have HX4 := Lib.hid (Blk.upd U4 HX3.out id)
  clear U4 HU3 HX3
  go_upto_region 8 with (refine wpList_store_row rfl 55 _ _ rfl w4.heap.size AK.no.enc rfl rfl 55 AK.no.enc (heap_alloc_new w4 _) (by kernel_rfl) rfl (AK.enc_one _) ?_; rw [World.setRow_alloc_new])
  obtain ⟨w5, hw5⟩ : ∃ x, x = w4.alloc (.cells AK.no.enc 55) := ⟨_, rfl⟩
  obtain ⟨b6, hb6⟩ : ∃ x, x = w4.heap.size := ⟨_, rfl⟩
  have HY5 := Lib.hid (show Blk w5 b6 AK.no.enc 55 by rw [hw5]; exact Blk.newAt hb6)
  have HX5 := Lib.hid (show Blk w5 b4 AK.no.enc 55 by rw [hw5]; exact Blk.alloc HX4.out)
  have HU5 := Lib.hid (show Upd Non w1 w5 by rw [hw5]; exact HU4.out.alloc)
  rw [← hw5, ← hb6]
  clear hw5 hb6 HU4 HX4
  go_upto_region 9 with (refine wpList_store_row rfl 55 _ _ rfl w5.heap.size AK.no.enc rfl rfl 55 AK.no.enc (heap_alloc_new w5 _) (by kernel_rfl) rfl (AK.enc_one _) ?_; rw [World.setRow_alloc_new])
  obtain ⟨w6, hw6⟩ : ∃ x, x = w5.alloc (.cells AK.no.enc 55) := ⟨_, rfl⟩
  obtain ⟨b8, hb8⟩ : ∃ x, x = w5.heap.size := ⟨_, rfl⟩
  have HZ6 := Lib.hid (show Blk w6 b8 AK.no.enc 55 by rw [hw6]; exact Blk.newAt hb8)
  have HY6 := Lib.hid (show Blk w6 b6 AK.no.enc 55 by rw [hw6]; exact Blk.alloc HY5.out)
  have HX6 := Lib.hid (show Blk w6 b4 AK.no.enc 55 by rw [hw6]; exact Blk.alloc HX5.out)
  have HU6 := Lib.hid (show Upd Non w1 w6 by rw [hw6]; exact HU5.out.alloc)
  rw [← hw6, ← hb8]
  clear hw6 hb8 HU5 HX5 HY5
  go_wp2_with (refine wpList_load_rowG (by rfl) 55 _ rfl b8 rfl 55 _ (0, 0) _ HZ6.out Try.underlying55 rfl (by kernel_rfl) ?_)
  refine (put_dead (p := none) 9 _ (Dead.upd (Or.inl rfl) HU6.out)).mono ?_
  rintro e w7 ⟨rfl, U7⟩
  have HX7 := Lib.hid (Blk.upd U7 HX6.out id)
  have HY7 := Lib.hid (Blk.upd U7 HY6.out id)
  have HZ7 := Lib.hid (Blk.upd U7 HZ6.out id)
  have HU7 := Lib.hid (show Upd Non w1 w7 from Upd.call U7 HU6.out fun _ _ h => h)
  clear U7 HX6 HY6 HZ6 HU6
  go_wp2_with fail
  refine (back_dead (p := none) 9 _ (Dead.upd (Or.inl rfl) HU7.out)).mono ?_
  rintro e w8 ⟨rfl, rfl⟩
  go_wp2_with (first | (refine wpList_load_rowG (by rfl) 55 _ rfl b4 rfl 55 _ (0, 0) _ HX7.out Try.underlying55 rfl (by kernel_rfl) ?_) | (refine wpList_load_rowG (by rfl) 55 _ rfl b6 rfl 55 _ (0, 0) _ HY7.out Try.underlying55 rfl (by kernel_rfl) ?_) | (refine wpList_load_rowG (by rfl) 55 _ rfl b8 rfl 55 _ (0, 0) _ HZ7.out Try.underlying55 rfl (by kernel_rfl) ?_) | (refine wpList_same (by rfl) .neq 55 55 _ _ rfl AK.no.enc AK.no.enc (.bool false) rfl rfl Try.eqGuardType55 (ask_ne AK.no _) ?_))
  refine (state_dead (p := none) 0 _ (Dead.upd (Or.inl rfl) HU7.out)).mono ?_
  rintro e w8 ⟨rfl, rfl⟩
  go_wp2_with fail
  refine (copy_dead (p := none) _ (Dead.upd (Or.inl rfl) HU7.out)).mono ?_
  rintro e w8 ⟨rfl, rfl⟩
  go_wp2_with fail
  refine (all_dead (p := none) _).mono ?_
  rintro e w9 ⟨rfl, hw9⟩
  obtain ⟨bx, hbx⟩ : ∃ x, x = w7.heap.size := ⟨_, rfl⟩
  have HXX := Lib.hid (show w9.cell? ⟨bx, 0, none⟩ = some (.pointer none) by have h : Blk w9 bx #[.pointer none] 40 := (by rw [hw9]; exact Blk.newAt hbx); exact h.cell 0 rfl)
  have HU9 := Lib.hid (show Upd Non w1 w9 by rw [hw9]; exact HU7.out.alloc)
  rw [← hbx]
  clear hbx hw9 HU7 HX7 HY7 HZ7
  go_wp2_with fail
  refine wp_range (gf := 91) (lb := #[.pointer (some ⟨bx, 0, none⟩)]) rfl (enters_of Try.func91 (by kernel_rfl) rfl) ?_
  intro fn rec hrec W1 hL hU1 hz
  obtain ⟨D1, hD⟩ : ∃ D, D = w9.heap.size := ⟨_, rfl⟩
  rw [← hD] at hrec hL hz ⊢
  have hconD1 : w1.heap.size ≤ D1 := by have := HU9.out.size; omega
  have HU1 := Lib.hid (show Upd Non w1 W1 from Upd.call hU1 HU9.out fun _ _ h => h)
  refine (allp_dead (p := none) (l := D1 + 1) (bx := bx) W1 (Dead.upd (Or.inl rfl) HU1.out) (hU1.cell_eq id HXX.out)).mono ?_
  rintro e W2 ⟨rfl, U⟩
  refine ⟨⟨_, rfl⟩, .inl ⟨hL.upd U id id, fun W4 hU4 hd4 => ?_⟩⟩
  have HV := Lib.hid (show Upd Non w1 W4 from Upd.call hU4 (Upd.call U HU1.out fun _ _ h => h) (fun i hi h => by omega))
  have HDD1 := Lib.hid hd4
  clear hD hrec hL hz hU1 U hU4 hd4 HU1 HU9 HXX
  have HS2 := Lib.hid (show Blk W4 bl #[.pointer none, .pointer (some ⟨bz, 0, none⟩)] 40 ∧ Dead W4 (some ⟨bz, 0, none⟩) ∧ Blk W4 b0 #[.bool false] 4 ∧ Upd Non w W4 from
    ⟨Blk.upd HV.out HS.out.1 id, HS.out.2.1.upd HV.out, Blk.upd HV.out HS.out.2.2.1 id, Upd.call HV.out HS.out.2.2.2 fun _ _ h => h⟩)
  clear HS HV
  obtain ⟨Wb, hWb⟩ : ∃ x, x = W4 := ⟨_, rfl⟩
  rw [← hWb] at HS2 HDD1 ⊢
  have HS := HS2
  have hD1b : D1 < Wb.heap.size := (Array.getElem?_eq_some_iff.1 HDD1.out).1
  clear hWb HS2
  go_wp2_with fail
  rw [rounds_succ]
  have c0 := HS.out.1.cell 0 rfl
  have c1 := HS.out.1.cell 1 rfl
  go_wp2_with fail
  refine (take_dead (p := (some ⟨bz, 0, none⟩)) 0 _ HS.out.2.1).mono ?_
  rintro e w2 ⟨rfl, U2⟩
  have HU2 := Lib.hid U2
  clear U2 c0 c1
  go_upto_region 7 with (refine wpList_store_row rfl 55 _ _ rfl w2.heap.size AK.no.enc rfl rfl 55 AK.no.enc (heap_alloc_new w2 _) (by kernel_rfl) rfl (AK.enc_one _) ?_; rw [World.setRow_alloc_new])
  obtain ⟨w3, hw3⟩ : ∃ x, x = w2.alloc (.cells AK.no.enc 55) := ⟨_, rfl⟩
  obtain ⟨b4, hb4⟩ : ∃ x, x = w2.heap.size := ⟨_, rfl⟩
  have HX3 := Lib.hid (show Blk w3 b4 AK.no.enc 55 by rw [hw3]; exact Blk.newAt hb4)
  have HU3 := Lib.hid (show Upd Non Wb w3 by rw [hw3]; exact HU2.out.alloc)
  rw [← hw3, ← hb4]
  clear hw3 hb4 HU2
  go_wp2_with fail
  refine (look_dead (p := (some ⟨bz, 0, none⟩)) 0 _ (Dead.upd HS.out.2.1 HU3.out)).mono ?_
  rintro e w4 ⟨rfl, U4⟩
  have HU4 := Lib.hid (show Upd Non Wb w4 from Upd.call U4 HU3.out fun _ _ h => h)
  have HX4 := Lib.hid (Blk.upd U4 HX3.out id)
  clear U4 HU3 HX3
  go_upto_region 8 with (refine wpList_store_row rfl 55 _ _ rfl w4.heap.size AK.no.enc rfl rfl 55 AK.no.enc (heap_alloc_new w4 _) (by kernel_rfl) rfl (AK.enc_one _) ?_; rw [World.setRow_alloc_new])
  obtain ⟨w5, hw5⟩ : ∃ x, x = w4.alloc (.cells AK.no.enc 55) := ⟨_, rfl⟩
  obtain ⟨b6, hb6⟩ : ∃ x, x = w4.heap.size := ⟨_, rfl⟩
  have HY5 := Lib.hid (show Blk w5 b6 AK.no.enc 55 by rw [hw5]; exact Blk.newAt hb6)
  have HX5 := Lib.hid (show Blk w5 b4 AK.no.enc 55 by rw [hw5]; exact Blk.alloc HX4.out)
  have HU5 := Lib.hid (show Upd Non Wb w5 by rw [hw5]; exact HU4.out.alloc)
  rw [← hw5, ← hb6]
  clear hw5 hb6 HU4 HX4
  go_upto_region 9 with (refine wpList_store_row rfl 55 _ _ rfl w5.heap.size AK.no.enc rfl rfl 55 AK.no.enc (heap_alloc_new w5 _) (by kernel_rfl) rfl (AK.enc_one _) ?_; rw [World.setRow_alloc_new])
  obtain ⟨w6, hw6⟩ : ∃ x, x = w5.alloc (.cells AK.no.enc 55) := ⟨_, rfl⟩
  obtain ⟨b8, hb8⟩ : ∃ x, x = w5.heap.size := ⟨_, rfl⟩
  have HZ6 := Lib.hid (show Blk w6 b8 AK.no.enc 55 by rw [hw6]; exact Blk.newAt hb8)
  have HY6 := Lib.hid (show Blk w6 b6 AK.no.enc 55 by rw [hw6]; exact Blk.alloc HY5.out)
  have HX6 := Lib.hid (show Blk w6 b4 AK.no.enc 55 by rw [hw6]; exact Blk.alloc HX5.out)
  have HU6 := Lib.hid (show Upd Non Wb w6 by rw [hw6]; exact HU5.out.alloc)
  rw [← hw6, ← hb8]
  clear hw6 hb8 HU5 HX5 HY5
  go_wp2_with (refine wpList_load_rowG (by rfl) 55 _ rfl b8 rfl 55 _ (0, 0) _ HZ6.out Try.underlying55 rfl (by kernel_rfl) ?_)
  refine (put_dead (p := (some ⟨bz, 0, none⟩)) 9 _ (Dead.upd HS.out.2.1 HU6.out)).mono ?_
  rintro e w7 ⟨rfl, U7⟩
  have HX7 := Lib.hid (Blk.upd U7 HX6.out id)
  have HY7 := Lib.hid (Blk.upd U7 HY6.out id)
  have HZ7 := Lib.hid (Blk.upd U7 HZ6.out id)
  have HU7 := Lib.hid (show Upd Non Wb w7 from Upd.call U7 HU6.out fun _ _ h => h)
  clear U7 HX6 HY6 HZ6 HU6
  go_wp2_with fail
  refine (back_dead (p := (some ⟨bz, 0, none⟩)) 9 _ (Dead.upd HS.out.2.1 HU7.out)).mono ?_
  rintro e w8 ⟨rfl, rfl⟩
  go_wp2_with (first | (refine wpList_load_rowG (by rfl) 55 _ rfl b4 rfl 55 _ (0, 0) _ HX7.out Try.underlying55 rfl (by kernel_rfl) ?_) | (refine wpList_load_rowG (by rfl) 55 _ rfl b6 rfl 55 _ (0, 0) _ HY7.out Try.underlying55 rfl (by kernel_rfl) ?_) | (refine wpList_load_rowG (by rfl) 55 _ rfl b8 rfl 55 _ (0, 0) _ HZ7.out Try.underlying55 rfl (by kernel_rfl) ?_) | (refine wpList_same (by rfl) .neq 55 55 _ _ rfl AK.no.enc AK.no.enc (.bool false) rfl rfl Try.eqGuardType55 (ask_ne AK.no _) ?_))
  refine (state_dead (p := (some ⟨bz, 0, none⟩)) 0 _ (Dead.upd HS.out.2.1 HU7.out)).mono ?_
  rintro e w8 ⟨rfl, rfl⟩
  go_wp2_with fail
  refine (copy_dead (p := (some ⟨bz, 0, none⟩)) _ (Dead.upd HS.out.2.1 HU7.out)).mono ?_
  rintro e w8 ⟨rfl, rfl⟩
  go_wp2_with fail
  refine (all_dead (p := (some ⟨bz, 0, none⟩)) _).mono ?_
  rintro e w9 ⟨rfl, hw9⟩
  obtain ⟨bx, hbx⟩ : ∃ x, x = w7.heap.size := ⟨_, rfl⟩
  have HXX := Lib.hid (show w9.cell? ⟨bx, 0, none⟩ = some (.pointer (some ⟨bz, 0, none⟩)) by have h : Blk w9 bx #[.pointer (some ⟨bz, 0, none⟩)] 40 := (by rw [hw9]; exact Blk.newAt hbx); exact h.cell 0 rfl)
  have HU9 := Lib.hid (show Upd Non Wb w9 by rw [hw9]; exact HU7.out.alloc)
  rw [← hbx]
  clear hbx hw9 HU7 HX7 HY7 HZ7
  go_wp2_with fail
  refine wp_range (gf := 91) (lb := #[.pointer (some ⟨bx, 0, none⟩)]) rfl (enters_of Try.func91 (by kernel_rfl) rfl) ?_
  intro fn rec hrec W1 hL hU1 hz
  obtain ⟨D2, hD⟩ : ∃ D, D = w9.heap.size := ⟨_, rfl⟩
  rw [← hD] at hrec hL hz ⊢
  have hconD2 : Wb.heap.size ≤ D2 := by have := HU9.out.size; omega
  have HU1 := Lib.hid (show Upd Non Wb W1 from Upd.call hU1 HU9.out fun _ _ h => h)
  refine (allp_dead (p := (some ⟨bz, 0, none⟩)) (l := D2 + 1) (bx := bx) W1 (Dead.upd HS.out.2.1 HU1.out) (hU1.cell_eq id HXX.out)).mono ?_
  rintro e W2 ⟨rfl, U⟩
  refine ⟨⟨_, rfl⟩, .inl ⟨hL.upd U id id, fun W4 hU4 hd4 => ?_⟩⟩
  have HV := Lib.hid (show Upd Non Wb W4 from Upd.call hU4 (Upd.call U HU1.out fun _ _ h => h) (fun i hi h => by omega))
  have HDD2 := Lib.hid hd4
  clear hD hrec hL hz hU1 U hU4 hd4 HU1 HU9 HXX
  have hS3 : Blk W4 b0 #[.bool false] 4 := Blk.upd HV.out HS.out.2.2.1 id
  have HD1' := Lib.hid (show W4.heap[D1]? = some (.deferred (some [])) from (HV.out.block D1 hD1b id).trans HDD1.out)
  have HU4 := Lib.hid (show Upd Non w W4 from Upd.call HV.out HS.out.2.2.2 fun _ _ h => h)
  have HS3 := Lib.hid hS3
  have f0 := hS3.frozen 0
  have c0 := hS3.cell 0 rfl
  have hl0 := hS3.lt
  have hlo : w.heap.size ≤ b0 := HBLO.out
  clear hS3 HV HS HDD1
  go_wp2_with fail
  rw [rounds_succ]
  go_wp2_with fail
  have n1 : b0 ≠ D1 := by omega
  have n2 : b0 ≠ D2 := by omega
  refine postL_ret2 (v := .bool true) (D := D2) (E := D1) ?_ rfl ?_ ?_ (by omega) ?_
  · intro w' hU'
    have hc : w'.cell? ⟨b0, 0, none⟩ = some (.bool true) := (Blk.upd hU' (Blk.set HS3.out) (by omega)).cell 0 rfl
    simp [results, Try.results62, go_sem, hc]
  · exact (show Upd (fun i => i = b0) W4 _ by ((with_reducible repeat' first | exact Upd.refl _ _ | apply Upd.drew | apply Upd.drewN | apply Upd.alloc | refine Upd.setCell ?_ ?_) <;> first | (intro _ _ h; exact h) | (intro _ _ h; exact h.elim) | (intro i h1 h2; exfalso; (try simp only at h2); omega) | (left; rfl) | (right; dsimp only; omega) | (right; omega))).block D2 (Array.getElem?_eq_some_iff.1 HDD2.out).1 (fun e => n2 e.symm) |>.trans HDD2.out
  · exact (show Upd (fun i => i = b0) W4 _ by ((with_reducible repeat' first | exact Upd.refl _ _ | apply Upd.drew | apply Upd.drewN | apply Upd.alloc | refine Upd.setCell ?_ ?_) <;> first | (intro _ _ h; exact h) | (intro _ _ h; exact h.elim) | (intro i h1 h2; exfalso; (try simp only at h2); omega) | (left; rfl) | (right; dsimp only; omega) | (right; omega))).block D1 (Array.getElem?_eq_some_iff.1 HD1'.out).1 (fun e => n1 e.symm) |>.trans HD1'.out
  · intro w' hU'
    have h := HU4.out
    exact ⟨rfl, by ((with_reducible repeat' first | exact Upd.refl _ _ | apply Upd.drew | apply Upd.drewN | apply Upd.alloc | refine Upd.setCell ?_ ?_ | refine Upd.call hU' ?_ ?_ | refine Upd.call h ?_ ?_) <;> first | (intro _ _ h; exact h) | (intro _ _ h; exact h.elim) | (intro i h1 h2; exfalso; (try simp only at h2); omega) | (left; rfl) | (right; dsimp only; omega) | (right; omega))⟩
end Go.Proofs.Ytmblplhehbdocaa
