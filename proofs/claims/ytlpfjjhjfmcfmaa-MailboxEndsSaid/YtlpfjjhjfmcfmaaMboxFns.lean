/- A mailbox: its memory as a structure, and the contracts of its small functions. Conditions: the mailbox's blocks are known. -/
import Derived.Test.YtlpfjjhjfmcfmaaFifoWCopy
namespace Go.Proofs.Ytlpfjjhjfmcfmaa
open Go.RowKit
/-- What a mailbox has. -/
structure MS where
  xs : List Int
  ctrl : Int
  lost : Int
structure MS.ok (s : MS) : Prop where
  c0 : 0 ≤ s.ctrl
  c1 : s.ctrl ≤ 1
  l0 : 0 ≤ s.lost
  l1 : s.lost ≤ 4294967295
def MS.fresh : MS := ⟨[], 0, 0⟩
theorem MS.fresh_ok : MS.fresh.ok := ⟨by decide, by decide, by decide, by decide⟩
/-- A mailbox at block b; its fifo lies at f, its ring at g. -/
structure MB (w : World) (b f g : Nat) (s : MS) : Prop where
  B : Blk w b #[.pointer (some ⟨f, 0, none⟩), .int .u32 s.ctrl, .int .u32 s.lost] 56
  F : FI w f s.xs 4 g
  ne : b ≠ f ∧ b ≠ g
  ok : s.ok
section
variable {w w' : World} {b f g : Nat} {s : MS}
theorem MB.upd {S : Nat → Prop} (u : Upd S w w') (h : MB w b f g s) (hb : ¬ S b) (hf : ¬ S f) (hg : ¬ S g) : MB w' b f g s := ⟨Blk.upd u h.B hb, h.F.upd u hf hg, h.ne, h.ok⟩
theorem MB.non (u : Upd Non w w') (h : MB w b f g s) : MB w' b f g s := h.upd u id id id
theorem MB.le (h : MB w b f g s) : s.xs.length ≤ 4 := h.F.le.1
abbrev MB.blocks (b f g : Nat) : Nat → Prop := fun i => i = b ∨ i = f ∨ i = g
/-- The mailbox alone may have turned. -/
structure MW (w w' : World) (b f g : Nat) (s' : MS) : Prop where
  m : ∃ g', (g' = g ∨ w.heap.size ≤ g') ∧ MB w' b f g' s'
  u : Upd (MB.blocks b f g) w w'
theorem there_m (w : World) (h : MB w b f g s) : Calls Try.prog 46 #[.pointer (some ⟨b, 0, none⟩)] w fun e w' => e = .returned (.bool true) ∧ w = w' := by
  have c0 := h.B.cell 0 rfl
  clear h
  go_enter Try.func46, Try.ntmps46
  go_wp2
  go_ret
  exact ⟨rfl, rfl⟩
theorem control_m (w : World) (h : MB w b f g s) : Calls Try.prog 49 #[.pointer (some ⟨b, 0, none⟩)] w fun e w' => e = .returned (.int .u32 s.ctrl) ∧ w = w' := by
  have c0 := h.B.cell 1 rfl
  clear h
  go_enter Try.func49, Try.ntmps49
  go_wp2
  go_ret
  exact ⟨rfl, rfl⟩
theorem missed_m (w : World) (h : MB w b f g s) : Calls Try.prog 50 #[.pointer (some ⟨b, 0, none⟩)] w fun e w' => e = .returned (.int .u32 s.lost) ∧ w = w' := by
  have c0 := h.B.cell 2 rfl
  clear h
  go_enter Try.func50, Try.ntmps50
  go_wp2
  go_ret
  exact ⟨rfl, rfl⟩
theorem many_m (w : World) (h : MB w b f g s) : Calls Try.prog 48 #[.pointer (some ⟨b, 0, none⟩)] w fun e w' => e = .returned (.int .u32 s.xs.length) ∧ w = w' := by
  have c0 := h.B.cell 0 rfl
  have hl := h.le
  have HF := Lib.hid h.F
  have e1 : IntKind.u32.wrap (s.xs.length : Int) = (s.xs.length : Int) := by rw [IntKind.wrap_u32]; omega
  clear h
  go_enter Try.func48, Try.ntmps48
  go_wp2_with fail
  refine (len_any _ HF.out).mono ?_
  rintro e w1 ⟨rfl, rfl⟩
  go_wp2_with fail
  go_ret
  exact ⟨rfl, rfl⟩
def MS.tk (s : MS) : MS := { s with xs := s.xs.tail }
theorem MS.tk_ok (h : s.ok) : s.tk.ok := ⟨h.c0, h.c1, h.l0, h.l1⟩
theorem taken_m (w : World) (h : MB w b f g s) : Calls Try.prog 47 #[.pointer (some ⟨b, 0, none⟩)] w fun e w' => e = .returned (.int .u32 (headI s.xs)) ∧ MW w w' b f g s.tk := by
  have c0 := h.B.cell 0 rfl
  have H := Lib.hid h
  clear h
  go_enter Try.func47, Try.ntmps47
  go_wp2_with fail
  refine (take_any05 _ H.out.F).mono ?_
  rintro e w1 ⟨rfl, hF, hU⟩
  have HW := Lib.hid (show MW w w1 b f g s.tk from ⟨⟨g, .inl rfl, Blk.upd hU H.out.B H.out.ne.1, hF, H.out.ne, MS.tk_ok H.out.ok⟩, hU.mono fun _ _ h => .inr (.inl h)⟩)
  clear hF hU
  go_wp2_with fail
  go_ret
  exact ⟨rfl, HW.out⟩
theorem nothing_m (v : Int) (w : World) : Calls Try.prog 43 #[.pointer (some ⟨b, 0, none⟩), .int .u32 v] w fun e w' => e = .returned (.tuple #[]) ∧ w = w' := by
  go_enter Try.func43, Try.ntmps43
  go_wp2
  go_end0
  exact ⟨rfl, rfl⟩
def MS.fo (s : MS) : MS := { s with lost := 0 }
theorem MS.fo_ok (h : s.ok) : s.fo.ok := ⟨h.c0, h.c1, Int.le_refl _, by show (0 : Int) ≤ 4294967295; decide⟩
theorem forget_m (v : Int) (w : World) (h : MB w b f g s) : Calls Try.prog 45 #[.pointer (some ⟨b, 0, none⟩), .int .u32 v] w fun e w' => e = .returned (.tuple #[]) ∧ MW w w' b f g s.fo := by
  have c0 := h.B.cell 2 rfl
  have f0 := h.B.frozen 2
  have H := Lib.hid h
  clear h
  go_enter Try.func45, Try.ntmps45
  go_wp2
  go_end0
  have hU : Upd (fun i => i = b) w (w.setCell ⟨b, 2, none⟩ (.int .u32 0)) := by ((with_reducible repeat' first | exact Upd.refl _ _ | apply Upd.drew | apply Upd.drewN | apply Upd.alloc | refine Upd.setCell ?_ ?_) <;> first | (intro _ _ h; exact h) | (intro _ _ h; exact h.elim) | (intro i h1 h2; exfalso; (try simp only at h2); omega) | (left; rfl) | (right; dsimp only; omega) | (right; omega))
  exact ⟨rfl, ⟨g, .inl rfl, Blk.eq (Blk.set H.out.B) rfl, H.out.F.upd hU (fun h => H.out.ne.1 h.symm) (fun h => H.out.ne.2 h.symm), H.out.ne, MS.fo_ok H.out.ok⟩, hU.mono fun _ _ h => .inl h⟩
def MS.se (s : MS) (v : Int) : MS := { s with ctrl := v % 2 }
theorem MS.se_ok {v : Int} (h : s.ok) : (s.se v).ok := ⟨by show 0 ≤ v % 2; omega, by show v % 2 ≤ 1; omega, h.l0, h.l1⟩
theorem and_1 {v : Int} (h0 : 0 ≤ v) (h1 : v < 4294967296) : bits .and .u32 v 1 = v % 2 := bits_mask .u32 32 (by decide) (fun n h0 h1 => by rw [IntKind.wrap_u32]; omega) 1 (by decide) v h0 h1
theorem set_m (v : Int) (h0 : 0 ≤ v) (h1 : v < 4294967296) (w : World) (h : MB w b f g s) : Calls Try.prog 44 #[.pointer (some ⟨b, 0, none⟩), .int .u32 v] w fun e w' => e = .returned (.tuple #[]) ∧ MW w w' b f g (s.se v) := by
  have c0 := h.B.cell 1 rfl
  have f0 := h.B.frozen 1
  have H := Lib.hid h
  have a1 := and_1 h0 h1
  clear h
  go_enter Try.func44, Try.ntmps44
  go_wp2
  go_end0
  have hU : Upd (fun i => i = b) w (w.setCell ⟨b, 1, none⟩ (.int .u32 (v % 2))) := by ((with_reducible repeat' first | exact Upd.refl _ _ | apply Upd.drew | apply Upd.drewN | apply Upd.alloc | refine Upd.setCell ?_ ?_) <;> first | (intro _ _ h; exact h) | (intro _ _ h; exact h.elim) | (intro i h1 h2; exfalso; (try simp only at h2); omega) | (left; rfl) | (right; dsimp only; omega) | (right; omega))
  exact ⟨rfl, ⟨g, .inl rfl, Blk.eq (Blk.set H.out.B) rfl, H.out.F.upd hU (fun h => H.out.ne.1 h.symm) (fun h => H.out.ne.2 h.symm), H.out.ne, MS.se_ok H.out.ok⟩, hU.mono fun _ _ h => .inl h⟩
/-- A word is put, or lost. -/
def MS.pu (s : MS) (v : Int) : MS := if s.xs.length < 4 then { s with xs := s.xs ++ [v] } else if s.lost < 4294967295 then { s with lost := s.lost + 1 } else s
theorem MS.pu_ok {v : Int} (h : s.ok) : (s.pu v).ok := by
  unfold MS.pu
  split
  · exact ⟨h.c0, h.c1, h.l0, h.l1⟩
  · split
    · exact ⟨h.c0, h.c1, by have := h.l0; show 0 ≤ s.lost + 1; omega, by show s.lost + 1 ≤ _; omega⟩
    · exact h
set_option maxHeartbeats 4000000 in
theorem put_m (v : Int) (w : World) (h : MB w b f g s) : Calls Try.prog 42 #[.pointer (some ⟨b, 0, none⟩), .int .u32 v] w fun e w' => e = .returned (.tuple #[]) ∧ MW w w' b f g (s.pu v) := by
  have c0 := h.B.cell 0 rfl
  have H := Lib.hid h
  have hl := h.le
  clear h
  go_enter Try.func42, Try.ntmps42
  go_wp2_with fail
  refine (put_any05 v (by omega) _ H.out.F).mono ?_
  rintro e w1 ⟨rfl, ⟨g', hg, hF⟩, hU⟩
  have hUb : ¬ (b = f ∨ b = g) := fun h => h.elim H.out.ne.1 H.out.ne.2
  have hB := Blk.upd hU H.out.B hUb
  have hbl := H.out.B.lt
  have hne : b ≠ f ∧ b ≠ g' := ⟨H.out.ne.1, by rcases hg with e | e; · rw [e]; exact H.out.ne.2
                                               · omega⟩
  by_cases hq : s.xs.length < 4
  · rw [decide_eq_true hq]
    rw [if_pos hq] at hF
    have HW := Lib.hid (show MW w w1 b f g (s.pu v) from ⟨⟨g', hg, by unfold MS.pu; rw [if_pos hq]; exact ⟨hB, hF, hne, ⟨H.out.ok.c0, H.out.ok.c1, H.out.ok.l0, H.out.ok.l1⟩⟩⟩, hU.mono fun _ _ h => h.elim (fun h => .inr (.inl h)) fun h => .inr (.inr h)⟩)
    clear hB hF hU
    go_wp2_with fail
    go_end0
    exact ⟨rfl, HW.out⟩
  rw [decide_eq_false hq]
  rw [if_neg hq] at hF
  by_cases hl2 : s.lost < 4294967295
  · have c2 := hB.cell 2 rfl
    have f2 := hB.frozen 2
    have g1 : IntKind.u32.wrap (s.lost + 1) = s.lost + 1 := by have := H.out.ok.l0; rw [IntKind.wrap_u32]; omega
    have HB := Lib.hid hB
    have HF := Lib.hid hF
    have HU := Lib.hid hU
    clear hB hF hU
    go_wp2_with fail
    go_end0
    have hU2 : Upd (fun i => i = b) w1 (w1.setCell ⟨b, 2, none⟩ (.int .u32 (s.lost + 1))) := by ((with_reducible repeat' first | exact Upd.refl _ _ | apply Upd.drew | apply Upd.drewN | apply Upd.alloc | refine Upd.setCell ?_ ?_) <;> first | (intro _ _ h; exact h) | (intro _ _ h; exact h.elim) | (intro i h1 h2; exfalso; (try simp only at h2); omega) | (left; rfl) | (right; dsimp only; omega) | (right; omega))
    refine ⟨rfl, ⟨g', hg, ?_⟩, Upd.trans HU.out hU2 (fun _ h => .inr h) fun _ _ h => .inl h⟩
    unfold MS.pu
    rw [if_neg hq, if_pos hl2]
    exact ⟨Blk.eq (Blk.set HB.out) rfl, HF.out.upd hU2 (fun h => hne.1 h.symm) (fun h => hne.2 h.symm), hne, ⟨H.out.ok.c0, H.out.ok.c1, by have := H.out.ok.l0; show 0 ≤ s.lost + 1; omega, by show s.lost + 1 ≤ _; omega⟩⟩
  · have c2 := hB.cell 2 rfl
    have HW := Lib.hid (show MW w w1 b f g (s.pu v) from ⟨⟨g', hg, by unfold MS.pu; rw [if_neg hq, if_neg hl2]; exact ⟨hB, hF, hne, H.out.ok⟩⟩, hU.mono fun _ _ h => h.elim (fun h => .inr (.inl h)) fun h => .inr (.inr h)⟩)
    clear hB hF hU
    go_wp2_with fail
    go_end0
    exact ⟨rfl, HW.out⟩
/-- A register that is read. -/
def MS.rd (s : MS) (r : Int) : Int := if r = 0 then headI s.xs else if r = 1 then s.xs.length else if r = 2 then s.ctrl else if r = 3 then s.lost else 0
def MS.rdS (s : MS) (r : Int) : MS := if r = 0 then s.tk else s
theorem MB.same (h : MB w b f g s) : MW w w b f g s := ⟨⟨g, .inl rfl, h⟩, Upd.refl _ _⟩
theorem MW.base (u : Upd Non w w') {w2 : World} {s' : MS} (h : MW w' w2 b f g s') : MW w w2 b f g s' := by
  obtain ⟨⟨g', hg, hm⟩, hu⟩ := h
  exact ⟨⟨g', by have := u.size; omega, hm⟩, Upd.trans u hu (fun _ h => h.elim) fun _ _ h => h⟩
def readers : Array Value := #[.func (.func 47) #[] #[], .func (.func 48) #[] #[], .func (.func 49) #[] #[], .func (.func 50) #[] #[]]
def writers : Array Value := #[.func (.func 42) #[] #[], .func (.func 43) #[] #[], .func (.func 44) #[] #[], .func (.func 45) #[] #[]]
set_option maxRecDepth 100000 in
set_option maxHeartbeats 4000000 in
theorem read_m (r : Int) (w : World) (h : MB w b f g s) : Calls Try.prog 20 #[.pointer (some ⟨b, 0, none⟩), .int .i64 r] w fun e w' => e = .returned (.int .u32 (s.rd r)) ∧ MW w w' b f g (s.rdS r) ∧ (r ≠ 0 → Upd Non w w') := by
  have H := Lib.hid h
  clear h
  go_enter Try.func20, Try.ntmps20
  go_upto_region 2 with (refine wpList_store_row rfl 74 _ _ rfl w.heap.size #[.func (.func 47) #[] #[], .func (.func 48) #[] #[], .func (.func 49) #[] #[], .func (.func 50) #[] #[]] rfl rfl 74 #[.nilFunc, .nilFunc, .nilFunc, .nilFunc] (heap_alloc_new w _) (by kernel_rfl) rfl (by simp [Value.oneCell']) ?_; rw [World.setRow_alloc_new])
  obtain ⟨wa, hwa⟩ : ∃ x, x = w.alloc (.cells #[.func (.func 47) #[] #[], .func (.func 48) #[] #[], .func (.func 49) #[] #[], .func (.func 50) #[] #[]] 74) := ⟨_, rfl⟩
  obtain ⟨ga, hga⟩ : ∃ x, x = w.heap.size := ⟨_, rfl⟩
  have hA : Blk wa ga readers 74 := by rw [hwa]; exact Blk.newAt hga
  have HU := Lib.hid (show Upd Non w wa by rw [hwa]; ((with_reducible repeat' first | exact Upd.refl _ _ | apply Upd.drew | apply Upd.drewN | apply Upd.alloc | refine Upd.setCell ?_ ?_) <;> first | (intro _ _ h; exact h) | (intro _ _ h; exact h.elim) | (intro i h1 h2; exfalso; (try simp only at h2); omega) | (left; rfl) | (right; dsimp only; omega) | (right; omega)))
  have HM := Lib.hid (H.out.non HU.out)
  rw [← hwa, ← hga]
  clear hwa hga H
  by_cases h0 : 0 ≤ r ∧ r < 4
  case neg =>
    have HE := Lib.hid (show s.rd r = 0 by unfold MS.rd; rw [if_neg (by omega), if_neg (by omega), if_neg (by omega), if_neg (by omega)])
    have HS := Lib.hid (show s.rdS r = s by unfold MS.rdS; rw [if_neg (by omega)])
    have hr : r < 0 ∨ (¬ r < 0 ∧ 4 ≤ r) := by omega
    clear h0 hA
    go_wp2_with fail
    refine (there_m _ HM.out).mono ?_
    rintro e w1 ⟨rfl, rfl⟩
    rcases hr with hr | ⟨hr, hr2⟩
    all_goals
      go_wp2_with fail
      go_ret
      rw [HE.out, HS.out]
      exact ⟨rfl, HM.out.same.base HU.out, fun _ => HU.out⟩
  have c0 : wa.cell? ⟨ga, 0, none⟩ = some (.func (.func 47) #[] #[]) := hA.cell 0 rfl
  have c1 : wa.cell? ⟨ga, 1, none⟩ = some (.func (.func 48) #[] #[]) := hA.cell 1 rfl
  have c2 : wa.cell? ⟨ga, 2, none⟩ = some (.func (.func 49) #[] #[]) := hA.cell 2 rfl
  have c3 : wa.cell? ⟨ga, 3, none⟩ = some (.func (.func 50) #[] #[]) := hA.cell 3 rfl
  clear hA
  rcases (show r = 0 ∨ r = 1 ∨ r = 2 ∨ r = 3 by omega) with rfl | rfl | rfl | rfl
  all_goals clear h0
  · go_wp2_with fail
    refine (there_m _ HM.out).mono ?_
    rintro e w1 ⟨rfl, rfl⟩
    go_wp2_with fail
    refine (taken_m _ HM.out).mono ?_
    rintro e w1 ⟨rfl, hW⟩
    have HW := Lib.hid (hW.base HU.out)
    clear hW
    go_wp2_with fail
    go_ret
    exact ⟨rfl, HW.out, fun h => absurd rfl h⟩
  · go_wp2_with fail
    refine (there_m _ HM.out).mono ?_
    rintro e w1 ⟨rfl, rfl⟩
    go_wp2_with fail
    refine (many_m _ HM.out).mono ?_
    rintro e w1 ⟨rfl, rfl⟩
    go_wp2_with fail
    go_ret
    exact ⟨rfl, HM.out.same.base HU.out, fun _ => HU.out⟩
  · go_wp2_with fail
    refine (there_m _ HM.out).mono ?_
    rintro e w1 ⟨rfl, rfl⟩
    go_wp2_with fail
    refine (control_m _ HM.out).mono ?_
    rintro e w1 ⟨rfl, rfl⟩
    go_wp2_with fail
    go_ret
    exact ⟨rfl, HM.out.same.base HU.out, fun _ => HU.out⟩
  · go_wp2_with fail
    refine (there_m _ HM.out).mono ?_
    rintro e w1 ⟨rfl, rfl⟩
    go_wp2_with fail
    refine (missed_m _ HM.out).mono ?_
    rintro e w1 ⟨rfl, rfl⟩
    go_wp2_with fail
    go_ret
    exact ⟨rfl, HM.out.same.base HU.out, fun _ => HU.out⟩
/-- A register that is written. -/
def MS.wr (s : MS) (r v : Int) : MS := if r = 0 then s.pu v else if r = 2 then s.se v else if r = 3 then s.fo else s
set_option maxRecDepth 100000 in
set_option maxHeartbeats 4000000 in
theorem write_m (r v : Int) (h0 : 0 ≤ v) (h1 : v < 4294967296) (w : World) (h : MB w b f g s) : Calls Try.prog 19 #[.pointer (some ⟨b, 0, none⟩), .int .i64 r, .int .u32 v] w fun e w' => e = .returned (.tuple #[]) ∧ MW w w' b f g (s.wr r v) := by
  have H := Lib.hid h
  clear h
  go_enter Try.func19, Try.ntmps19
  go_upto_region 1 with (refine wpList_store_row rfl 72 _ _ rfl w.heap.size #[.func (.func 42) #[] #[], .func (.func 43) #[] #[], .func (.func 44) #[] #[], .func (.func 45) #[] #[]] rfl rfl 72 #[.nilFunc, .nilFunc, .nilFunc, .nilFunc] (heap_alloc_new w _) (by kernel_rfl) rfl (by simp [Value.oneCell']) ?_; rw [World.setRow_alloc_new])
  obtain ⟨wa, hwa⟩ : ∃ x, x = w.alloc (.cells #[.func (.func 42) #[] #[], .func (.func 43) #[] #[], .func (.func 44) #[] #[], .func (.func 45) #[] #[]] 72) := ⟨_, rfl⟩
  obtain ⟨ga, hga⟩ : ∃ x, x = w.heap.size := ⟨_, rfl⟩
  have hA : Blk wa ga writers 72 := by rw [hwa]; exact Blk.newAt hga
  have HU := Lib.hid (show Upd Non w wa by rw [hwa]; ((with_reducible repeat' first | exact Upd.refl _ _ | apply Upd.drew | apply Upd.drewN | apply Upd.alloc | refine Upd.setCell ?_ ?_) <;> first | (intro _ _ h; exact h) | (intro _ _ h; exact h.elim) | (intro i h1 h2; exfalso; (try simp only at h2); omega) | (left; rfl) | (right; dsimp only; omega) | (right; omega)))
  have HM := Lib.hid (H.out.non HU.out)
  rw [← hwa, ← hga]
  clear hwa hga H
  by_cases hr0 : 0 ≤ r ∧ r < 4
  case neg =>
    have HS := Lib.hid (show s.wr r v = s by unfold MS.wr; rw [if_neg (by omega), if_neg (by omega), if_neg (by omega)])
    have hr : (¬ 0 ≤ r) ∨ (0 ≤ r ∧ ¬ r < 4) := by omega
    clear hr0 hA
    go_wp2_with fail
    refine (there_m _ HM.out).mono ?_
    rintro e w1 ⟨rfl, rfl⟩
    rcases hr with hr | ⟨hr, hr2⟩
    all_goals
      go_wp2_with fail
      go_end0
      rw [HS.out]
      exact ⟨rfl, HM.out.same.base HU.out⟩
  have c0 : wa.cell? ⟨ga, 0, none⟩ = some (.func (.func 42) #[] #[]) := hA.cell 0 rfl
  have c1 : wa.cell? ⟨ga, 1, none⟩ = some (.func (.func 43) #[] #[]) := hA.cell 1 rfl
  have c2 : wa.cell? ⟨ga, 2, none⟩ = some (.func (.func 44) #[] #[]) := hA.cell 2 rfl
  have c3 : wa.cell? ⟨ga, 3, none⟩ = some (.func (.func 45) #[] #[]) := hA.cell 3 rfl
  clear hA
  rcases (show r = 0 ∨ r = 1 ∨ r = 2 ∨ r = 3 by omega) with rfl | rfl | rfl | rfl
  all_goals clear hr0
  · go_wp2_with fail
    refine (there_m _ HM.out).mono ?_
    rintro e w1 ⟨rfl, rfl⟩
    go_wp2_with fail
    refine (put_m v _ HM.out).mono ?_
    rintro e w1 ⟨rfl, hW⟩
    have HW := Lib.hid (hW.base HU.out)
    clear hW
    go_wp2_with fail
    go_end0
    exact ⟨rfl, HW.out⟩
  · go_wp2_with fail
    refine (there_m _ HM.out).mono ?_
    rintro e w1 ⟨rfl, rfl⟩
    go_wp2_with fail
    refine (nothing_m v _).mono ?_
    rintro e w1 ⟨rfl, rfl⟩
    go_wp2_with fail
    go_end0
    exact ⟨rfl, HM.out.same.base HU.out⟩
  · go_wp2_with fail
    refine (there_m _ HM.out).mono ?_
    rintro e w1 ⟨rfl, rfl⟩
    go_wp2_with fail
    refine (set_m v h0 h1 _ HM.out).mono ?_
    rintro e w1 ⟨rfl, hW⟩
    have HW := Lib.hid (hW.base HU.out)
    clear hW
    go_wp2_with fail
    go_end0
    exact ⟨rfl, HW.out⟩
  · go_wp2_with fail
    refine (there_m _ HM.out).mono ?_
    rintro e w1 ⟨rfl, rfl⟩
    go_wp2_with fail
    refine (forget_m v _ HM.out).mono ?_
    rintro e w1 ⟨rfl, hW⟩
    have HW := Lib.hid (hW.base HU.out)
    clear hW
    go_wp2_with fail
    go_end0
    exact ⟨rfl, HW.out⟩
theorem line_m (w : World) (h : MB w b f g s) : Calls Try.prog 21 #[.pointer (some ⟨b, 0, none⟩)] w fun e w' => e = .returned (.bool (decide (s.ctrl = 1) && decide (0 < s.xs.length))) ∧ w = w' := by
  have c0 := h.B.cell 0 rfl
  have c1 := h.B.cell 1 rfl
  have H := Lib.hid h
  clear h
  by_cases hc : s.ctrl = 1
  · have E := Lib.hid (show (decide (s.ctrl = 1) && decide (0 < s.xs.length)) = decide (0 < s.xs.length) by simp [hc])
    rw [hc] at c1
    clear hc
    go_enter Try.func21, Try.ntmps21
    go_wp2_with fail
    refine (there_m _ H.out).mono ?_
    rintro e w1 ⟨rfl, rfl⟩
    go_wp2_with fail
    refine (len_any _ H.out.F).mono ?_
    rintro e w1 ⟨rfl, rfl⟩
    go_wp2_with fail
    go_ret
    rw [E.out]
    exact ⟨rfl, rfl⟩
  · have E := Lib.hid (show (decide (s.ctrl = 1) && decide (0 < s.xs.length)) = false by simp [hc])
    have hc' : (s.ctrl == 1) = false := by simpa using hc
    go_enter Try.func21, Try.ntmps21
    go_wp2_with fail
    refine (there_m _ H.out).mono ?_
    rintro e w1 ⟨rfl, rfl⟩
    go_wp2_with fail
    go_ret
    rw [E.out]
    exact ⟨rfl, rfl⟩
end
end Go.Proofs.Ytlpfjjhjfmcfmaa
