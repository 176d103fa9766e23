/- A uart's registers, its ticks, a fresh one. Conditions: the uart's blocks are known. -/
import Derived.Test.YtlpfjjhjfmcfmaaUartFns
namespace Go.Proofs.Ytlpfjjhjfmcfmaa
open Go.RowKit
theorem Upd.imw (w : World) (m : IM) (j : Nat) : Upd Non w (MW w m j) := ((Upd.refl Non w).alloc).drewN
section
variable {w W W' : World} {b f g h k : Nat} {s s' : US}
set_option maxRecDepth 100000 in
theorem read0_u (w : World) (x : UB w b f g h k s) : Calls Try.prog 12 #[.pointer (some ⟨b, 0, none⟩), .int .i64 0] w fun e w' => e = .returned (.int .u32 s.tkv) ∧ UW w w' b f g h k s.tk := by
  have X := Lib.hid x
  clear x
  have hm0 := run_make_mw67 w
  have hin := fun m j k v h => run_insert_mw67 w m j k v h
  have hlk := fun m j k => run_lookup_mw67 w m j k
  have hn0 := fun k => IM.has_none k
  have hn1 := fun m k v i => IM.has_ins m k v i
  have qn := fun f x y w => ne_func66 f x y w
  have hl0 := fun k z => IM.look_none k z
  have hl1 := fun m k i v z h => IM.look_ins m k i v z h
  go_enter Try.func12, Try.ntmps12
  go_wp2_with fail
  refine (there_u _ X.out).mono ?_
  rintro e w1 ⟨rfl, rfl⟩
  go_wp2_with fail
  refine (taken_u _ (X.out.non (Upd.imw _ _ _))).mono ?_
  rintro e w1 ⟨rfl, hW⟩
  have HW := Lib.hid (hW.base (Upd.imw _ _ _))
  clear hW
  go_wp2_with fail
  go_ret
  exact ⟨rfl, HW.out⟩
set_option maxRecDepth 100000 in
theorem read1_u (w : World) (x : UB w b f g h k s) : Calls Try.prog 12 #[.pointer (some ⟨b, 0, none⟩), .int .i64 1] w fun e w' => e = .returned (.int .u32 s.st) ∧ Upd Non w w' := by
  have X := Lib.hid x
  clear x
  have hm0 := run_make_mw67 w
  have hin := fun m j k v h => run_insert_mw67 w m j k v h
  have hlk := fun m j k => run_lookup_mw67 w m j k
  have hn0 := fun k => IM.has_none k
  have hn1 := fun m k v i => IM.has_ins m k v i
  have qn := fun f x y w => ne_func66 f x y w
  have hl0 := fun k z => IM.look_none k z
  have hl1 := fun m k i v z h => IM.look_ins m k i v z h
  go_enter Try.func12, Try.ntmps12
  go_wp2_with fail
  refine (there_u _ X.out).mono ?_
  rintro e w1 ⟨rfl, rfl⟩
  go_wp2_with fail
  refine (status_u _ (X.out.non (Upd.imw _ _ _))).mono ?_
  rintro e w1 ⟨rfl, hW⟩
  have HW := Lib.hid (Upd.call hW (Upd.imw w _ _) fun _ _ h => h)
  clear hW
  go_wp2_with fail
  go_ret
  exact ⟨rfl, HW.out⟩
set_option maxRecDepth 100000 in
set_option maxHeartbeats 4000000 in
theorem write0_u (v : Int) (w : World) (x : UB w b f g h k s) : Calls Try.prog 11 #[.pointer (some ⟨b, 0, none⟩), .int .i64 0, .int .u32 v] w fun e w' => e = .returned (.tuple #[]) ∧ UW w w' b f g h k (s.snd (IntKind.u8.wrap v)) := by
  have X := Lib.hid x
  clear x
  have hm1 : (Instr.makeMap 65 .none).run Try.prog w.drew = .ok (.map (some w.heap.size)) (MW w IM.none 1) := rfl
  have hm0 := run_make_mw65 w
  have hin := fun m j k v h => run_insert_mw65 w m j k v h
  have hlk := fun m j k => run_lookup_mw65 w m j k
  have hdr := fun m j => MW_drew w m j
  have hn0 := fun k => IM.has_none k
  have hn1 := fun m k v i => IM.has_ins m k v i
  have qn := fun f x y w => ne_func64 f x y w
  have hl0 := fun k z => IM.look_none k z
  have hl1 := fun m k i v z h => IM.look_ins m k i v z h
  go_enter Try.func11, Try.ntmps11
  go_wp2_with fail
  refine (there_u _ X.out).mono ?_
  rintro e w1 ⟨rfl, rfl⟩
  go_wp2_with fail
  go_region
  all_goals
    go_wp2_with fail
    refine (send_u v _ (X.out.non (Upd.imw _ _ _))).mono ?_
    rintro e w1 ⟨rfl, hW⟩
    have HW := Lib.hid (hW.base (Upd.imw _ _ _))
    clear hW
    go_wp2_with fail
    go_end0
    exact ⟨rfl, HW.out⟩
set_option maxRecDepth 100000 in
set_option maxHeartbeats 4000000 in
theorem write2_u (v : Int) (h0 : 0 ≤ v) (h1 : v < 4294967296) (w : World) (x : UB w b f g h k s) : Calls Try.prog 11 #[.pointer (some ⟨b, 0, none⟩), .int .i64 2, .int .u32 v] w fun e w' => e = .returned (.tuple #[]) ∧ UW w w' b f g h k (s.se v) := by
  have X := Lib.hid x
  clear x
  have hm1 : (Instr.makeMap 65 .none).run Try.prog w.drew = .ok (.map (some w.heap.size)) (MW w IM.none 1) := rfl
  have hm0 := run_make_mw65 w
  have hin := fun m j k v h => run_insert_mw65 w m j k v h
  have hlk := fun m j k => run_lookup_mw65 w m j k
  have hdr := fun m j => MW_drew w m j
  have hn0 := fun k => IM.has_none k
  have hn1 := fun m k v i => IM.has_ins m k v i
  have qn := fun f x y w => ne_func64 f x y w
  have hl0 := fun k z => IM.look_none k z
  have hl1 := fun m k i v z h => IM.look_ins m k i v z h
  go_enter Try.func11, Try.ntmps11
  go_wp2_with fail
  refine (there_u _ X.out).mono ?_
  rintro e w1 ⟨rfl, rfl⟩
  go_wp2_with fail
  go_region
  all_goals
    go_wp2_with fail
    refine (set_u v h0 h1 _ (X.out.non (Upd.imw _ _ _))).mono ?_
    rintro e w1 ⟨rfl, hW⟩
    have HW := Lib.hid (hW.base (Upd.imw _ _ _))
    clear hW
    go_wp2_with fail
    go_end0
    exact ⟨rfl, HW.out⟩
theorem new_u (w : World) : Calls Try.prog 10 #[] w fun e w' => ∃ b f g h k, e = .returned (.pointer (some ⟨b, 0, none⟩)) ∧ UX w w' b f g h k US.fresh := by
  go_enter Try.func10, Try.ntmps10
  go_wp2_with fail
  refine (new_any 8 (by unfold maxI; omega) _).mono ?_
  rintro e w1 ⟨rfl, hF, hU⟩
  have HF := Lib.hid hF
  have HU := Lib.hid hU
  have hl := hF.lt
  clear hF hU
  go_wp2_with fail
  refine (new_any 8 (by unfold maxI; omega) _).mono ?_
  rintro e w2 ⟨rfl, hG, hU⟩
  have HF2 := Lib.hid (HF.out.non hU)
  have HU2 := Lib.hid (Upd.call hU HU.out fun _ _ h => h)
  have HG := Lib.hid hG
  have hl2 := hG.lt
  clear hG hU HF HU
  go_wp2_with fail
  go_ret
  refine ⟨w2.heap.size, w.heap.size, w.heap.size, w1.heap.size, w1.heap.size, rfl, ⟨⟨Blk.new _ _ _, HF2.out.non (by ((with_reducible repeat' first | exact Upd.refl _ _ | apply Upd.drew | apply Upd.drewN | apply Upd.alloc | refine Upd.setCell ?_ ?_) <;> first | (intro _ _ h; exact h) | (intro _ _ h; exact h.elim) | (intro i h1 h2; exfalso; (try simp only at h2); omega) | (left; rfl) | (right; dsimp only; omega) | (right; omega))), HG.out.non (by ((with_reducible repeat' first | exact Upd.refl _ _ | apply Upd.drew | apply Upd.drewN | apply Upd.alloc | refine Upd.setCell ?_ ?_) <;> first | (intro _ _ h; exact h) | (intro _ _ h; exact h.elim) | (intro i h1 h2; exfalso; (try simp only at h2); omega) | (left; rfl) | (right; dsimp only; omega) | (right; omega))), by omega, US.fresh_ok⟩, HU2.out.alloc, by have := HU2.out.size; omega⟩⟩
/-- A tick. -/
def US.tc (s : US) : US := if s.ph = 3 then { s with ph := 0, gs := s.gs.tail } else { s with ph := s.ph + 1 }
set_option maxHeartbeats 4000000 in
theorem tick_u (w : World) (x : UB w b f g h k s) : Calls Try.prog 16 #[.pointer (some ⟨b, 0, none⟩)] w fun e w' => e = .returned (.tuple #[.int .u8 (if s.ph = 3 then headI s.gs else 0), .bool (if s.ph = 3 then someI s.gs else false)]) ∧ UW w w' b f g h k s.tc := by
  have c2 := x.B.cell 2 rfl
  have q2 := x.B.frozen 2
  have c4 := x.B.cell 4 rfl
  have hp := x.ok.ph
  have X := Lib.hid x
  have hne := x.ne
  clear x
  by_cases hq : s.ph = 3
  · rw [if_pos hq, if_pos hq, show s.tc = { s with ph := 0, gs := s.gs.tail } from if_pos hq]
    rw [hq] at c2
    go_enter Try.func16, Try.ntmps16
    go_wp2_with fail
    refine (there_u _ X.out).mono ?_
    rintro e w1 ⟨rfl, rfl⟩
    go_wp2_with fail
    have hu1 : Upd (fun i => i = b) w (w.setCell ⟨b, 2, none⟩ (.int .i64 0)) := by ((with_reducible repeat' first | exact Upd.refl _ _ | apply Upd.drew | apply Upd.drewN | apply Upd.alloc | refine Upd.setCell ?_ ?_) <;> first | (intro _ _ h; exact h) | (intro _ _ h; exact h.elim) | (intro i h1 h2; exfalso; (try simp only at h2); omega) | (left; rfl) | (right; dsimp only; omega) | (right; omega))
    refine (take_any05 _ (X.out.G.upd hu1 (fun e => by omega) (fun e => by omega))).mono ?_
    rintro e w2 ⟨rfl, hG, hU⟩
    have HU := Lib.hid (show Upd (UB.blocks b f g h k) w w2 from Upd.trans hu1 hU (fun _ e => .inl e) fun _ _ e => .inr (.inr (.inr (.inl e))))
    have HB := Lib.hid (Blk.upd hU (Blk.set (i := 2) (v := .int .i64 0) X.out.B) (fun e => by omega))
    have HF := Lib.hid ((X.out.F.upd hu1 (fun e => by omega) (fun e => by omega)).upd hU (fun e => by omega) (fun e => by omega))
    have HG := Lib.hid hG
    clear hu1 hU hG
    go_wp2_with fail
    go_ret2
    exact ⟨rfl, ⟨g, k, .inl rfl, .inl rfl, HB.out, HF.out, HG.out, hne, X.out.ok.c0, X.out.ok.c1, by show 0 < 4; decide, X.out.ok.bc⟩, HU.out⟩
  · rw [if_neg hq, if_neg hq, show s.tc = { s with ph := s.ph + 1 } from if_neg hq]
    have h3 : s.ph = 0 ∨ s.ph = 1 ∨ s.ph = 2 := by omega
    rcases h3 with h3 | h3 | h3
    all_goals
      have H3 := Lib.hid h3
      rw [h3] at c2
      clear h3 hq hp
      go_enter Try.func16, Try.ntmps16
      go_wp2_with fail
      refine (there_u _ X.out).mono ?_
      rintro e w1 ⟨rfl, rfl⟩
      go_wp2_with fail
      go_ret2
      refine ⟨rfl, ⟨g, k, .inl rfl, .inl rfl, Blk.eq (Blk.set X.out.B) (by rw [H3.out]; rfl), X.out.F.upd (S := fun i => i = b) (by ((with_reducible repeat' first | exact Upd.refl _ _ | apply Upd.drew | apply Upd.drewN | apply Upd.alloc | refine Upd.setCell ?_ ?_) <;> first | (intro _ _ h; exact h) | (intro _ _ h; exact h.elim) | (intro i h1 h2; exfalso; (try simp only at h2); omega) | (left; rfl) | (right; dsimp only; omega) | (right; omega))) (fun e => by omega) (fun e => by omega), X.out.G.upd (S := fun i => i = b) (by ((with_reducible repeat' first | exact Upd.refl _ _ | apply Upd.drew | apply Upd.drewN | apply Upd.alloc | refine Upd.setCell ?_ ?_) <;> first | (intro _ _ h; exact h) | (intro _ _ h; exact h.elim) | (intro i h1 h2; exfalso; (try simp only at h2); omega) | (left; rfl) | (right; dsimp only; omega) | (right; omega))) (fun e => by omega) (fun e => by omega), hne, X.out.ok.c0, X.out.ok.c1, by show s.ph + 1 < 4; rw [H3.out]; decide, X.out.ok.bc⟩, Upd.mono (S := fun i => i = b) (by ((with_reducible repeat' first | exact Upd.refl _ _ | apply Upd.drew | apply Upd.drewN | apply Upd.alloc | refine Upd.setCell ?_ ?_) <;> first | (intro _ _ h; exact h) | (intro _ _ h; exact h.elim) | (intro i h1 h2; exfalso; (try simp only at h2); omega) | (left; rfl) | (right; dsimp only; omega) | (right; omega))) fun _ _ h => .inl h⟩
end
end Go.Proofs.Ytlpfjjhjfmcfmaa
