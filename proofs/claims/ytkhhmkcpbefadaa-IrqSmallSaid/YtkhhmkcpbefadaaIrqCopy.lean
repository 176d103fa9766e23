/- A board's copy. Conditions: the board is known. -/
import Derived.Test.YtkhhmkcpbefadaaIrqOver
import Derived.Test.YtkhhmkcpbefadaaIrqTurn
import Derived.Deep.WholeRow
namespace Go.Proofs.Ytkhhmkcpbefadaa
open Go.RowKit
theorem Wires.all {w : World} {v : Value} {ws : List WR} {r : Nat} (h : Wires w v ws r) : ∃ A c, v = .slice A ws.length c ∧ (0 < ws.length → ∃ b o, A = some ⟨b, o, none⟩ ∧ ∀ j u, (wenc ws)[j]? = some u → w.cell? ⟨b, o + j, none⟩ = some u) := by
  rcases h with ⟨rfl, rfl⟩ | ⟨cap, cur, rfl, hb, h1, h2, hz, ht⟩
  · exact ⟨none, 0, rfl, fun h => absurd h (by decide)⟩
  · refine ⟨_, cap, rfl, fun _ => ⟨r, 0, rfl, fun j u hj => ?_⟩⟩
    have hjl : j < ws.length * 3 := by have := (List.getElem?_eq_some_iff.1 hj).1; rwa [wenc_length] at this
    rw [Nat.zero_add]
    refine hb.cell j ?_
    rw [← ht, List.getElem?_take, if_pos hjl] at hj
    simpa using hj
theorem wenc_one : ∀ ws : List WR, (wenc ws).all (fun u => u.oneCell') = true
  | [] => rfl
  | x :: l => by rw [wenc, List.all_append, wenc_one l]; rfl
theorem nil_run (w : World) : (binOp .eql 61 (.slice none 0 0) (.slice none 0 0)).run Try.prog w = .ok (.bool true) w := by rfl
theorem some_run (a : Addr) (n c : Nat) (w : World) : (binOp .eql 61 (.slice (some a) n c) (.slice none 0 0)).run Try.prog w = .ok (.bool false) w := by rfl
theorem own_empty {w : World} {base g : Nat} {e : TypeId} {sz : Nat} (hb : Blk w g #[] e) (h : base ≤ g) : w.ownsRow base e sz (.slice (some ⟨g, 0, none⟩) 0 0) 0 [] :=
  ⟨by simp, .inr ⟨g, 0, #[], rfl, h, hb, Nat.le_refl _, Nat.zero_le _, by simp, by simp⟩⟩
set_option maxRecDepth 100000 in
set_option maxHeartbeats 4000000 in
theorem clone_is {v : Value} {ws : List WR} {r : Nat} (hn : ws.length ≤ 1000) (w : World) (h : Wires w v ws r) :
    Calls Try.prog 53 #[v] w fun e w' => ∃ v', e = .returned v' ∧ w'.ownsRow w.heap.size 73 3 v' ws.length (wenc ws) ∧ Upd Non w w' := by
  by_cases hv : v = .slice none 0 0
  · subst hv
    have hws : ws = [] := by
      rcases h with ⟨h, _⟩ | ⟨_, _, h, _⟩
      · exact h
      · cases h
    subst hws
    clear h
    have q1 := nil_run
    go_enter Try.func53, Try.ntmps53
    go_wp2_with fail
    go_ret
    exact ⟨_, rfl, World.ownsRow_nil _ _ _ _, Upd.refl _ _⟩
  · obtain ⟨A, c, rfl, hc⟩ := h.all
    have hA : ∃ a, A = some a := by
      rcases h with ⟨rfl, h⟩ | ⟨cap, cur, h, _⟩
      · exact absurd h hv
      · cases h; exact ⟨_, rfl⟩
    obtain ⟨a, rfl⟩ := hA
    have HR := Lib.hid (app_row 61 73 3 24 (.agg #[.int .i64 0, .int .i64 0, .bool false]) Try.underlying61 (by kernel_rfl) rfl (by decide) (W := w.alloc (.cells #[] 73)) (base := w.heap.size) (own_empty (Blk.new w #[] 73) (Nat.le_refl _)) (some a) ws.length c (wenc ws) (wenc_length ws) (wenc_one ws) (fun hp => by
      obtain ⟨b, o, e, hh⟩ := hc hp
      exact ⟨b, o, e, fun j u hj => ((Upd.refl Non w).alloc).cell_eq id (hh j u hj)⟩) (by omega) (by omega) (by rw [World.size_alloc]; omega))
    obtain ⟨g, cap, w2, hr, hown, hgr⟩ := HR.out
    have HRR := Lib.hid hr
    have HO := Lib.hid hown
    have HU := Lib.hid (show Upd Non w w2 from Upd.grown hgr (Upd.refl _ _).alloc (fun r h => .inr (by injection h with h; omega)))
    clear h hc hr hown hgr HR
    have q1 := some_run a ws.length c
    go_enter Try.func53, Try.ntmps53
    go_wp2_with (refine wpList_appendK rfl _ _ 61 rfl rfl rfl HRR.out ?_)
    go_ret
    exact ⟨_, rfl, by have := HO.out; simpa using this, HU.out⟩
set_option maxRecDepth 100000 in
set_option maxHeartbeats 8000000 in
theorem copy_b {ws : List WR} {s : WS} {b r : Nat} (hn : ws.length ≤ 1000) (w : World) (h : BI w b r ws s) :
    Calls Try.prog 48 #[.pointer (some ⟨b, 0, none⟩)] w fun e w' => e = .returned (.pointer (some ⟨w.heap.size, 0, none⟩)) ∧ (∃ q, BI w' w.heap.size q ws s ∧ w.heap.size ≤ q) ∧ Upd Non w w' := by
  obtain ⟨v, h1, h2, h3⟩ := h.ex
  obtain ⟨A2, c2, rfl, _⟩ := h2.slice
  have H := Lib.hid h
  have HB := Lib.hid h1
  have HW := Lib.hid h2
  clear h h1 h2 h3
  go_enter Try.func48, Try.ntmps48
  go_wp2_with (first
    | (go_at_call 30; refine (there_is _ HB.out).mono ?_; rintro e w1 ⟨rfl, rfl⟩)
    | (refine wpList_load_row rfl 70 _ rfl b rfl 70 _ (0, 0) _ HB.out.blk Try.underlying70 rfl (by kernel_rfl) ?_)
    | (refine wpList_store_row rfl 70 _ _ rfl w.heap.size (benc (.slice A2 ws.length c2) s) rfl rfl 70 #[.slice none 0 0, .int .u8 0, .int .u8 0, .int .u8 0, .int .u8 0, .int .u8 0, .int .u8 0, .int .u8 0, .int .u8 0, .int .u8 0, .int .u8 0, .int .u8 0, .int .u8 0, .int .u8 0, .int .u8 0, .int .u8 0, .int .u8 0, .bool false] (heap_alloc_new w _) (by kernel_rfl) rfl (by kernel_rfl) ?_; rw [World.setRow_alloc_new]; obtain ⟨cb, hcb⟩ : ∃ x, x = w.heap.size := ⟨_, rfl⟩; obtain ⟨w2, hw2⟩ : ∃ x, x = w.alloc (.cells (benc (.slice A2 ws.length c2) s) 70) := ⟨_, rfl⟩; have HC := Lib.hid (show BBlk w2 cb (.slice A2 ws.length c2) s by rw [hw2]; exact Blk.newAt hcb); have HU := Lib.hid (show Upd Non w w2 by rw [hw2]; exact (Upd.refl _ _).alloc); have c0 : w2.cell? ⟨b, 0, none⟩ = some (.slice A2 ws.length c2) := HU.out.cell_eq id (HB.out.blk.cell 0 (benc_row _ _)); have hcb2 := Lib.hid hcb; rw [← hcb, ← hw2]; clear hcb hw2))
  refine (clone_is hn w2 (HW.out.upd HU.out id)).mono ?_
  rintro e w3 ⟨v', rfl, hown, hu3⟩
  obtain ⟨A', c', rfl⟩ := own_slice hown
  have hcb3 : cb < w2.heap.size := HC.out.blk.lt
  have HC3 := Lib.hid (BBlk.upd hu3 HC.out id)
  have HU3 := Lib.hid (Upd.call hu3 HU.out fun _ _ h => h)
  have HO := Lib.hid hown
  have c1 := HC3.out.blk.cell 0 (benc_row _ _)
  have f1 := HC3.out.blk.frozen 0
  have hwcb : w.heap.size ≤ cb := by rw [hcb2.out]; omega
  clear hown hu3 c0 HC
  go_wp2_with fail
  go_ret
  rw [hcb2.out]
  refine ⟨rfl, ?_, HU3.out.setCell (.inr (by have := hcb2.out; dsimp only; omega))⟩
  rw [← hcb2.out]
  obtain ⟨q, hW, hq⟩ := Wires.of_own (r0 := cb) HO.out
  have hB : BBlk (w3.setCell ⟨cb, 0, none⟩ (.slice A' ws.length c')) cb (.slice A' ws.length c') s := Blk.eq (Blk.set HC3.out.blk) (benc_setRow _ _ _)
  rcases hq with ⟨hq0, rfl⟩ | ⟨hq1, hq2, hq3⟩
  · have hws : ws = [] := by
      rcases hW with ⟨h, _⟩ | ⟨_, _, h, _⟩
      · exact h
      · rw [hq0] at h; cases h
    exact ⟨q, ⟨⟨_, hB, .inl ⟨hws, hq0⟩, .inr ⟨hws, hq0⟩⟩, hB.blk.lt⟩, Nat.le_refl _⟩
  · refine ⟨q, ⟨⟨_, hB, hW.upd (S := fun i => i = cb) ((Upd.refl _ _).setCell (.inl rfl)) (by omega), .inl (by omega)⟩, by rw [World.size_setCell]; exact hq3⟩, by omega⟩
end Go.Proofs.Ytkhhmkcpbefadaa
