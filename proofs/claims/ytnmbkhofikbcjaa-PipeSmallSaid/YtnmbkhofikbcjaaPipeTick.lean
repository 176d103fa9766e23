/- The document's Tick. Conditions: the pipe's block and its row are known. -/
import Derived.Test.YtnmbkhofikbcjaaPipeRef
import Derived.Lib.SmallJoins
namespace Go.Proofs.Ytnmbkhofikbcjaa
open Go.RowKit Go.Joins

/-- The document's pipe that is what the ring has. -/
abbrev RS (w : World) (br base : Nat) (s : PS) (v : Value) : Prop := RP w br base s.lat s.began (s.cells s.now).is s.ways v
theorem PS.puts_now (s : PS) (wo va er : Int) : ((s.puts wo va er).cells (s.puts wo va er).now).is = true := by
  have h : (s.puts wo va er).now = s.now := rfl
  rw [PS.puts_cell, if_pos h]
theorem PS.putA_now (s : PS) (wo va er : Int) : (s.putA wo va er).now = s.now := by
  unfold PS.putA; split
  · rfl
  · split <;> rfl
theorem PS.putA_lat (s : PS) (wo va er : Int) : (s.putA wo va er).lat = s.lat := by
  unfold PS.putA; split
  · rfl
  · split <;> rfl
theorem refPut_any (s : PS) (hs : s.ok) (br base : Nat) (v : Value) (wo va er : Int) (w : World) (h : RS w br base s v) (hbase : base ≤ w.heap.size) :
    Calls Try.prog 33 #[.pointer (some ⟨br, 0, none⟩), .int .i64 wo, .agg #[.int .u32 va, .int .i64 er]] w fun e w' => e = .returned (.int .i64 s.perr) ∧
      ∃ v', RS w' br base (s.putA wo va er) v' ∧ Upd (fun i => i = br ∨ v.ownBlock = some i) w w' ∧ (v'.ownBlock = v.ownBlock ∨ ∃ k, v'.ownBlock = some k ∧ w.heap.size ≤ k) := by
  have hle := PS.ways_le s
  have hl16 := hs.le
  unfold PS.perr PS.putA
  by_cases h1 : s.began = false
  · rw [if_pos h1, if_pos h1]
    have h' : RP w br base s.lat false (s.cells s.now).is s.ways v := by have q : RP w br base s.lat s.began (s.cells s.now).is s.ways v := h; rw [h1] at q; exact q
    refine (refPut_early br base s.lat (s.cells s.now).is s.ways v wo va er w h').mono ?_
    rintro e w' ⟨rfl, U⟩
    exact ⟨rfl, v, RP.upd U h id fun _ _ => id, U.mono fun _ _ h => h.elim, .inl rfl⟩
  · rw [if_neg h1, if_neg h1]
    have h1' : s.began = true := by simpa using h1
    by_cases h2 : (s.cells s.now).is = true
    · rw [if_pos h2, if_pos h2]
      have h' : RP w br base s.lat true true s.ways v := by have q : RP w br base s.lat s.began (s.cells s.now).is s.ways v := h; rw [h1', h2] at q; exact q
      refine (refPut_full br base s.lat s.ways v wo va er w h').mono ?_
      rintro e w' ⟨rfl, U⟩
      exact ⟨rfl, v, RP.upd U h id fun _ _ => id, U.mono fun _ _ h => h.elim, .inl rfl⟩
    · rw [if_neg h2, if_neg h2]
      have h2' : (s.cells s.now).is = false := by simpa using h2
      have h' : RP w br base s.lat true false s.ways v := by have q : RP w br base s.lat s.began (s.cells s.now).is s.ways v := h; rw [h1', h2'] at q; exact q
      refine (refPut_ok br base s.lat s.ways v wo va er w h' (by omega) hbase).mono ?_
      rintro e w' ⟨rfl, v', hr, U, ho⟩
      refine ⟨rfl, v', ?_, U, ho⟩
      show RP w' br base s.lat s.began ((s.puts wo va er).cells (s.puts wo va er).now).is (s.puts wo va er).ways v'
      rw [PS.puts_now, PS.ways_puts hs wo va er h2', h1']
      exact hr

set_option maxRecDepth 100000 in
set_option maxHeartbeats 4000000 in
theorem refTick_spec (br base lat : Nat) (began did : Bool) (l : List Way) (v : Value) (w : World) (h : RP w br base lat began did l v) (hl : l.length ≤ 1000) (hx : ∀ x ∈ l, x.1.is = true ∧ 1 ≤ x.2 ∧ x.2 ≤ 16) (hbase : base ≤ w.heap.size) :
    Calls Try.prog 32 #[.pointer (some ⟨br, 0, none⟩)] w fun e w' =>
      e = .returned (.tuple #[.agg #[.int .i64 (outw l).wo, .int .u32 (outw l).va, .int .i64 (outw l).er, .int .i64 0], .bool (outw l).is]) ∧
      ∃ v', RP w' br base lat true false (kept l) v' ∧ Upd (fun i => i = br) w w' ∧ ∀ k, v'.ownBlock = some k → w.heap.size ≤ k := by
  have hlt := h.blk.lt
  have h0 := h.blk.cell 0 rfl
  have h1 := h.blk.cell 1 rfl
  have h2 := h.blk.cell 2 rfl
  have h3 := h.blk.cell 3 rfl
  have f1 := h.blk.frozen 1
  have f2 := h.blk.frozen 2
  have f3 := h.blk.frozen 3
  obtain ⟨A, c, hv⟩ := own_slice h.row
  have H := Lib.hid h
  have HX := Lib.hid hx
  clear h hx
  subst hv
  go_enter Try.func32, Try.ntmps32
  go_wp2_with fail
  obtain ⟨b2, hb2⟩ : ∃ b, b = w.heap.size := ⟨_, rfl⟩
  obtain ⟨b5, hb5⟩ : ∃ b, b = w.heap.size + 1 := ⟨_, rfl⟩
  obtain ⟨W0, hW0⟩ : ∃ W, W = ((((w.setCell ⟨br, 1, none⟩ (.bool true)).setCell ⟨br, 2, none⟩ (.bool false)).alloc (.cells #[.int .i64 0, .int .u32 0, .int .i64 0, .int .i64 0] 62)).alloc (.cells #[.int .i64 0, .int .u32 0, .int .i64 0, .int .i64 0] 62)) := ⟨_, rfl⟩
  have hB : Blk W0 br #[.int .i64 lat, .bool true, .bool false, .slice A l.length c] 111 := by
    have hb := H.out.blk
    rw [hW0]; refine Blk.eq (c := ((#[.int .i64 lat, .bool began, .bool did, .slice A l.length c] : Array Value).setIfInBounds 1 (.bool true)).setIfInBounds 2 (.bool false)) (by ((with_reducible repeat' first | apply Blk.drew | apply Blk.drewN | apply Blk.alloc | apply Blk.set | refine Blk.set_ne ?_ ?_) <;> first | with_reducible exact hb | omega | (dsimp only; omega))) rfl
  have hB2 : Blk W0 b2 #[.int .i64 0, .int .u32 0, .int .i64 0, .int .i64 0] 62 := by
    rw [hW0]; exact (Blk.newAt (by rw [World.size_setCell, World.size_setCell]; exact hb2)).alloc
  have hB5 : Blk W0 b5 #[.int .i64 0, .int .u32 0, .int .i64 0, .int .i64 0] 62 := by
    rw [hW0]; exact Blk.newAt (by rw [World.size_alloc, World.size_setCell, World.size_setCell]; exact hb5)
  have hU : Upd (fun i => i = br) w W0 := by rw [hW0]; ((with_reducible repeat' first | exact Upd.refl _ _ | apply Upd.drew | apply Upd.drewN | apply Upd.alloc | refine Upd.setCell ?_ ?_) <;> first | (intro _ _ h; exact h) | (intro _ _ h; exact h.elim) | (intro i h1 h2; exfalso; (try simp only at h2); omega) | (left; rfl) | (right; dsimp only; omega) | (right; omega))
  have hz : W0.heap.size = w.heap.size + 2 := by rw [hW0, World.size_alloc, World.size_alloc, World.size_setCell, World.size_setCell]
  rw [← hW0, ← hb5, ← hb2]
  have HB := Lib.hid hB
  have HB2 := Lib.hid hB2
  have HB5 := Lib.hid hB5
  have HU := Lib.hid hU
  obtain ⟨B, hBz⟩ : ∃ B, B = w.heap.size + 2 := ⟨_, rfl⟩
  have i1 : w.heap.size ≤ b2 := by omega
  have i2 : b2 < b5 := by omega
  have i3 : b5 < B := by omega
  have i4 : B ≤ W0.heap.size := by omega
  clear hW0 hB hB2 hB5 hU h0 h1 h2 h3 f1 f2 f3 hb2 hb5 hz hBz
  go_loopw [4, 6, 7] (fun ls is i wr => ∃ t : Nat, t ≤ l.length ∧ i = .int .i64 t ∧ is = .bool (outw (l.take t)).is ∧ B ≤ wr.heap.size ∧ wr.ownsRow B 62 4 ls (kept (l.take t)).length (wenc (kept (l.take t))) ∧
    Blk wr b5 #[.int .i64 (outw (l.take t)).wo, .int .u32 (outw (l.take t)).va, .int .i64 (outw (l.take t)).er, .int .i64 0] 62 ∧ Blk wr b2 #[.int .i64 0, .int .u32 0, .int .i64 0, .int .i64 0] 62 ∧
    Blk wr br #[.int .i64 lat, .bool true, .bool false, .slice A l.length c] 111 ∧ Upd (fun i => i = br) w wr) (fun _ _ i _ => l.length - (intOf i).toNat)
  case atStart => exact ⟨0, by omega, rfl, rfl, i4, World.ownsRow_nil .., HB5.out, HB2.out, HB.out, HU.out⟩
  case round =>
    clear HB HB2 HB5 HU i4
    obtain ⟨t, ht, rfl, rfl, i4, hown, hB5, hB2, hB, hU⟩ := hrel
    have h3 := hB.cell 3 rfl
    have hsz := hU.size
    have hl5 := hB5.lt
    have hl2 := hB2.lt
    have HB := Lib.hid hB
    have HB2 := Lib.hid hB2
    have HB5 := Lib.hid hB5
    have HU := Lib.hid hU
    obtain ⟨A4, c4, rfl⟩ := own_slice hown
    have HO := Lib.hid hown
    by_cases hlt2 : t < l.length
    case neg =>
      have k1 : ¬ (t : Int) < l.length := by omega
      obtain rfl : t = l.length := by omega
      rw [List.take_length] at HO HB5
      have e0 := HB5.out.cell 0 rfl
      have e1 := HB5.out.cell 1 rfl
      have e2 := HB5.out.cell 2 rfl
      have e3 := HB5.out.cell 3 rfl
      clear hB5 hB2 hB hU hown
      have g0 := HB2.out.cell 0 rfl
      have g1 := HB2.out.cell 1 rfl
      have g2 := HB2.out.cell 2 rfl
      have g3 := HB2.out.cell 3 rfl
      have y0 := HB2.out.frozen 0
      have y1 := HB2.out.frozen 1
      have y2 := HB2.out.frozen 2
      have y3 := HB2.out.frozen 3
      have y4 := HB.out.frozen 3
      have n1 : ¬ br = b5 := by omega
      have n2 : ¬ br = b2 := by omega
      have n3 : ¬ b5 = br := by omega
      have n4 : ¬ b2 = br := by omega
      have n5 : ¬ b2 = b5 := by omega
      have n6 : ¬ b5 = b2 := by omega
      go_wp2_with fail
      refine bodyPost_ret (v := .tuple #[.agg #[.int .i64 (outw l).wo, .int .u32 (outw l).va, .int .i64 (outw l).er, .int .i64 0], .bool (outw l).is]) ?_ rfl ⟨rfl, .slice A4 (kept l).length c4, ?_, ?_, ?_⟩
      · simp only [results, Try.results32]
        go_simp
      · have hb := HB.out
        have ho : wr.ownsRow base 62 4 (.slice A4 (kept l).length c4) (kept l).length (wenc (kept l)) := ownsRow_le HO.out (by omega)
        refine ⟨Blk.eq (c := (#[.int .i64 lat, .bool true, .bool false, .slice A l.length c] : Array Value).setIfInBounds 3 (.slice A4 (kept l).length c4)) (by ((with_reducible repeat' first | apply Blk.drew | apply Blk.drewN | apply Blk.alloc | apply Blk.set | refine Blk.set_ne ?_ ?_) <;> first | with_reducible exact hb | omega | (dsimp only; omega))) rfl, ?_, fun h => by have := (own_block HO.out _ h).1; omega⟩
        have j2 : (Value.slice A4 (kept l).length c4).ownBlock ≠ some b2 := fun h => by have := (own_block HO.out _ h).1; omega
        have jr : (Value.slice A4 (kept l).length c4).ownBlock ≠ some br := fun h => by have := (own_block HO.out _ h).1; omega
        with_reducible repeat' first | exact ho | refine own_set ?_ ?_ | apply own_alloc
        all_goals first | exact j2 | exact jr
      · have hu := HU.out
        ((with_reducible repeat' first | exact Upd.refl _ _ | apply Upd.drew | apply Upd.drewN | apply Upd.alloc | refine Upd.setCell ?_ ?_ | refine Upd.call hu ?_ ?_) <;> first | (intro _ _ h; exact h) | (intro _ _ h; exact h.elim) | (intro i h1 h2; exfalso; (try simp only at h2); omega) | (left; rfl) | (right; dsimp only; omega) | (right; omega))
      · intro k hk
        have := (own_block HO.out k hk).1
        omega
    have k1 : (t : Int) < l.length := by omega
    obtain ⟨x, hxt⟩ : ∃ x, l[t]? = some x := ⟨_, List.getElem?_eq_getElem hlt2⟩
    obtain ⟨hx1, hx2, hx3⟩ := HX.out x (List.mem_of_getElem? hxt)
    obtain ⟨g, c', hA, hgb, hgl⟩ := own_form H.out.row (by omega)
    injection hA with hA1 hA2 hA3
    subst hA1
    have hne := H.out.ne
    obtain ⟨cur, hC, hcur⟩ := own_cells H.out.row rfl
    have hC1 : Blk wr g cur 62 := Blk.upd HU.out hC (fun h => hne (by rw [← h]; rfl))
    obtain ⟨w0, w1, w2, w3⟩ := wenc_at hxt
    have c0 := hC1.cell _ (hcur _ _ w0)
    have c1 := hC1.cell _ (hcur _ _ w1)
    have c2 := hC1.cell _ (hcur _ _ w2)
    have c3 := hC1.cell _ (hcur _ _ w3)
    clear hC hcur hC1 w0 w1 w2 w3
    obtain ⟨m, hm⟩ : ∃ m, x.2 = m + 1 := ⟨x.2 - 1, by omega⟩
    rw [hm] at c3
    have hsub : IntKind.i64.wrap (((m + 1 : Nat) : Int) - 1) = (m : Int) := by rw [IntWalk.i64_in _ (by omega)]; omega
    clear hB5 hB2 hB hU hown
    by_cases hm0 : m = 0
    · subst hm0
      have z0 : ((0 : Nat) : Int) = 0 := rfl
      have e0 := HB5.out.cell 0 rfl
      have e1 := HB5.out.cell 1 rfl
      have e2 := HB5.out.cell 2 rfl
      have e3 := HB5.out.cell 3 rfl
      have y0 := HB5.out.frozen 0
      have y1 := HB5.out.frozen 1
      have y2 := HB5.out.frozen 2
      have y3 := HB5.out.frozen 3
      go_wp2_with fail
      go_roundw
      case rel =>
        have q1 : out1 (outw (l.take t)) x = x.1 := by unfold out1; rw [if_pos (by omega)]
        have q2 : keep1 x = [] := by unfold keep1; rw [if_pos (by omega)]
        refine ⟨t + 1, by omega, by go_num, ?_, ?_, ?_, ?_, ?_, ?_, ?_⟩
        · rw [outw_take hxt, q1, hx1]
        · have := HU.out.size
          simp; omega
        · rw [kept_take hxt, q2, List.append_nil]
          exact own_upd (S := fun i => i = b5) (by ((with_reducible repeat' first | exact Upd.refl _ _ | apply Upd.drew | apply Upd.drewN | apply Upd.alloc | refine Upd.setCell ?_ ?_) <;> first | (intro _ _ h; exact h) | (intro _ _ h; exact h.elim) | (intro i h1 h2; exfalso; (try simp only at h2); omega) | (left; rfl) | (right; dsimp only; omega) | (right; omega))) HO.out fun k hk h => by have := (own_block HO.out k hk).1; omega
        · rw [outw_take hxt, q1]
          have hb := HB5.out
          refine Blk.eq (c := ((((#[.int .i64 (outw (l.take t)).wo, .int .u32 (outw (l.take t)).va, .int .i64 (outw (l.take t)).er, .int .i64 0] : Array Value).setIfInBounds 0 (.int .i64 x.1.wo)).setIfInBounds 1 (.int .u32 x.1.va)).setIfInBounds 2 (.int .i64 x.1.er)).setIfInBounds 3 (.int .i64 0)) (by ((with_reducible repeat' first | apply Blk.drew | apply Blk.drewN | apply Blk.alloc | apply Blk.set | refine Blk.set_ne ?_ ?_) <;> first | with_reducible exact hb | omega | (dsimp only; omega))) rfl
        · have hb := HB2.out
          ((with_reducible repeat' first | apply Blk.drew | apply Blk.drewN | apply Blk.alloc | apply Blk.set | refine Blk.set_ne ?_ ?_) <;> first | with_reducible exact hb | omega | (dsimp only; omega))
        · have hb := HB.out
          ((with_reducible repeat' first | apply Blk.drew | apply Blk.drewN | apply Blk.alloc | apply Blk.set | refine Blk.set_ne ?_ ?_) <;> first | with_reducible exact hb | omega | (dsimp only; omega))
        · have hu := HU.out
          ((with_reducible repeat' first | exact Upd.refl _ _ | apply Upd.drew | apply Upd.drewN | apply Upd.alloc | refine Upd.setCell ?_ ?_ | refine Upd.call hu ?_ ?_) <;> first | (intro _ _ h; exact h) | (intro _ _ h; exact h.elim) | (intro i h1 h2; exfalso; (try simp only at h2); omega) | (left; rfl) | (right; dsimp only; omega) | (right; omega))
      case measure => simp [intOf]; omega
    · have z0 : ¬ (m : Int) = 0 := by omega
      go_wp2_with ((at_builtin; go_must (refine wp_append (w0 := w) (fun i => i = br) rfl _ _ 109 rfl B 62 (.agg #[.int .i64 0, .int .u32 0, .int .i64 0, .int .i64 0]) 4 32 Try.underlying109 (by kernel_rfl) rfl (by decide) (by decide) (.slice A4 (kept (l.take t)).length c4) (kept (l.take t)).length (wenc (kept (l.take t))) rfl ?c1 (wr.heap.size + 1) 1 1 #[.int .i64 x.1.wo, .int .u32 x.1.va, .int .i64 x.1.er, .int .i64 (m : Int)] 62 rfl ?c2 rfl rfl ?c3 ?c4 (by omega) ?c5 ?_)))
      case c1 => exact own_upd (S := Non) (by ((with_reducible repeat' first | exact Upd.refl _ _ | apply Upd.drew | apply Upd.drewN | apply Upd.alloc | refine Upd.setCell ?_ ?_) <;> first | (intro _ _ h; exact h) | (intro _ _ h; exact h.elim) | (intro i h1 h2; exfalso; (try simp only at h2); omega) | (left; rfl) | (right; dsimp only; omega) | (right; omega))) HO.out fun _ _ => id
      case c2 => ((with_reducible repeat' first | apply Blk.new | (refine Blk.newAt ?_; (simp; done)) | apply Blk.drew | apply Blk.drewN | apply Blk.alloc | apply Blk.set | refine Blk.set_ne ?_ ?_) <;> first | omega | (dsimp only; omega))
      case c3 =>
        have h1 := kept_le (l.take t)
        have h2 := List.length_take_le t l
        omega
      case c4 =>
        have hu := HU.out
        ((with_reducible repeat' first | exact Upd.refl _ _ | apply Upd.drew | apply Upd.drewN | apply Upd.alloc | refine Upd.setCell ?_ ?_ | refine Upd.call hu ?_ ?_) <;> first | (intro _ _ h; exact h) | (intro _ _ h; exact h.elim) | (intro i h1 h2; exfalso; (try simp only at h2); omega) | (left; rfl) | (right; dsimp only; omega) | (right; omega))
      case c5 =>
        first | omega | (simp; omega)
      intro v' w1 hown1 hU1 hg1
      have HU1 := Lib.hid hU1
      have HO1 := Lib.hid hown1
      have j5 : (Value.slice A4 (kept (l.take t)).length c4).ownBlock ≠ some b5 := fun h => by have := (own_block HO.out _ h).1; omega
      have j2 : (Value.slice A4 (kept (l.take t)).length c4).ownBlock ≠ some b2 := fun h => by have := (own_block HO.out _ h).1; omega
      have jr : (Value.slice A4 (kept (l.take t)).length c4).ownBlock ≠ some br := fun h => by have := (own_block HO.out _ h).1; omega
      have hb5 := HB5.out
      have hb2 := HB2.out
      have hb := HB.out
      have HB5' := Lib.hid (blk_grown hg1 (by ((with_reducible repeat' first | apply Blk.drew | apply Blk.drewN | apply Blk.alloc | apply Blk.set | refine Blk.set_ne ?_ ?_) <;> first | with_reducible exact hb5 | omega | (dsimp only; omega))) j5)
      have HB2' := Lib.hid (blk_grown hg1 (by ((with_reducible repeat' first | apply Blk.drew | apply Blk.drewN | apply Blk.alloc | apply Blk.set | refine Blk.set_ne ?_ ?_) <;> first | with_reducible exact hb2 | omega | (dsimp only; omega))) j2)
      have HB' := Lib.hid (blk_grown hg1 (by ((with_reducible repeat' first | apply Blk.drew | apply Blk.drewN | apply Blk.alloc | apply Blk.set | refine Blk.set_ne ?_ ?_) <;> first | with_reducible exact hb | omega | (dsimp only; omega))) jr)
      have hz1 : B ≤ w1.heap.size := by
        have := hg1.size
        first | omega | (simp at this; omega)
      clear hU1 hown1 hg1 hb5 hb2 hb
      go_wp2_with fail
      go_roundw
      case rel =>
        have q1 : out1 (outw (l.take t)) x = outw (l.take t) := by unfold out1; rw [if_neg (by omega)]
        have q2 : keep1 x = [(x.1, m)] := by unfold keep1; rw [if_neg (by omega), hm]; rfl
        refine ⟨t + 1, by omega, by go_num, ?_, hz1, ?_, ?_, HB2'.out, HB'.out, HU1.out⟩
        · rw [outw_take hxt, q1]
        · rw [kept_take hxt, q2, wenc_append, List.length_append]; exact HO1.out
        · rw [outw_take hxt, q1]; exact HB5'.out
      case measure => simp [intOf]; omega
end Go.Proofs.Ytnmbkhofikbcjaa
