/- The document's mailbox: its memory, and its functions. Conditions: its blocks are known. -/
import Derived.Test.YtlpfjjhjfmcfmaaMboxMore
import Derived.Test.YtlpfjjhjfmcfmaaORowW
import Derived.Test.YtlpfjjhjfmcfmaaGRow
namespace Go.Proofs.Ytlpfjjhjfmcfmaa
open Go.RowKit
/-- v is a slice of the call's own, at any offset of its block, that holds xs. -/
def QRow (w : World) (base : Nat) (v : Value) (xs : List Int) : Prop := (v = .slice none 0 0 ∧ xs = []) ∨ ∃ r, ORow w base v xs r ∧ v.ownBlock = some r
section
variable {w w' W : World} {base : Nat} {v : Value} {xs : List Int}
theorem QRow.nil (w : World) (base : Nat) : QRow w base (.slice none 0 0) [] := .inl ⟨rfl, rfl⟩
theorem QRow.slice (h : QRow w base v xs) : ∃ A c, v = .slice A xs.length c := by
  rcases h with ⟨rfl, rfl⟩ | ⟨r, h, _⟩
  · exact ⟨none, 0, rfl⟩
  · exact h.slice
theorem QRow.upd {S : Nat → Prop} (u : Upd S w w') (h : QRow w base v xs) (hs : ∀ k, v.ownBlock = some k → ¬ S k) : QRow w' base v xs := by
  rcases h with h | ⟨r, h, hr⟩
  · exact .inl h
  · exact .inr ⟨r, h.upd u (hs r hr), hr⟩
theorem QRow.non (u : Upd Non w w') (h : QRow w base v xs) : QRow w' base v xs := h.upd u fun _ _ => id
theorem QRow.own (h : QRow w base v xs) (k : Nat) (hk : v.ownBlock = some k) : base ≤ k ∧ k < w.heap.size := by
  rcases h with ⟨rfl, _⟩ | ⟨r, h, hr⟩
  · cases hk
  · rw [hr] at hk
    cases hk
    exact ⟨h.lo, h.lt⟩
theorem QRow.at {A : Option Addr} {c : Nat} (h : QRow w base (.slice A xs.length c) xs) : 0 < xs.length → ∃ b o, A = some ⟨b, o, none⟩ ∧ b < w.heap.size ∧ ∀ j, j < xs.length → w.cell? ⟨b, o + j, none⟩ = some (.int .u32 (xs.getD j 0)) := by
  intro hn
  rcases h with ⟨_, rfl⟩ | ⟨r, h, _⟩
  · cases hn
  · obtain ⟨off, cap, e, _, hc⟩ := h.cells hn
    cases e
    exact ⟨r, off, rfl, h.lt, fun j hj => hc j _ (by rw [List.getD_eq_getElem?_getD, List.getElem?_eq_getElem hj]; rfl)⟩
theorem QRow.cut {x : Int} {A : Option Addr} {c : Nat} (h : QRow w base (.slice A (xs.length + 1) c) (x :: xs)) : ∃ r off, A = some ⟨r, off, none⟩ ∧ 0 < c ∧ xs.length + 1 ≤ c ∧ QRow w base (.slice (some ⟨r, off + (if c = 1 then 0 else 1), none⟩) xs.length (c - 1)) xs ∧ w.cell? ⟨r, off, none⟩ = some (.int .u32 x) := by
  rcases h with ⟨h, _⟩ | ⟨r, h, hr⟩
  · cases h
  · obtain ⟨off, cap, e, h1, h2⟩ := h.cells (by simp)
    rw [List.length_cons] at e h1
    cases e
    exact ⟨r, off, rfl, by omega, h1, .inr ⟨r, h.cut, rfl⟩, h2 0 x rfl⟩
theorem qappend_run (hv : QRow W base v xs) (g : Nat) (y : Int) (hb : Blk W g #[.int .u32 y] 28) (hg : base ≤ g) (hn : xs.length ≤ 100000) (hbase : base ≤ W.heap.size) :
    ∃ A' c' w', (Builtin.append_ #[35, 35] 35 #[v, .slice (some ⟨g, 0, none⟩) 1 1]).run Try.prog W = .ok (.slice A' (xs.length + 1) c') w' ∧ (Value.ownBlock (.slice A' (xs.length + 1) c') = v.ownBlock ∨ ∃ k, Value.ownBlock (.slice A' (xs.length + 1) c') = some k ∧ W.heap.size ≤ k) ∧ QRow w' base (.slice A' (xs.length + 1) c') (xs ++ [y]) ∧ Upd (fun i => v.ownBlock = some i) W w' := by
  have key : ∃ r, ORow W base v xs r ∧ (v ≠ .slice none 0 0 → v.ownBlock = some r) := by
    rcases hv with ⟨rfl, rfl⟩ | ⟨r, h, hr⟩
    · exact ⟨g, ORow.nil W hg hb.lt, fun h => absurd rfl h⟩
    · exact ⟨r, h, fun _ => hr⟩
  obtain ⟨r, ho, hr⟩ := key
  obtain ⟨v', w', r', hrun, h1, h2, h3⟩ := oappend_run (P := Try.prog) 35 35 Try.underlying35 Try.info28' ho g y hb hn hbase
  have hq : v'.ownBlock = some r' := by
    rcases h2.form with ⟨_, e⟩ | ⟨off, cap, cur, e, _⟩
    · exact absurd e (by simp)
    · rw [e]; rfl
  obtain ⟨A', c', rfl⟩ := h2.slice
  rw [List.length_append, List.length_singleton] at *
  refine ⟨A', c', w', hrun, ?_, .inr ⟨r', by simpa using h2, hq⟩, h3.mono fun i _ h => by rw [h.1]; exact hr h.2⟩
  rcases h1 with ⟨e, hne⟩ | h1
  · left; rw [hq, hr hne, e]
  · exact .inr ⟨r', hq, h1⟩
end
/-- At block c lies the document's mailbox. -/
structure RX (w W : World) (c : Nat) (v : Value) (s : MS) : Prop where
  B : Blk W c #[v, .int .u32 s.ctrl, .int .u32 s.lost] 46
  Q : QRow W w.heap.size v s.xs
  ne : ∀ k, v.ownBlock = some k → k ≠ c
  lo : w.heap.size ≤ c
  up : w.heap.size ≤ W.heap.size
section
variable {w W W' : World} {c : Nat} {v : Value} {s : MS}
theorem RX.non (h : RX w W c v s) (u : Upd Non W W') : RX w W' c v s := ⟨Blk.upd u h.B id, h.Q.non u, h.ne, h.lo, Nat.le_trans h.up u.size⟩
/-- What a deed may turn of it. -/
abbrev RX.blocks (c : Nat) (v : Value) : Nat → Prop := fun i => i = c ∨ v.ownBlock = some i
theorem RX.upd {S : Nat → Prop} (h : RX w W c v s) (u : Upd S W W') (hc : ¬ S c) (hv : ∀ k, v.ownBlock = some k → ¬ S k) : RX w W' c v s := ⟨Blk.upd u h.B hc, h.Q.upd u hv, h.ne, h.lo, Nat.le_trans h.up u.size⟩
/-- A deed has been done to it. -/
structure RW (w W W' : World) (c : Nat) (v : Value) (s' : MS) : Prop where
  r : ∃ v', (v'.ownBlock = v.ownBlock ∨ ∃ k, v'.ownBlock = some k ∧ W.heap.size ≤ k) ∧ RX w W' c v' s'
  u : Upd (RX.blocks c v) W W'
theorem rline_m (h : RX w W c v s) : Calls Try.prog 54 #[.pointer (some ⟨c, 0, none⟩)] W fun e w' => e = .returned (.bool (decide (s.ctrl = 1) && decide (0 < s.xs.length))) ∧ W = w' := by
  obtain ⟨A, k, rfl⟩ := h.Q.slice
  have c0 := h.B.cell 0 rfl
  have c1 := h.B.cell 1 rfl
  clear h
  by_cases hc : s.ctrl = 1
  · have E := Lib.hid (show (decide (s.ctrl = 1) && decide (0 < s.xs.length)) = decide (0 < s.xs.length) by simp [hc])
    rw [hc] at c1
    clear hc
    go_enter Try.func54, Try.ntmps54
    go_wp2_with fail
    go_ret
    rw [E.out]
    exact ⟨rfl, rfl⟩
  · have E := Lib.hid (show (decide (s.ctrl = 1) && decide (0 < s.xs.length)) = false by simp [hc])
    have hc' : (s.ctrl == 1) = false := by simpa using hc
    go_enter Try.func54, Try.ntmps54
    go_wp2_with fail
    go_ret
    rw [E.out]
    exact ⟨rfl, rfl⟩
/-- A register but 0 is read. -/
theorem rread_m {rg : Int} (hr : rg ≠ 0) (h : RX w W c v s) (hl : s.xs.length ≤ 4) : Calls Try.prog 26 #[.pointer (some ⟨c, 0, none⟩), .int .i64 rg] W fun e w' => e = .returned (.int .u32 (s.rd rg)) ∧ W = w' := by
  obtain ⟨A, k, rfl⟩ := h.Q.slice
  have c0 := h.B.cell 0 rfl
  have c1 := h.B.cell 1 rfl
  have c2 := h.B.cell 2 rfl
  have e1 : IntKind.u32.wrap (s.xs.length : Int) = (s.xs.length : Int) := by rw [IntKind.wrap_u32]; omega
  clear h
  have z0 : (rg == 0) = false := by simpa using hr
  by_cases h1 : rg = 1
  · subst h1
    go_enter Try.func26, Try.ntmps26
    go_wp2_with fail
    go_ret
    exact ⟨rfl, rfl⟩
  have z1 : (rg == 1) = false := by simpa using h1
  by_cases h2 : rg = 2
  · subst h2
    go_enter Try.func26, Try.ntmps26
    go_wp2_with fail
    go_ret
    exact ⟨rfl, rfl⟩
  have z2 : (rg == 2) = false := by simpa using h2
  by_cases h3 : rg = 3
  · subst h3
    go_enter Try.func26, Try.ntmps26
    go_wp2_with fail
    go_ret
    exact ⟨rfl, rfl⟩
  have z3 : (rg == 3) = false := by simpa using h3
  have E := Lib.hid (show s.rd rg = 0 by unfold MS.rd; rw [if_neg hr, if_neg h1, if_neg h2, if_neg h3])
  clear hr h1 h2 h3
  go_enter Try.func26, Try.ntmps26
  go_wp2_with fail
  go_ret
  rw [E.out]
  exact ⟨rfl, rfl⟩
theorem wr0_room' (s : MS) (v : Int) (h : s.xs.length < 4) : s.wr 0 v = { s with xs := s.xs ++ [v] } := by show s.pu v = _; unfold MS.pu; rw [if_pos h]
theorem wr0_full' (s : MS) (v : Int) (h : ¬ s.xs.length < 4) : s.wr 0 v = if s.lost < 4294967295 then { s with lost := s.lost + 1 } else s := by show s.pu v = _; unfold MS.pu; rw [if_neg h]
theorem rread0_m (h : RX w W c v s) : Calls Try.prog 26 #[.pointer (some ⟨c, 0, none⟩), .int .i64 0] W fun e w' => e = .returned (.int .u32 (headI s.xs)) ∧ RW w W w' c v s.tk := by
  have H := Lib.hid h
  cases hx : s.xs with
  | nil =>
    obtain ⟨A, k, rfl⟩ := h.Q.slice
    have c0 := h.B.cell 0 rfl
    rw [hx] at c0
    have E := Lib.hid (show s.tk = s by unfold MS.tk; rw [hx]; cases s; simp at hx; rw [hx]; rfl)
    clear h hx
    go_enter Try.func26, Try.ntmps26
    go_wp2_with fail
    go_ret
    rw [E.out]
    exact ⟨rfl, ⟨_, .inl rfl, H.out⟩, Upd.refl _ _⟩
  | cons x l =>
    obtain ⟨A, k, rfl⟩ := h.Q.slice
    have hq := h.Q
    rw [hx, List.length_cons] at hq
    obtain ⟨r, off, rfl, hk0, hk, hcut, hcell⟩ := hq.cut
    have c0 := h.B.cell 0 rfl
    rw [hx, List.length_cons] at c0
    have f0 := h.B.frozen 0
    have hne := h.ne r (by rfl)
    have HXS := Lib.hid (show s.tk.xs = l by show s.xs.tail = l; rw [hx]; rfl)
    have k1 : (1 : Int) ≤ (l.length : Int) + 1 := by omega
    have k2 : (l.length : Int) + 1 ≤ k := by omega
    clear h hq hk hx
    by_cases hk1 : k = 1
    · subst hk1
      rw [if_pos rfl, Nat.add_zero, Nat.sub_self] at hcut
      have HQ := Lib.hid hcut
      clear hcut
      go_enter Try.func26, Try.ntmps26
      go_wp2_with fail
      go_ret
      have uu : Upd (fun i => i = c) W (W.setCell ⟨c, 0, none⟩ (.slice (some ⟨r, off, none⟩) l.length 0)) := by ((with_reducible repeat' first | exact Upd.refl _ _ | apply Upd.drew | apply Upd.drewN | apply Upd.alloc | refine Upd.setCell ?_ ?_) <;> first | (intro _ _ h; exact h) | (intro _ _ h; exact h.elim) | (intro i h1 h2; exfalso; (try simp only at h2); omega) | (left; rfl) | (right; dsimp only; omega) | (right; omega))
      exact ⟨rfl, ⟨.slice (some ⟨r, off, none⟩) l.length 0, .inl rfl, Blk.set H.out.B, by rw [HXS.out]; exact HQ.out.upd uu (fun k hk => by cases hk; exact hne), (fun k hk => by cases hk; exact hne), H.out.lo, Nat.le_trans H.out.up uu.size⟩, uu.mono fun _ _ h => .inl h⟩
    · rw [if_neg hk1] at hcut
      have HQ := Lib.hid hcut
      clear hcut
      go_enter Try.func26, Try.ntmps26
      go_wp2_with fail
      go_ret
      have uu : Upd (fun i => i = c) W (W.setCell ⟨c, 0, none⟩ (.slice (some ⟨r, off + 1, none⟩) l.length (k - 1))) := by ((with_reducible repeat' first | exact Upd.refl _ _ | apply Upd.drew | apply Upd.drewN | apply Upd.alloc | refine Upd.setCell ?_ ?_) <;> first | (intro _ _ h; exact h) | (intro _ _ h; exact h.elim) | (intro i h1 h2; exfalso; (try simp only at h2); omega) | (left; rfl) | (right; dsimp only; omega) | (right; omega))
      exact ⟨rfl, ⟨.slice (some ⟨r, off + 1, none⟩) l.length (k - 1), .inl rfl, Blk.set H.out.B, by rw [HXS.out]; exact HQ.out.upd uu (fun k hk => by cases hk; exact hne), (fun k hk => by cases hk; exact hne), H.out.lo, Nat.le_trans H.out.up uu.size⟩, uu.mono fun _ _ h => .inl h⟩
set_option maxRecDepth 100000 in
set_option maxHeartbeats 4000000 in
theorem rwrite_m (rg v1 : Int) (h0 : 0 ≤ v1) (h1 : v1 < 4294967296) (h : RX w W c v s) (hl : s.xs.length ≤ 4) (hok : s.ok) : Calls Try.prog 27 #[.pointer (some ⟨c, 0, none⟩), .int .i64 rg, .int .u32 v1] W fun e w' => e = .returned (.tuple #[]) ∧ RW w W w' c v (s.wr rg v1) := by
  have H := Lib.hid h
  obtain ⟨A, k, rfl⟩ := h.Q.slice
  have c0 := h.B.cell 0 rfl
  have c1 := h.B.cell 1 rfl
  have c2 := h.B.cell 2 rfl
  have f0 := h.B.frozen 0
  have f1 := h.B.frozen 1
  have f2 := h.B.frozen 2
  have hw := h.up
  have hcl := h.B.lt
  clear h
  by_cases r0 : rg = 0
  · subst r0
    by_cases hq : s.xs.length < 4
    · have HE := Lib.hid (wr0_room' s v1 hq)
      have q1 : (s.xs.length : Int) < 4 := by omega
      go_enter Try.func27, Try.ntmps27
      have uu : Upd Non W (W.alloc (.cells #[.int .u32 v1] 28)) := by ((with_reducible repeat' first | exact Upd.refl _ _ | apply Upd.drew | apply Upd.drewN | apply Upd.alloc | refine Upd.setCell ?_ ?_) <;> first | (intro _ _ h; exact h) | (intro _ _ h; exact h.elim) | (intro i h1 h2; exfalso; (try simp only at h2); omega) | (left; rfl) | (right; dsimp only; omega) | (right; omega))
      obtain ⟨A', c', w4, hrun, hb, hrow, hU⟩ := qappend_run (H.out.Q.non uu) W.heap.size v1 (Blk.new W _ 28) hw (by omega) (Nat.le_trans hw uu.size)
      have HRUN := Lib.hid hrun
      have hcc : ¬ (Value.ownBlock (.slice A s.xs.length k) = some c) := fun e => H.out.ne c e rfl
      have hB4 := Blk.upd hU (Blk.alloc H.out.B) hcc
      have HB4 := Lib.hid hB4
      have g0 := hB4.frozen 0
      have y0 := hB4.cell 0 rfl
      have HROW := Lib.hid hrow
      have HOB := Lib.hid hb
      have HU4 := Lib.hid (show Upd (fun i => Value.ownBlock (.slice A s.xs.length k) = some i) W w4 from Upd.trans uu hU (fun _ h => h.elim) fun _ _ h => h)
      clear hrun hb hrow hU hB4 uu
      go_wp2_with (at_builtin; refine wpList_appendK rfl _ _ 35 rfl rfl rfl HRUN.out ?_)
      go_end0
      have uc : Upd (fun i => i = c) w4 (w4.setCell ⟨c, 0, none⟩ (.slice A' (s.xs.length + 1) c')) := by ((with_reducible repeat' first | exact Upd.refl _ _ | apply Upd.drew | apply Upd.drewN | apply Upd.alloc | refine Upd.setCell ?_ ?_) <;> first | (intro _ _ h; exact h) | (intro _ _ h; exact h.elim) | (intro i h1 h2; exfalso; (try simp only at h2); omega) | (left; rfl) | (right; dsimp only; omega) | (right; omega))
      have hnc : ∀ k, Value.ownBlock (.slice A' (s.xs.length + 1) c') = some k → k ≠ c := fun k hk e => by
        subst e
        rcases HOB.out with h | ⟨k', h, h'⟩
        · exact hcc (h ▸ hk)
        · rw [h] at hk; cases hk; rw [World.size_alloc] at h'; omega
      refine ⟨rfl, ⟨.slice A' (s.xs.length + 1) c', ?_, ?_⟩, Upd.trans HU4.out uc (fun _ h => .inr h) fun _ _ h => .inl h⟩
      · rcases HOB.out with h | ⟨k', h, h'⟩
        · exact .inl h
        · exact .inr ⟨k', h, by rw [World.size_alloc] at h'; omega⟩
      · rw [HE.out]
        exact ⟨Blk.set HB4.out, HROW.out.upd uc (fun k hk e => hnc k hk e), hnc, H.out.lo, Nat.le_trans hw (Nat.le_trans HU4.out.size uc.size)⟩
    · have HE := Lib.hid (wr0_full' s v1 hq)
      have q1 : ¬ (s.xs.length : Int) < 4 := by omega
      have l0 := hok.l0
      by_cases hl2 : s.lost < 4294967295
      · have g1 : IntKind.u32.wrap (s.lost + 1) = s.lost + 1 := by rw [IntKind.wrap_u32]; omega
        go_enter Try.func27, Try.ntmps27
        go_wp2_with fail
        go_end0
        have uc : Upd (fun i => i = c) W (W.setCell ⟨c, 2, none⟩ (.int .u32 (s.lost + 1))) := by ((with_reducible repeat' first | exact Upd.refl _ _ | apply Upd.drew | apply Upd.drewN | apply Upd.alloc | refine Upd.setCell ?_ ?_) <;> first | (intro _ _ h; exact h) | (intro _ _ h; exact h.elim) | (intro i h1 h2; exfalso; (try simp only at h2); omega) | (left; rfl) | (right; dsimp only; omega) | (right; omega))
        refine ⟨rfl, ⟨.slice A s.xs.length k, .inl rfl, ?_⟩, uc.mono fun _ _ h => .inl h⟩
        rw [HE.out, if_pos hl2]
        exact ⟨Blk.set H.out.B, H.out.Q.upd uc (fun k hk e => H.out.ne k hk e), H.out.ne, H.out.lo, Nat.le_trans hw uc.size⟩
      · go_enter Try.func27, Try.ntmps27
        go_wp2_with fail
        go_end0
        refine ⟨rfl, ⟨.slice A s.xs.length k, .inl rfl, ?_⟩, Upd.refl _ _⟩
        rw [HE.out, if_neg (by omega)]
        exact H.out
  have z0 : (rg == 0) = false := by simpa using r0
  by_cases r2 : rg = 2
  · subst r2
    have g1 : IntKind.u32.wrap (v1 % 2) = v1 % 2 := by rw [IntKind.wrap_u32]; omega
    go_enter Try.func27, Try.ntmps27
    go_wp2_with fail
    go_end0
    have uc : Upd (fun i => i = c) W (W.setCell ⟨c, 1, none⟩ (.int .u32 (v1 % 2))) := by ((with_reducible repeat' first | exact Upd.refl _ _ | apply Upd.drew | apply Upd.drewN | apply Upd.alloc | refine Upd.setCell ?_ ?_) <;> first | (intro _ _ h; exact h) | (intro _ _ h; exact h.elim) | (intro i h1 h2; exfalso; (try simp only at h2); omega) | (left; rfl) | (right; dsimp only; omega) | (right; omega))
    exact ⟨rfl, ⟨.slice A s.xs.length k, .inl rfl, ⟨Blk.set H.out.B, H.out.Q.upd uc (fun k hk e => H.out.ne k hk e), H.out.ne, H.out.lo, Nat.le_trans hw uc.size⟩⟩, uc.mono fun _ _ h => .inl h⟩
  have z2 : (rg == 2) = false := by simpa using r2
  by_cases r3 : rg = 3
  · subst r3
    go_enter Try.func27, Try.ntmps27
    go_wp2_with fail
    go_end0
    have uc : Upd (fun i => i = c) W (W.setCell ⟨c, 2, none⟩ (.int .u32 0)) := by ((with_reducible repeat' first | exact Upd.refl _ _ | apply Upd.drew | apply Upd.drewN | apply Upd.alloc | refine Upd.setCell ?_ ?_) <;> first | (intro _ _ h; exact h) | (intro _ _ h; exact h.elim) | (intro i h1 h2; exfalso; (try simp only at h2); omega) | (left; rfl) | (right; dsimp only; omega) | (right; omega))
    exact ⟨rfl, ⟨.slice A s.xs.length k, .inl rfl, ⟨Blk.set H.out.B, H.out.Q.upd uc (fun k hk e => H.out.ne k hk e), H.out.ne, H.out.lo, Nat.le_trans hw uc.size⟩⟩, uc.mono fun _ _ h => .inl h⟩
  have z3 : (rg == 3) = false := by simpa using r3
  have E := Lib.hid (show s.wr rg v1 = s by unfold MS.wr; rw [if_neg r0, if_neg r2, if_neg r3])
  clear r0 r2 r3
  go_enter Try.func27, Try.ntmps27
  go_wp2_with fail
  go_end0
  rw [E.out]
  exact ⟨rfl, ⟨_, .inl rfl, H.out⟩, Upd.refl _ _⟩
end
end Go.Proofs.Ytlpfjjhjfmcfmaa
