/- PipeDoes: the law's walk. Conditions: the argument's cells read as numbers. -/
import Derived.Test.YtnmbkhofikbcjaaPipeSame
import Derived.Test.YtnmbkhofikbcjaaPipeAwake
import Derived.Test.YtnmbkhofikbcjaaPick
namespace Go.Proofs.Ytnmbkhofikbcjaa
open Go.RowKit Go.Joins

theorem does_long (l : Int) (A : Option Addr) (n c : Nat) (h : 400 < n) (w : World) :
    Calls Try.prog 9 #[.int .i64 l, .slice A n c] w fun e w' => e = .returned (.bool true) ∧ Upd Non w w' := by
  have h3 : (400 : Int) < n := by omega
  clear h
  go_enter Try.func9, Try.ntmps9
  go_wp2_with (go_at_call 13; refine (awake18 _).mono ?_; rintro e w1 ⟨rfl, hU1⟩)
  go_ret
  exact ⟨rfl, hU1⟩
theorem does_bad (l : Int) (A : Option Addr) (n c : Nat) (h : n ≤ 400) (hl : l < 1 ∨ 16 < l) (w : World) :
    Calls Try.prog 9 #[.int .i64 l, .slice A n c] w fun e w' => e = .returned (.bool true) ∧ Upd Non w w' := by
  have h3 : ¬ (400 : Int) < n := by omega
  have HL := Lib.hid hl
  clear h hl
  go_enter Try.func9, Try.ntmps9
  go_wp2_with (first | (go_at_call 13; refine (awake18 _).mono ?_; rintro e w1 ⟨rfl, hU1⟩) | (go_at_call 15; refine (new_bad l HL.out _).mono ?_; rintro e w1 ⟨rfl, rfl⟩) | (go_at_call 31; refine (refNew_bad l HL.out _).mono ?_; rintro e w1 ⟨rfl, rfl⟩))
  go_ret
  exact ⟨rfl, hU1⟩

theorem KA_upd {S : Nat → Prop} {a b : World} {p1 p2 p3 : Addr} {x y z : Value} (u : Upd S a b) {k : Nat} (hn : ¬ S k) (h : a.cell? p1 = some x ∧ a.cell? p2 = some y ∧ a.cell? p3 = some z) (h1 : p1.block = k := by rfl) (h2 : p2.block = k := by rfl) (h3 : p3.block = k := by rfl) :
    b.cell? p1 = some x ∧ b.cell? p2 = some y ∧ b.cell? p3 = some z := ⟨u.cell_eq (h1 ▸ hn) h.1, u.cell_eq (h2 ▸ hn) h.2.1, u.cell_eq (h3 ▸ hn) h.2.2⟩

set_option maxRecDepth 100000 in
set_option maxHeartbeats 16000000 in
theorem does_some (L : Nat) (A : Option Addr) (N c : Nat) (H O V E : Nat → Int) (h0 : 0 < L) (h1 : L ≤ 16) (h2 : N ≤ 400) (w : World)
    (hc : 0 < N → ∃ b o, A = some ⟨b, o, none⟩ ∧ ∀ j, j < N → w.cell? ⟨b, o + j * 4, none⟩ = some (.int .i64 (H j)) ∧ w.cell? ⟨b, o + j * 4 + 1, none⟩ = some (.int .i64 (O j)) ∧ w.cell? ⟨b, o + j * 4 + 2, none⟩ = some (.int .u32 (V j)) ∧ w.cell? ⟨b, o + j * 4 + 3, none⟩ = some (.int .i64 (E j))) :
    Calls Try.prog 9 #[.int .i64 L, .slice A N c] w fun e w' => e = .returned (.bool true) ∧ Upd Non w w' := by
  have k0 : ¬ (400 : Int) < N := by omega
  have HC := Lib.hid hc
  clear hc
  go_enter Try.func9, Try.ntmps9
  go_wp2_with fail
  refine (new_spec L h0 h1 _).mono ?_
  rintro e w1 ⟨rfl, hw1⟩
  have hb : Blk w1 w.heap.size (PS.fresh L).enc 96 := hw1 ▸ Blk.new w _ _
  have hU1 : Upd Non w w1 := hw1 ▸ (Upd.refl _ _).alloc
  have hz1 : w1.heap.size = w.heap.size + 1 := hw1 ▸ World.size_alloc ..
  clear hw1
  obtain ⟨b, hbb⟩ : ∃ b, b = w.heap.size := ⟨_, rfl⟩
  rw [← hbb] at hb ⊢
  have i1 : w.heap.size ≤ b := by omega
  have i0 : b < w1.heap.size := hb.lt
  have i5 : w.heap.size ≤ w1.heap.size := by omega
  clear hbb hz1
  go_wp2_with fail
  refine (refNew_spec L h0 h1 _).mono ?_
  rintro e w2 ⟨rfl, hw2⟩
  obtain ⟨br, hbr⟩ : ∃ b, b = w1.heap.size := ⟨_, rfl⟩
  have hB2 : Blk w2 b (PS.fresh L).enc 96 := hw2 ▸ hb.alloc
  have hr : Blk w2 br #[.int .i64 L, .bool false, .bool false, .slice none 0 0] 111 := by rw [hw2]; exact hbr ▸ Blk.new w1 _ _
  have hR : RS w2 br w.heap.size (PS.fresh L) (.slice none 0 0) := ⟨hr, by rw [PS.fresh_ways]; exact World.ownsRow_nil .., (fun h => nomatch h)⟩
  have hU2 : Upd Non w w2 := hw2 ▸ hU1.alloc
  rw [← hbr]
  have i2 : w.heap.size ≤ br := by omega
  have i3 : b ≠ br := by omega
  have HB2 := Lib.hid hB2
  have HR2 := Lib.hid hR
  have HU2 := Lib.hid hU2
  clear hw2 hb hU1 hbr hB2 hr hR hU2 i0 i5
  go_wp2_with fail
  go_loopw [5, 9] (fun p i wr => ∃ (t b : Nat) (s : PS) (v : Value), t ≤ N ∧ i = .int .i64 t ∧ p = .pointer (some ⟨b, 0, none⟩) ∧ s.ok ∧ s.clean ∧ Blk wr b s.enc 96 ∧ RS wr br w.heap.size s v ∧ b ≠ br ∧ v.ownBlock ≠ some b ∧ w.heap.size ≤ b ∧ Upd Non w wr) (fun _ i _ => N - (intOf i).toNat)
  case atStart => exact ⟨0, b, PS.fresh L, .slice none 0 0, by omega, rfl, rfl, PS.fresh_ok h0 h1, PS.fresh_clean L, HB2.out, HR2.out, i3, (fun h => nomatch h), i1, HU2.out⟩
  case round =>
    clear HB2 HR2 HU2 i1 i3
    obtain ⟨t, b, s, v, ht, rfl, rfl, hs, hcl, hb, hr, i3, i4, i1, hu⟩ := hrel
    have HS := Lib.hid hs
    have HL := Lib.hid hcl
    have HB := Lib.hid hb
    have HR := Lib.hid hr
    have HU := Lib.hid hu
    have hzz := hu.size
    clear hs hcl hb hr hu
    by_cases hlt : t < N
    case neg =>
      have k1 : ¬ (t : Int) < N := by omega
      go_wp2_with fail
      refine (awake18 _).mono ?_
      rintro e w3 ⟨rfl, U3⟩
      go_wp2_with fail
      go_ret
      exact ⟨rfl, by ((with_reducible repeat' first | exact Upd.refl _ _ | apply Upd.drew | apply Upd.drewN | apply Upd.alloc | refine Upd.setCell ?_ ?_ | refine Upd.call U3 ?_ ?_ | refine Upd.call HU.out ?_ ?_) <;> first | (intro _ _ h; exact h) | (intro _ _ h; exact h.elim) | (intro i h1 h2; exfalso; (try simp only at h2); omega) | (left; rfl) | (right; dsimp only; omega) | (right; omega))⟩
    have k1 : (t : Int) < N := by omega
    obtain ⟨ba, o, rfl, hcells⟩ := HC.out (by omega)
    obtain ⟨ce0, ce1, ce2, ce3⟩ := hcells t hlt
    have CE := Lib.hid (And.intro ce0 (And.intro ce1 (And.intro ce2 ce3)))
    have d0 := HU.out.cell_eq id ce0
    have d1 := HU.out.cell_eq id ce1
    have d2 := HU.out.cell_eq id ce2
    have d3 := HU.out.cell_eq id ce3
    have hba : ba < w.heap.size := World.block_lt_of_cell? _ _ ce0
    clear hcells ce0 ce1 ce2 ce3
    go_wp2_with fail
    refine (pick_spec (H t) 3 (by decide) (by decide) _).mono ?_
    rintro e w3 ⟨rfl, rfl⟩
    have hpk : H t % 3 = 0 ∨ H t % 3 = 1 ∨ H t % 3 = 2 := by omega
    generalize H t % 3 = hh at *
    rcases hpk with rfl | rfl | rfl
    · go_wp2_with fail
      refine (tick_spec s HS.out b _ HB.out).mono ?_
      rintro e w4 ⟨rfl, hb4, U4⟩
      have hbl4 := hb4.lt
      have HB4 := Lib.hid hb4
      have HR4 := Lib.hid (RP.upd U4 HR.out (fun h => i3 h.symm) (fun k hk h => i4 (h ▸ hk)))
      have HU4 := Lib.hid (by have h := HU.out; ((with_reducible repeat' first | exact Upd.refl _ _ | apply Upd.drew | apply Upd.drewN | apply Upd.alloc | refine Upd.setCell ?_ ?_ | refine Upd.call U4 ?_ ?_ | refine Upd.call h ?_ ?_) <;> first | (intro _ _ h; exact h) | (intro _ _ h; exact h.elim) | (intro i h1 h2; exfalso; (try simp only at h2); omega) | (left; rfl) | (right; dsimp only; omega) | (right; omega)) : Upd Non w w4)
      clear hb4 U4
      have hz4 := HU4.out.size
      go_wp2_with fail
      refine (refTick_spec br w.heap.size s.lat s.began (s.cells s.now).is s.ways v _ ?hr ?hl ?hx ?hb).mono ?_
      case hr => exact RP.upd (S := Non) (by ((with_reducible repeat' first | exact Upd.refl _ _ | apply Upd.drew | apply Upd.drewN | apply Upd.alloc | refine Upd.setCell ?_ ?_) <;> first | (intro _ _ h; exact h) | (intro _ _ h; exact h.elim) | (intro i h1 h2; exfalso; (try simp only at h2); omega) | (left; rfl) | (right; dsimp only; omega) | (right; omega))) HR4.out id (fun _ _ => id)
      case hl => have h1 := PS.ways_le s; have h2 := HS.out.le; omega
      case hx => exact fun x hx => ⟨(PS.ways_mem hx).1, (PS.ways_mem hx).2.1, Nat.le_trans (PS.ways_mem hx).2.2 HS.out.le⟩
      case hb => first | omega | (simp; omega)
      rintro e w5 ⟨rfl, v5, hr5, U5, ho5⟩
      rw [PS.outw_ways HS.out HL.out]
      obtain ⟨bx, hbx⟩ : ∃ x, x = w4.heap.size := ⟨_, rfl⟩
      have hX : Blk w5 bx #[.int .i64 (s.cells s.next).wo, .int .u32 (s.cells s.next).va, .int .i64 (s.cells s.next).er] 33 := Blk.upd U5 (Blk.newAt hbx) (fun h => by have h' : bx = br := h; have := HR4.out.blk.lt; omega)
      have hB5 : Blk w5 b s.tick.enc 96 := Blk.upd U5 (HB4.out.alloc) i3
      have hR5 : RS w5 br w.heap.size s.tick v5 := by
        have e1 : (s.tick.cells s.tick.now).is = false := by rw [PS.tick_now, PS.tick_cell, if_pos rfl]; rfl
        show RP w5 br w.heap.size s.lat true (s.tick.cells s.tick.now).is s.tick.ways v5
        rw [e1, PS.ways_tick HS.out]; exact hr5
      have j4 : v5.ownBlock ≠ some b := fun h => by have := ho5 b h; simp at this; omega
      have hU5 : Upd Non w w5 := by have h := HU4.out; ((with_reducible repeat' first | exact Upd.refl _ _ | apply Upd.drew | apply Upd.drewN | apply Upd.alloc | refine Upd.setCell ?_ ?_ | refine Upd.call U5 ?_ ?_ | refine Upd.call h ?_ ?_) <;> first | (intro _ _ h; exact h) | (intro _ _ h; exact h.elim) | (intro i h1 h2; exfalso; (try simp only at h2); omega) | (left; rfl) | (right; dsimp only; omega) | (right; omega))
      have x0 := hX.cell 0 rfl
      have x1 := hX.cell 1 rfl
      have x2 := hX.cell 2 rfl
      have hxl := hX.lt
      rw [← hbx]
      have HB5 := Lib.hid hB5
      have HR5 := Lib.hid hR5
      have HU5 := Lib.hid hU5
      clear hbx hB5 hR5 hU5 hX hr5 U5 ho5
      go_wp2_with fail
      refine (same_spec s.tick (PS.tick_ok HS.out) b br w.heap.size v5 _ (by have h := HB5.out; ((with_reducible repeat' first | apply Blk.drew | apply Blk.drewN | apply Blk.alloc | apply Blk.set | refine Blk.set_ne ?_ ?_) <;> first | with_reducible exact h | omega | (dsimp only; omega))) (RP.upd (S := Non) (by ((with_reducible repeat' first | exact Upd.refl _ _ | apply Upd.drew | apply Upd.drewN | apply Upd.alloc | refine Upd.setCell ?_ ?_) <;> first | (intro _ _ h; exact h) | (intro _ _ h; exact h.elim) | (intro i h1 h2; exfalso; (try simp only at h2); omega) | (left; rfl) | (right; dsimp only; omega) | (right; omega))) HR5.out id fun _ _ => id)).mono ?_
      rintro e w9 ⟨rfl, U9⟩
      have HB9 := Lib.hid (Blk.upd U9 (by have h := HB5.out; ((with_reducible repeat' first | apply Blk.drew | apply Blk.drewN | apply Blk.alloc | apply Blk.set | refine Blk.set_ne ?_ ?_) <;> first | with_reducible exact h | omega | (dsimp only; omega))) id : Blk w9 b (PS.enc (s.tick)) 96)
      have HR9 := Lib.hid (RP.upd U9 (RP.upd (S := Non) (by ((with_reducible repeat' first | exact Upd.refl _ _ | apply Upd.drew | apply Upd.drewN | apply Upd.alloc | refine Upd.setCell ?_ ?_) <;> first | (intro _ _ h; exact h) | (intro _ _ h; exact h.elim) | (intro i h1 h2; exfalso; (try simp only at h2); omega) | (left; rfl) | (right; dsimp only; omega) | (right; omega))) HR5.out id fun _ _ => id) id fun _ _ => id : RS w9 br w.heap.size (s.tick) v5)
      have HU9 := Lib.hid (by have h := HU5.out; ((with_reducible repeat' first | exact Upd.refl _ _ | apply Upd.drew | apply Upd.drewN | apply Upd.alloc | refine Upd.setCell ?_ ?_ | refine Upd.call U9 ?_ ?_ | refine Upd.call h ?_ ?_) <;> first | (intro _ _ h; exact h) | (intro _ _ h; exact h.elim) | (intro i h1 h2; exfalso; (try simp only at h2); omega) | (left; rfl) | (right; dsimp only; omega) | (right; omega)) : Upd Non w w9)
      clear U9
      go_wp2_with fail
      go_roundw
      case rel => exact ⟨t + 1, b, s.tick, v5, by omega, by go_num, rfl, (PS.tick_ok HS.out), (PS.tick_clean HL.out), HB9.out, HR9.out, i3, j4, i1, HU9.out⟩
      case measure => simp [intOf]; omega
    · go_wp2_with fail
      have hna : ¬ (ba = br ∨ v.ownBlock = some ba) := by
        rintro (h | h)
        · omega
        · have := (own_block HR.out.row ba h).1; omega
      have hnb : ¬ ba = b := by omega
      go_region_held3 (fun w' => w'.cell? ⟨ba, o + t * 4 + 1, none⟩ = some (.int .i64 (O t)) ∧ w'.cell? ⟨ba, o + t * 4 + 2, none⟩ = some (.int .u32 (V t)) ∧ w'.cell? ⟨ba, o + t * 4 + 3, none⟩ = some (.int .i64 (E t))) (first | exact ⟨d1, d2, d3⟩ | exact KA_upd U4 hnb ⟨d1, d2, d3⟩ | exact KA_upd U4 hnb (by assumption) | exact KA_upd U5 hna (by assumption))
        (first | (go_at_call 17; refine Calls.mono (put_any s HS.out HL.out b (O t) (V t) (E t) _ (by have h := HB.out; ((with_reducible repeat' first | apply Blk.drew | apply Blk.drewN | apply Blk.alloc | apply Blk.set | refine Blk.set_ne ?_ ?_) <;> first | with_reducible exact h | omega | (dsimp only; omega)))) ?_; rintro e w4 ⟨rfl, hb4, U4⟩; have hbl4 := hb4.lt; have HB4 := Lib.hid hb4; have HR4 := Lib.hid (RP.upd U4 (RP.upd (S := Non) (Upd.drew (Upd.refl _ _)) HR.out id fun _ _ => id) (fun h => i3 h.symm) (fun k hk h => i4 (h ▸ hk))); clear hb4) | (go_at_call 33; refine Calls.mono (refPut_any s HS.out br w.heap.size v (O t) (V t) (E t) _ HR4.out (Nat.le_trans hzz U4.size)) ?_; rintro e w5 ⟨rfl, v5, hr5, U5, ho5⟩))
      have HB5 := Lib.hid (Blk.upd U5 HB4.out (fun h => h.elim i3 i4))
      have HR5 := Lib.hid hr5
      have hU4 : Upd Non w w4 := by have h := HU.out; ((with_reducible repeat' first | exact Upd.refl _ _ | apply Upd.drew | apply Upd.drewN | apply Upd.alloc | refine Upd.setCell ?_ ?_ | refine Upd.call U4 ?_ ?_ | refine Upd.call h ?_ ?_) <;> first | (intro _ _ h; exact h) | (intro _ _ h; exact h.elim) | (intro i h1 h2; exfalso; (try simp only at h2); omega) | (left; rfl) | (right; dsimp only; omega) | (right; omega))
      have hv : ∀ k, v.ownBlock = some k → w.heap.size ≤ k := fun k hk => (own_block HR.out.row k hk).1
      have hU5 : Upd Non w w5 := Upd.call U5 hU4 (fun i h1 h2 => by
        rcases h2 with h2 | h2
        · omega
        · have := hv i h2; omega)
      have HU5 := Lib.hid hU5
      have j4 : v5.ownBlock ≠ some b := by
        rcases ho5 with h | ⟨k, h, h'⟩
        · rw [h]; exact i4
        · rw [h]; intro e; injection e with e; omega
      clear hU4 hU5 U4 U5 hr5 ho5 hv
      go_wp2_with fail
      refine (same_spec (s.putA (O t) (V t) (E t)) (PS.putA_ok HS.out (O t) (V t) (E t)) b br w.heap.size v5 _ (by have h := HB5.out; ((with_reducible repeat' first | apply Blk.drew | apply Blk.drewN | apply Blk.alloc | apply Blk.set | refine Blk.set_ne ?_ ?_) <;> first | with_reducible exact h | omega | (dsimp only; omega))) (RP.upd (S := Non) (by ((with_reducible repeat' first | exact Upd.refl _ _ | apply Upd.drew | apply Upd.drewN | apply Upd.alloc | refine Upd.setCell ?_ ?_) <;> first | (intro _ _ h; exact h) | (intro _ _ h; exact h.elim) | (intro i h1 h2; exfalso; (try simp only at h2); omega) | (left; rfl) | (right; dsimp only; omega) | (right; omega))) HR5.out id fun _ _ => id)).mono ?_
      rintro e w9 ⟨rfl, U9⟩
      have HB9 := Lib.hid (Blk.upd U9 (by have h := HB5.out; ((with_reducible repeat' first | apply Blk.drew | apply Blk.drewN | apply Blk.alloc | apply Blk.set | refine Blk.set_ne ?_ ?_) <;> first | with_reducible exact h | omega | (dsimp only; omega))) id : Blk w9 b (PS.enc ((s.putA (O t) (V t) (E t)))) 96)
      have HR9 := Lib.hid (RP.upd U9 (RP.upd (S := Non) (by ((with_reducible repeat' first | exact Upd.refl _ _ | apply Upd.drew | apply Upd.drewN | apply Upd.alloc | refine Upd.setCell ?_ ?_) <;> first | (intro _ _ h; exact h) | (intro _ _ h; exact h.elim) | (intro i h1 h2; exfalso; (try simp only at h2); omega) | (left; rfl) | (right; dsimp only; omega) | (right; omega))) HR5.out id fun _ _ => id) id fun _ _ => id : RS w9 br w.heap.size ((s.putA (O t) (V t) (E t))) v5)
      have HU9 := Lib.hid (by have h := HU5.out; ((with_reducible repeat' first | exact Upd.refl _ _ | apply Upd.drew | apply Upd.drewN | apply Upd.alloc | refine Upd.setCell ?_ ?_ | refine Upd.call U9 ?_ ?_ | refine Upd.call h ?_ ?_) <;> first | (intro _ _ h; exact h) | (intro _ _ h; exact h.elim) | (intro i h1 h2; exfalso; (try simp only at h2); omega) | (left; rfl) | (right; dsimp only; omega) | (right; omega)) : Upd Non w w9)
      clear U9
      go_wp2_with fail
      go_roundw
      case rel => exact ⟨t + 1, b, (s.putA (O t) (V t) (E t)), v5, by omega, by go_num, rfl, (PS.putA_ok HS.out (O t) (V t) (E t)), (PS.putA_clean HL.out (O t) (V t) (E t)), HB9.out, HR9.out, i3, j4, i1, HU9.out⟩
      case measure => simp [intOf]; omega
    · go_wp2_with fail
      refine (copy_spec s HS.out b _ HB.out).mono ?_
      rintro e w4 ⟨rfl, hw4⟩
      obtain ⟨bo, hbo⟩ : ∃ x, x = wr.heap.size := ⟨_, rfl⟩
      rw [← hbo]
      have hlb := HB.out.lt
      have hO4 : Blk w4 bo s.enc 96 := by rw [hw4]; exact Blk.newAt hbo
      have U4 : Upd Non wr w4 := by rw [hw4]; exact (Upd.refl _ _).alloc
      have hob : bo ≠ b := by omega
      have hobr : bo ≠ br := fun h => by have := HR.out.blk.lt; omega
      have hov : v.ownBlock ≠ some bo := fun h => by have := (own_block HR.out.row bo h).2; omega
      have hog : w.heap.size ≤ bo := by omega
      clear hw4 hbo
      have HB4 := Lib.hid (Blk.upd U4 HB.out id)
      have HO4 := Lib.hid hO4
      have HR4 := Lib.hid (RP.upd U4 HR.out id fun _ _ => id)
      have HU4 := Lib.hid (by have h := HU.out; ((with_reducible repeat' first | exact Upd.refl _ _ | apply Upd.drew | apply Upd.drewN | apply Upd.alloc | refine Upd.setCell ?_ ?_ | refine Upd.call U4 ?_ ?_ | refine Upd.call h ?_ ?_) <;> first | (intro _ _ h; exact h) | (intro _ _ h; exact h.elim) | (intro i h1 h2; exfalso; (try simp only at h2); omega) | (left; rfl) | (right; dsimp only; omega) | (right; omega)) : Upd Non w w4)
      have g1 := U4.cell_eq id d1
      have g2 := U4.cell_eq id d2
      have g3 := U4.cell_eq id d3
      clear U4 hO4 d0 d1 d2 d3
      go_wp2_with fail
      refine (put_any s HS.out HL.out b (O t) (V t) (E t) _ HB4.out).mono ?_
      rintro e w5 ⟨rfl, hb5, U5⟩
      have HB5 := Lib.hid hb5
      have HO5 := Lib.hid (Blk.upd U5 HO4.out hob)
      have HR5 := Lib.hid (RP.upd U5 HR4.out (fun h => i3 h.symm) (fun k hk h => i4 (h ▸ hk)))
      have HU5 := Lib.hid (by have h := HU4.out; ((with_reducible repeat' first | exact Upd.refl _ _ | apply Upd.drew | apply Upd.drewN | apply Upd.alloc | refine Upd.setCell ?_ ?_ | refine Upd.call U5 ?_ ?_ | refine Upd.call h ?_ ?_) <;> first | (intro _ _ h; exact h) | (intro _ _ h; exact h.elim) | (intro i h1 h2; exfalso; (try simp only at h2); omega) | (left; rfl) | (right; dsimp only; omega) | (right; omega)) : Upd Non w w5)
      clear hb5 U5 g1 g2 g3
      go_wp2_with fail
      refine (tick_spec _ (PS.putA_ok HS.out (O t) (V t) (E t)) b _ HB5.out).mono ?_
      rintro e w6 ⟨rfl, hb6, U6⟩
      have HB6 := Lib.hid hb6
      have HO6 := Lib.hid (Blk.upd U6 HO5.out hob)
      have HR6 := Lib.hid (RP.upd U6 HR5.out (fun h => i3 h.symm) (fun k hk h => i4 (h ▸ hk)))
      have HU6 := Lib.hid (by have h := HU5.out; ((with_reducible repeat' first | exact Upd.refl _ _ | apply Upd.drew | apply Upd.drewN | apply Upd.alloc | refine Upd.setCell ?_ ?_ | refine Upd.call U6 ?_ ?_ | refine Upd.call h ?_ ?_) <;> first | (intro _ _ h; exact h) | (intro _ _ h; exact h.elim) | (intro i h1 h2; exfalso; (try simp only at h2); omega) | (left; rfl) | (right; dsimp only; omega) | (right; omega)) : Upd Non w w6)
      clear hb6 U6
      go_wp2_with fail
      refine (put_any _ (PS.tick_ok (PS.putA_ok HS.out (O t) (V t) (E t))) (PS.tick_clean (PS.putA_clean HL.out (O t) (V t) (E t))) b 7 0 0 _ HB6.out).mono ?_
      rintro e w7 ⟨rfl, hb7, U7⟩
      have HO7 := Lib.hid (Blk.upd U7 HO6.out hob)
      have HR7 := Lib.hid (RP.upd U7 HR6.out (fun h => i3 h.symm) (fun k hk h => i4 (h ▸ hk)))
      have HU7 := Lib.hid (by have h := HU6.out; ((with_reducible repeat' first | exact Upd.refl _ _ | apply Upd.drew | apply Upd.drewN | apply Upd.alloc | refine Upd.setCell ?_ ?_ | refine Upd.call U7 ?_ ?_ | refine Upd.call h ?_ ?_) <;> first | (intro _ _ h; exact h) | (intro _ _ h; exact h.elim) | (intro i h1 h2; exfalso; (try simp only at h2); omega) | (left; rfl) | (right; dsimp only; omega) | (right; omega)) : Upd Non w w7)
      clear hb7 U7
      go_wp2_with fail
      refine (same_spec s HS.out bo br w.heap.size v _ (by have h := HO7.out; ((with_reducible repeat' first | apply Blk.drew | apply Blk.drewN | apply Blk.alloc | apply Blk.set | refine Blk.set_ne ?_ ?_) <;> first | with_reducible exact h | omega | (dsimp only; omega))) (RP.upd (S := Non) (by ((with_reducible repeat' first | exact Upd.refl _ _ | apply Upd.drew | apply Upd.drewN | apply Upd.alloc | refine Upd.setCell ?_ ?_) <;> first | (intro _ _ h; exact h) | (intro _ _ h; exact h.elim) | (intro i h1 h2; exfalso; (try simp only at h2); omega) | (left; rfl) | (right; dsimp only; omega) | (right; omega))) HR7.out id fun _ _ => id)).mono ?_
      rintro e w9 ⟨rfl, U9⟩
      have HB9 := Lib.hid (Blk.upd U9 (by have h := HO7.out; ((with_reducible repeat' first | apply Blk.drew | apply Blk.drewN | apply Blk.alloc | apply Blk.set | refine Blk.set_ne ?_ ?_) <;> first | with_reducible exact h | omega | (dsimp only; omega))) id : Blk w9 bo (PS.enc (s)) 96)
      have HR9 := Lib.hid (RP.upd U9 (RP.upd (S := Non) (by ((with_reducible repeat' first | exact Upd.refl _ _ | apply Upd.drew | apply Upd.drewN | apply Upd.alloc | refine Upd.setCell ?_ ?_) <;> first | (intro _ _ h; exact h) | (intro _ _ h; exact h.elim) | (intro i h1 h2; exfalso; (try simp only at h2); omega) | (left; rfl) | (right; dsimp only; omega) | (right; omega))) HR7.out id fun _ _ => id) id fun _ _ => id : RS w9 br w.heap.size (s) v)
      have HU9 := Lib.hid (by have h := HU7.out; ((with_reducible repeat' first | exact Upd.refl _ _ | apply Upd.drew | apply Upd.drewN | apply Upd.alloc | refine Upd.setCell ?_ ?_ | refine Upd.call U9 ?_ ?_ | refine Upd.call h ?_ ?_) <;> first | (intro _ _ h; exact h) | (intro _ _ h; exact h.elim) | (intro i h1 h2; exfalso; (try simp only at h2); omega) | (left; rfl) | (right; dsimp only; omega) | (right; omega)) : Upd Non w w9)
      clear U9
      go_wp2_with fail
      go_roundw
      case rel => exact ⟨t + 1, bo, s, v, by omega, by go_num, rfl, HS.out, HL.out, HB9.out, HR9.out, hobr, hov, hog, HU9.out⟩
      case measure => simp [intOf]; omega
end Go.Proofs.Ytnmbkhofikbcjaa
