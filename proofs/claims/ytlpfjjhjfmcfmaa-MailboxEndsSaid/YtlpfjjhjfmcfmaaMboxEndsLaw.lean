/- MailboxEnds: the law's walk. No condition. -/
import Derived.Test.YtlpfjjhjfmcfmaaMboxNone
import Derived.Deep.RegionHeld3
namespace Go.Proofs.Ytlpfjjhjfmcfmaa
open Go.RowKit
/-- The registers that the law takes. -/
def tenR : Array Value := #[.int .i64 (-9223372036854775808), .int .i64 (-1), .int .i64 0, .int .i64 1, .int .i64 2, .int .i64 3, .int .i64 4, .int .i64 7, .int .i64 8, .int .i64 9223372036854775807]
theorem tenR_at (j : Nat) (h : j < 10) : ∃ z : Int, tenR[j]? = some (.int .i64 z) := by
  rcases (show j = 0 ∨ j = 1 ∨ j = 2 ∨ j = 3 ∨ j = 4 ∨ j = 5 ∨ j = 6 ∨ j = 7 ∨ j = 8 ∨ j = 9 by omega) with rfl | rfl | rfl | rfl | rfl | rfl | rfl | rfl | rfl | rfl
  all_goals exact ⟨_, rfl⟩
/-- A row of deeds between two rounds. -/
structure LX (w1 W : World) (v : Value) (l : List DT) : Prop where
  o : W.ownsRow w1.heap.size 48 3 v l.length (dtL l)
  k : ∀ x ∈ l, x.ok
  u : Upd Non w1 W
section
variable {w1 W W' : World} {v v' : Value} {l : List DT} {x : DT}
theorem LX.nil (u : Upd Non w1 W) : LX w1 W (.slice none 0 0) [] := ⟨World.ownsRow_nil _ _ _ _, (fun x h => by cases h), u⟩
theorem LX.app (h : LX w1 W v l) (ho : W'.ownsRow w1.heap.size 48 3 v' (l.length + 1) (dtL l ++ x.enc)) (hg : W.grownBy W' v.ownBlock) (hx : x.ok) : LX w1 W' v' (l ++ [x]) := by
  refine ⟨?_, fun y hy => ?_, Upd.grown hg h.u (fun r hr => .inr (own_block h.o r hr).1)⟩
  · rw [List.length_append, dtL_append]
    simpa [dtL] using ho
  · rcases List.mem_append.1 hy with hy | hy
    · exact h.k y hy
    · have e : y = x := by simpa using hy
      rw [e]; exact hx
theorem LX.apps (h : LX w1 W v l) {ys : List DT} {n : Nat} (hn : n = l.length + ys.length) (ho : W'.ownsRow w1.heap.size 48 3 v' n (dtL l ++ dtL ys)) (hg : W.grownBy W' v.ownBlock) (hx : ∀ x ∈ ys, x.ok) : LX w1 W' v' (l ++ ys) := by
  subst hn
  refine ⟨?_, fun y hy => ?_, Upd.grown hg h.u (fun r hr => .inr (own_block h.o r hr).1)⟩
  · rw [List.length_append, dtL_append]
    exact ho
  · rcases List.mem_append.1 hy with hy | hy
    · exact h.k y hy
    · exact hx y hy
theorem LX.non (h : LX w1 W v l) (u : Upd Non W W') : LX w1 W' v l := ⟨own_upd u h.o (fun _ _ => id), h.k, Upd.call u h.u fun _ _ h => h⟩
end
def last8 (a b x y : Int) : List DT := [⟨1, 2, a⟩, ⟨1, 2, b⟩, ⟨2, 0, 5⟩, ⟨0, x, 0⟩, ⟨1, x, 7⟩, ⟨1, y, 9⟩, ⟨0, 0, 0⟩, ⟨1, 3, 1⟩]
theorem last8_ok {a b x y : Int} (ha : 0 ≤ a ∧ a < 4294967296) (hb : 0 ≤ b ∧ b < 4294967296) : ∀ z ∈ last8 a b x y, z.ok := by
  intro z hz
  simp only [last8, List.mem_cons, List.not_mem_nil, or_false] at hz
  rcases hz with rfl | rfl | rfl | rfl | rfl | rfl | rfl | rfl
  · exact ha
  · exact hb
  all_goals (unfold DT.ok; dsimp only; omega)
set_option maxRecDepth 100000 in
set_option maxHeartbeats 16000000 in
theorem ends_m (w : World) : Calls Try.prog 8 #[] w fun e w' => e = .returned (.bool true) ∧ Upd Non w w' := by
  go_enter Try.func8, Try.ntmps8
  go_upto_region 2 with fail
  obtain ⟨w1, hw1⟩ : ∃ x, x = w.alloc (.cells #[.int .i64 (-9223372036854775808), .int .i64 (-1), .int .i64 0, .int .i64 1, .int .i64 2, .int .i64 3, .int .i64 4, .int .i64 7, .int .i64 8, .int .i64 9223372036854775807] 3) := ⟨_, rfl⟩
  obtain ⟨ge, hge⟩ : ∃ x, x = w.heap.size := ⟨_, rfl⟩
  have HE := Lib.hid (show Blk w1 ge tenR 3 by rw [hw1]; exact Blk.newAt hge)
  have HU1 := Lib.hid (show Upd Non w w1 by rw [hw1]; ((with_reducible repeat' first | exact Upd.refl _ _ | apply Upd.drew | apply Upd.drewN | apply Upd.alloc | refine Upd.setCell ?_ ?_) <;> first | (intro _ _ h; exact h) | (intro _ _ h; exact h.elim) | (intro i h1 h2; exfalso; (try simp only at h2); omega) | (left; rfl) | (right; dsimp only; omega) | (right; omega)))
  rw [← hw1, ← hge]
  clear hw1 hge
  go_wp2_with fail
  go_loopw [2, 3, 4, 5, 6] (fun i _ _ _ _ wr => ∃ t : Nat, t ≤ 7 ∧ i = .int .i64 t ∧ Upd Non w1 wr) (fun i _ _ _ _ _ => 7 - (intOf i).toNat)
  case atStart => exact ⟨0, by omega, rfl, Upd.refl _ _⟩
  case round =>
    obtain ⟨t, ht, rfl, hU⟩ := hrel
    have HU := Lib.hid hU
    clear hU
    by_cases hlt : t < 7
    case pos =>
      have k1 : (t : Int) < 7 := by omega
      go_wp2_with fail
      go_loopw [3, 4, 5, 6] (fun i _ _ _ wr => ∃ q : Nat, q ≤ 10 ∧ i = .int .i64 q ∧ Upd Non w1 wr) (fun i _ _ _ _ => 10 - (intOf i).toNat)
      case atStart => exact ⟨0, by omega, rfl, HU.out⟩
      case round =>
        clear HU
        obtain ⟨q, hq, rfl, hU⟩ := hrel
        have HU := Lib.hid hU
        clear hU
        by_cases hlt2 : q < 10
        case neg =>
          have k2 : ¬ (q : Int) < 10 := by omega
          go_wp2_with fail
          go_roundw
          case rel => exact ⟨t + 1, by omega, by go_num, HU.out⟩
          case measure => simp [intOf]; omega
        have k2 : (q : Int) < 10 := by omega
        go_wp2_with fail
        go_loopw [4, 5] (fun v i wr => ∃ (j : Nat) (l : List DT), j ≤ t ∧ i = .int .i64 j ∧ l.length = j ∧ LX w1 wr v l) (fun _ i _ => t - (intOf i).toNat)
        case atStart => exact ⟨0, [], by omega, rfl, rfl, LX.nil HU.out⟩
        case round =>
          clear HU
          obtain ⟨j, l, hj, rfl, hl, h⟩ := hrel
          obtain ⟨A, c, hv⟩ := own_slice h.o
          rw [hl] at hv
          subst hv
          have HX := Lib.hid h
          have hz := h.u.size
          clear h
          by_cases hlt3 : j < t
          case pos =>
            have k3 : (j : Int) < t := by omega
            go_wp2_with (at_builtin; refine wpList_gappend rfl _ _ 44 rfl 48 _ 3 24 Try.underlying44 Try.info48 rfl (by decide) rfl (HX.out.non (by ((with_reducible repeat' first | exact Upd.refl _ _ | apply Upd.drew | apply Upd.drewN | apply Upd.alloc | refine Upd.setCell ?_ ?_) <;> first | (intro _ _ h; exact h) | (intro _ _ h; exact h.elim) | (intro i h1 h2; exfalso; (try simp only at h2); omega) | (left; rfl) | (right; dsimp only; omega) | (right; omega)))).o wr.heap.size (DT.enc ⟨1, 0, _⟩).toArray 48 rfl (Blk.new _ _ _) rfl rfl (by omega) (by omega) (by rw [World.size_alloc]; omega) ?_; intro v' w6 hv hgr hbb)
            have HX6 := Lib.hid ((HX.out.non (by ((with_reducible repeat' first | exact Upd.refl _ _ | apply Upd.drew | apply Upd.drewN | apply Upd.alloc | refine Upd.setCell ?_ ?_) <;> first | (intro _ _ h; exact h) | (intro _ _ h; exact h.elim) | (intro i h1 h2; exfalso; (try simp only at h2); omega) | (left; rfl) | (right; dsimp only; omega) | (right; omega)))).app (x := ⟨1, 0, _⟩) hv hgr ⟨by show 0 ≤ (j : Int) * 268435457; omega, by show (j : Int) * 268435457 < 4294967296; omega⟩)
            exact ⟨⟨j + 1, _, by omega, by go_num, by rw [List.length_append, hl]; rfl, HX6.out⟩, by simp only [intOf]; omega⟩
          have k3 : ¬ (j : Int) < t := by omega
          go_wp2_with fail
          go_loopw [4, 6] (fun v i wr => ∃ (j : Nat) (l : List DT), j ≤ q % 7 ∧ i = .int .i64 j ∧ l.length = t + j ∧ LX w1 wr v l) (fun _ i _ => q % 7 - (intOf i).toNat)
          case atStart => exact ⟨0, l, by omega, rfl, by omega, HX.out⟩
          case round =>
            clear HX hl hlt3 k3 hj
            obtain ⟨j, l, hj, rfl, hl, h⟩ := hrel
            obtain ⟨A, c, hv⟩ := own_slice h.o
            rw [hl] at hv
            subst hv
            have HX := Lib.hid h
            have hz := h.u.size
            clear h
            by_cases hlt4 : j < q % 7
            case pos =>
              have k3 : (j : Int) < (q : Int) % 7 := by omega
              have k4 : (j : Int) < ((q % 7 : Nat) : Int) := by omega
              go_wp2_with (at_builtin; refine wpList_gappend rfl _ _ 44 rfl 48 _ 3 24 Try.underlying44 Try.info48 rfl (by decide) rfl (HX.out.non (by ((with_reducible repeat' first | exact Upd.refl _ _ | apply Upd.drew | apply Upd.drewN | apply Upd.alloc | refine Upd.setCell ?_ ?_) <;> first | (intro _ _ h; exact h) | (intro _ _ h; exact h.elim) | (intro i h1 h2; exfalso; (try simp only at h2); omega) | (left; rfl) | (right; dsimp only; omega) | (right; omega)))).o wr.heap.size (DT.enc ⟨0, 0, 0⟩).toArray 48 rfl (Blk.new _ _ _) rfl rfl (by omega) (by omega) (by rw [World.size_alloc]; omega) ?_; intro v' w6 hv hgr hbb)
              have HX6 := Lib.hid ((HX.out.non (by ((with_reducible repeat' first | exact Upd.refl _ _ | apply Upd.drew | apply Upd.drewN | apply Upd.alloc | refine Upd.setCell ?_ ?_) <;> first | (intro _ _ h; exact h) | (intro _ _ h; exact h.elim) | (intro i h1 h2; exfalso; (try simp only at h2); omega) | (left; rfl) | (right; dsimp only; omega) | (right; omega)))).app (x := ⟨0, 0, 0⟩) hv hgr ⟨by decide, by decide⟩)
              exact ⟨⟨j + 1, _, by omega, by go_num, by rw [List.length_append, hl]; rfl, HX6.out⟩, by simp only [intOf]; omega⟩
            have k3 : ¬ (j : Int) < (q : Int) % 7 := by omega
            have k4 : ¬ (j : Int) < ((q % 7 : Nat) : Int) := by omega
            obtain ⟨x, hx⟩ := tenR_at q hlt2
            obtain ⟨y, hy⟩ := tenR_at t (by omega)
            have hs0 : wr.cell? ⟨ge, q, none⟩ = some (.int .i64 x) ∧ wr.cell? ⟨ge, t, none⟩ = some (.int .i64 y) := ⟨(Blk.upd HX.out.u HE.out id).cell q hx, (Blk.upd HX.out.u HE.out id).cell t hy⟩
            obtain ⟨i0, hi0, hz0, hz1, hz2⟩ := info_parts Try.info48
            have hx := hx
            go_wp2_with fail
            have HI0 := Lib.hid (And.intro hi0 (And.intro hz0 (And.intro hz1 hz2)))
            clear hi0 hz0 hz1 hz2
            have hown0 := HX.out.o
            rw [hl] at hown0
            have HO := Lib.hid hown0
            have htj : t + j + 8 ≤ 1000 := by omega
            clear hown0
            obtain ⟨s3, hs3⟩ : ∃ s3, s3 = 3 * q := ⟨_, rfl⟩
            have e3 : IntKind.i64.wrap (3 * (q : Int)) = (s3 : Int) := by rw [IntWalk.i64_in _ (by omega)]; omega
            have k5 : (t : Int) < 10 := by omega
            have k6 : (s3 : Int) < 32 := by omega
            have k7 : s3 < 32 := by omega
            clear hs3
            go_region_held3 (fun w' => w'.cell? ⟨ge, q, none⟩ = some (.int .i64 x) ∧ w'.cell? ⟨ge, t, none⟩ = some (.int .i64 y)) (first | exact hs0 | exact ⟨(Upd.alloc (Upd.refl Non _)).cell_eq id (And.left (by assumption)), (Upd.alloc (Upd.refl Non _)).cell_eq id (And.right (by assumption))⟩ | exact ⟨HX7.out.u.cell_eq id (HE.out.cell q hx), HX7.out.u.cell_eq id (HE.out.cell t hy)⟩) ((refine step_append_lies _ (by rfl) _ _ 44 (by rfl) w1.heap.size 48 i0 _ 3 24 Try.underlying44 HI0.out.1 HI0.out.2.1 HI0.out.2.2.1 HI0.out.2.2.2 rfl (by decide) (.slice A (t + j) c) (t + j) (dtL l) (by rfl) (own_upd (S := Non) (by ((with_reducible repeat' first | exact Upd.refl _ _ | apply Upd.drew | apply Upd.drewN | apply Upd.alloc | refine Upd.setCell ?_ ?_) <;> first | (intro _ _ h; exact h) | (intro _ _ h; exact h.elim) | (intro i h1 h2; exfalso; (try simp only at h2); omega) | (left; rfl) | (right; dsimp only; omega) | (right; omega))) HO.out (fun _ _ => id)) ⟨wr.heap.size, 0, none⟩ 8 8 (dtL (last8 _ _ x y)) (by rfl) (by rfl) (World.news_of_block (heap_alloc_new _ _)) (fun u hu => List.all_eq_true.1 (dtL_one _) u hu) (by decide) (by simp only [maxLen]; omega) (by omega) (by first | exact Nat.le_trans hz (Upd.drew (Upd.alloc (Upd.refl Non _))).size | exact Nat.le_trans hz (Upd.alloc (Upd.drew (Upd.refl Non _))).size) (wr.heap.size + 1) (by simp) ?_; intro g cap w7 hown hgrow hat hlt1; have HX7 := Lib.hid (LX.apps (HX.out.non (by first | exact Upd.drew (Upd.alloc (Upd.refl Non _)) | exact Upd.alloc (Upd.drew (Upd.refl Non _)))) (by rw [hl]; rfl) hown hgrow (last8_ok (by first | exact u32_wrap _ | omega) (by first | exact u32_wrap _ | omega))); clear hown hgrow hat hlt1))
            go_wp2_with fail
            obtain ⟨A7, c7, hv⟩ := own_slice HX7.out.o
            have hv8 := Value.slice.inj hv
            refine (does_row (l := l ++ last8 _ _ x y) (by rw [List.length_append, hl]; rfl) (by have := HX7.out.o; rw [List.length_append, hl] at this; exact this) HX7.out.k).mono ?_
            rintro e w8 ⟨rfl, hU⟩
            have HU8 := Lib.hid (Upd.call hU HX7.out.u fun _ _ h => h)
            clear hU hs0 hv hv8
            go_wp2_with fail
            exact ⟨⟨q + 1, by omega, by go_num, HU8.out⟩, by simp only [intOf]; omega⟩
    have k1 : ¬ (t : Int) < 7 := by omega
    go_upto_region 21 with fail
    obtain ⟨w2, hw2⟩ : ∃ x, x = (wr.alloc (.cells #[.pointer none, .int .u32 0, .int .u32 0] 56)).alloc (.cells #[.pointer none, .pointer (some ⟨wr.heap.size, 0, none⟩)] 36) := ⟨_, rfl⟩
    obtain ⟨bz, hbz⟩ : ∃ x, x = wr.heap.size := ⟨_, rfl⟩
    obtain ⟨bl, hbl⟩ : ∃ x, x = wr.heap.size + 1 := ⟨_, rfl⟩
    have HS := Lib.hid (show Blk w2 bl #[.pointer none, .pointer (some ⟨bz, 0, none⟩)] 36 ∧ DeadM w2 (some ⟨bz, 0, none⟩) ∧ Upd Non w w2 from by
      refine ⟨by rw [hw2, hbz]; exact Blk.newAt (by rw [World.size_alloc]; exact hbl), .inr ⟨bz, rfl, ?_⟩, ?_⟩
      · have h : Blk w2 bz #[.pointer none, .int .u32 0, .int .u32 0] 56 := by rw [hw2]; exact Blk.alloc (Blk.newAt hbz)
        exact h.cell 0 rfl
      · rw [hw2]
        exact Upd.alloc (Upd.alloc (Upd.call HU.out HU1.out fun _ _ h => h)))
    rw [← hw2, ← hbl, ← hbz]
    clear hw2 hbl hbz HU HU1 HE
    go_wp2_with fail
    go_loopw [8, 9, 10] (fun i _ _ wr => ∃ t : Nat, t ≤ 2 ∧ i = .int .i64 t ∧ Upd Non w2 wr) (fun i _ _ _ => 2 - (intOf i).toNat)
    case atStart => exact ⟨0, by omega, rfl, Upd.refl _ _⟩
    case round =>
      clear ht hlt k1
      obtain ⟨t, ht, rfl, hU⟩ := hrel
      have HU := Lib.hid hU
      clear hU
      by_cases hlt : t < 2
      case neg =>
        have k1 : ¬ (t : Int) < 2 := by omega
        go_wp2_with fail
        refine (awake_m _).mono ?_
        rintro e w3 ⟨rfl, hU⟩
        have HU3 := Lib.hid (Upd.call hU (Upd.call HU.out HS.out.2.2 fun _ _ h => h) fun _ _ h => h)
        clear hU HU
        go_wp2_with fail
        go_ret
        exact ⟨rfl, HU3.out⟩
      have k1 : (t : Int) < 2 := by omega
      have hp : ∃ p, wr.cell? ⟨bl, t, none⟩ = some (.pointer p) ∧ DeadM wr p := by
        have hb := Blk.upd HU.out HS.out.1 id
        rcases (show t = 0 ∨ t = 1 by omega) with rfl | rfl
        · exact ⟨none, hb.cell 0 rfl, .inl rfl⟩
        · exact ⟨_, hb.cell 1 rfl, HS.out.2.1.upd HU.out⟩
      obtain ⟨p, c0, hp⟩ := hp
      have HP := Lib.hid hp
      clear hp
      go_wp2_with fail
      refine (write_dead 0 1 _ HP.out).mono ?_
      rintro e w3 ⟨rfl, hU⟩
      have HU3 := Lib.hid hU
      clear hU c0
      go_wp2_with fail
      refine (write_dead 2 1 _ (HP.out.upd HU3.out)).mono ?_
      rintro e w4 ⟨rfl, hU⟩
      have HU4 := Lib.hid (Upd.call hU HU3.out fun _ _ h => h)
      clear hU HU3
      go_wp2_with fail
      refine (state_dead _ (HP.out.upd HU4.out)).mono ?_
      rintro e w5 ⟨rfl, hU⟩
      have HU5 := Lib.hid (Upd.call hU HU4.out fun _ _ h => h)
      clear hU HU4
      go_upto_region 28 with fail
      obtain ⟨w6, hw6⟩ : ∃ x, x = w5.alloc (.cells #[.slice none 0 0, .int .u32 0, .int .u32 0] 39) := ⟨_, rfl⟩
      obtain ⟨b6, hb6⟩ : ∃ x, x = w5.heap.size := ⟨_, rfl⟩
      have HB6 := Lib.hid (show Blk w6 b6 #[.slice none 0 0, .int .u32 0, .int .u32 0] 39 by rw [hw6]; exact Blk.newAt hb6)
      have HU6 := Lib.hid (show Upd Non wr w6 by rw [hw6]; exact HU5.out.alloc)
      rw [← hw6, ← hb6]
      clear hw6 hb6 HU5
      go_wp2_with fail
      refine (read_dead 0 _ (HP.out.upd HU6.out)).mono ?_
      rintro e w7 ⟨rfl, hU⟩
      have HB7 := Lib.hid (Blk.upd hU HB6.out id)
      have HU7 := Lib.hid (Upd.call hU HU6.out fun _ _ h => h)
      clear hU HU6 HB6
      go_wp2_with fail
      refine (read_dead 1 _ (HP.out.upd HU7.out)).mono ?_
      rintro e w8 ⟨rfl, hU⟩
      have HB8 := Lib.hid (Blk.upd hU HB7.out id)
      have HU8 := Lib.hid (Upd.call hU HU7.out fun _ _ h => h)
      clear hU HU7 HB7
      go_wp2_with fail
      refine (read_dead 2 _ (HP.out.upd HU8.out)).mono ?_
      rintro e w9 ⟨rfl, hU⟩
      have HB9 := Lib.hid (Blk.upd hU HB8.out id)
      have HU9 := Lib.hid (Upd.call hU HU8.out fun _ _ h => h)
      have x0 := HB9.out.cell 0 rfl
      have x1 := HB9.out.cell 1 rfl
      have x2 := HB9.out.cell 2 rfl
      clear hU HU8 HB8
      go_wp2_with fail
      refine (line_dead _ (HP.out.upd HU9.out)).mono ?_
      rintro e w10 ⟨rfl, rfl⟩
      go_wp2_with fail
      refine (copy_dead _ (HP.out.upd HU9.out)).mono ?_
      rintro e w10 ⟨rfl, rfl⟩
      go_wp2_with fail
      exact ⟨⟨t + 1, by omega, by go_num, Upd.call HU9.out HU.out fun _ _ h => h⟩, by simp only [intOf]; omega⟩
end Go.Proofs.Ytlpfjjhjfmcfmaa
