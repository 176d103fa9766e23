/- PipeSmall: the law's walk. No condition. -/
import Derived.Test.YtnmbkhofikbcjaaPipeDoesLaw
import Derived.Test.YtnmbkhofikbcjaaPipeNone
namespace Go.Proofs.Ytnmbkhofikbcjaa
open Go.RowKit Go.Joins

theorem does_law (l : Int) (A : Option Addr) (n c : Nat) (R O V E : Nat → Int) (w : World)
    (hc : 0 < n → ∃ b o, A = some ⟨b, o, none⟩ ∧ ∀ j, j < n → w.cell? ⟨b, o + j * 4, none⟩ = some (.int .i64 (R j)) ∧ w.cell? ⟨b, o + j * 4 + 1, none⟩ = some (.int .i64 (O j)) ∧ w.cell? ⟨b, o + j * 4 + 2, none⟩ = some (.int .u32 (V j)) ∧ w.cell? ⟨b, o + j * 4 + 3, none⟩ = some (.int .i64 (E j))) :
    Calls Try.prog 9 #[.int .i64 l, .slice A n c] w fun e w' => e = .returned (.bool true) ∧ Upd Non w w' := by
  by_cases h : 400 < n
  · exact does_long l A n c h w
  · by_cases h2 : l < 1 ∨ 16 < l
    · exact does_bad l A n c (by omega) h2 w
    · obtain ⟨L, rfl⟩ := Int.eq_ofNat_of_zero_le (show 0 ≤ l by omega)
      exact does_some L A n c R O V E (by omega) (by omega) (by omega) w hc

/-- A deed's cells. -/
abbrev Dd := Int × Int × Int × Int
def ddV (q : Dd) : List Value := [.int .i64 q.1, .int .i64 q.2.1, .int .u32 q.2.2.1, .int .i64 q.2.2.2]
def ddenc (l : List Dd) : List Value := l.flatMap ddV
theorem ddenc_append (a b : List Dd) : ddenc (a ++ b) = ddenc a ++ ddenc b := by simp [ddenc]
theorem ddenc_at {l : List Dd} {i : Nat} {x : Dd} (h : l[i]? = some x) :
    (ddenc l)[i * 4]? = some (.int .i64 x.1) ∧ (ddenc l)[i * 4 + 1]? = some (.int .i64 x.2.1) ∧ (ddenc l)[i * 4 + 2]? = some (.int .u32 x.2.2.1) ∧ (ddenc l)[i * 4 + 3]? = some (.int .i64 x.2.2.2) := by
  induction l generalizing i with
  | nil => simp at h
  | cons y l ih =>
    cases i with
    | zero =>
      simp at h; subst h
      exact ⟨rfl, rfl, rfl, rfl⟩
    | succ i =>
      have h' : l[i]? = some x := by simpa using h
      obtain ⟨a, b, c, d⟩ := ih h'
      have e : ddenc (y :: l) = ddV y ++ ddenc l := rfl
      have e4 : (ddV y).length = 4 := rfl
      have k : ∀ j, (ddenc (y :: l))[(i + 1) * 4 + j]? = (ddenc l)[i * 4 + j]? := fun j => by
        rw [e, List.getElem?_append_right (by rw [e4]; omega), e4]; congr 1; omega
      exact ⟨(k 0).trans a, (k 1).trans b, (k 2).trans c, (k 3).trans d⟩
/-- The law's call on a slice of the law's own. -/
theorem does_own (l : Int) (A : Option Addr) (c base n : Nat) (q : List Dd) (w : World) (h : w.ownsRow base 60 4 (.slice A n c) n (ddenc q)) (hn : q.length = n) :
    Calls Try.prog 9 #[.int .i64 l, .slice A n c] w fun e w' => e = .returned (.bool true) ∧ Upd Non w w' := by
  subst hn
  refine does_law l A q.length c (fun j => (q.getD j (0, 0, 0, 0)).1) (fun j => (q.getD j (0, 0, 0, 0)).2.1) (fun j => (q.getD j (0, 0, 0, 0)).2.2.1) (fun j => (q.getD j (0, 0, 0, 0)).2.2.2) w fun hn => ?_
  obtain ⟨g, c', hA, _, _⟩ := own_form h hn
  injection hA with hA _ _
  subst hA
  obtain ⟨cur, hC, hcur⟩ := own_cells h rfl
  refine ⟨g, 0, rfl, fun j hj => ?_⟩
  have hq : q[j]? = some (q.getD j (0, 0, 0, 0)) := by rw [List.getD_eq_getElem?_getD, List.getElem?_eq_getElem hj]; rfl
  obtain ⟨a, b, d, e⟩ := ddenc_at hq
  rw [Nat.zero_add]
  exact ⟨hC.cell _ (hcur _ _ a), hC.cell _ (hcur _ _ b), hC.cell _ (hcur _ _ d), hC.cell _ (hcur _ _ e)⟩

set_option maxRecDepth 100000 in
set_option maxHeartbeats 16000000 in
theorem small_law (w : World) : Calls Try.prog 10 #[] w fun e w' => e = .returned (.bool true) ∧ Upd Non w w' := by
  go_enter Try.func10, Try.ntmps10
  go_wp2_with fail
  go_loopw [1] (fun i wr => ∃ t : Nat, t ≤ 256 ∧ i = .int .i64 t ∧ Upd Non w wr) (fun i _ => 256 - (intOf i).toNat)
  case atStart => exact ⟨0, by omega, rfl, Upd.refl _ _⟩
  case round =>
    obtain ⟨t, ht, rfl, hu⟩ := hrel
    have HU := Lib.hid hu
    clear hu
    by_cases hlt : t < 256
    case neg =>
      have k1 : ¬ (t : Int) < 256 := by omega
      go_wp2_with fail
      have hE : Blk (wr.alloc (.cells #[.int .i64 (-9223372036854775808), .int .i64 (-1), .int .i64 0, .int .i64 17, .int .i64 9223372036854775807] 3)) wr.heap.size #[.int .i64 (-9223372036854775808), .int .i64 (-1), .int .i64 0, .int .i64 17, .int .i64 9223372036854775807] 3 := Blk.new _ _ _
      have hU0 := Lib.hid (by have h := HU.out; ((with_reducible repeat' first | exact Upd.refl _ _ | apply Upd.drew | apply Upd.drewN | apply Upd.alloc | refine Upd.setCell ?_ ?_ | refine Upd.call h ?_ ?_) <;> first | (intro _ _ h; exact h) | (intro _ _ h; exact h.elim) | (intro i h1 h2; exfalso; (try simp only at h2); omega) | (left; rfl) | (right; dsimp only; omega) | (right; omega)) : Upd Non w (wr.alloc (.cells #[.int .i64 (-9223372036854775808), .int .i64 (-1), .int .i64 0, .int .i64 17, .int .i64 9223372036854775807] 3)))
      obtain ⟨be, hbe⟩ : ∃ x, x = wr.heap.size := ⟨_, rfl⟩
      rw [← hbe] at hE ⊢
      have hE0 := Lib.hid hE
      clear hbe hE HU
      go_loopw [6] (fun i wr => ∃ t : Nat, t ≤ 5 ∧ i = .int .i64 t ∧ Blk wr be #[.int .i64 (-9223372036854775808), .int .i64 (-1), .int .i64 0, .int .i64 17, .int .i64 9223372036854775807] 3 ∧ Upd Non w wr) (fun i _ => 5 - (intOf i).toNat)
      case atStart => exact ⟨0, by omega, rfl, hE0.out, hU0.out⟩
      case round =>
        clear hE0 hU0 ht hlt k1
        obtain ⟨j, hj, rfl, he, hu⟩ := hrel
        have HE := Lib.hid he
        have HU := Lib.hid hu
        clear he hu
        by_cases hlt : j < 5
        case pos =>
          have k1 : (j : Int) < 5 := by omega
          obtain ⟨z, hz⟩ : ∃ z : Int, (#[.int .i64 (-9223372036854775808), .int .i64 (-1), .int .i64 0, .int .i64 17, .int .i64 9223372036854775807] : Array Value)[j]? = some (.int .i64 z) := by
            rcases (show j = 0 ∨ j = 1 ∨ j = 2 ∨ j = 3 ∨ j = 4 by omega) with rfl | rfl | rfl | rfl | rfl
            all_goals exact ⟨_, rfl⟩
          have c1 := HE.out.cell _ hz
          clear hz
          go_wp2_with fail
          refine (does_law z none 0 0 (fun _ => 0) (fun _ => 0) (fun _ => 0) (fun _ => 0) _ (fun h => absurd h (by decide))).mono ?_
          rintro e w2 ⟨rfl, U2⟩
          have HE2 := Lib.hid (Blk.upd U2 HE.out id)
          have HU2 := Lib.hid (by have h := HU.out; ((with_reducible repeat' first | exact Upd.refl _ _ | apply Upd.drew | apply Upd.drewN | apply Upd.alloc | refine Upd.setCell ?_ ?_ | refine Upd.call U2 ?_ ?_ | refine Upd.call h ?_ ?_) <;> first | (intro _ _ h; exact h) | (intro _ _ h; exact h.elim) | (intro i h1 h2; exfalso; (try simp only at h2); omega) | (left; rfl) | (right; dsimp only; omega) | (right; omega)) : Upd Non w w2)
          clear U2
          go_wp2_with fail
          go_roundw
          case rel => exact ⟨j + 1, by omega, by go_num, HE2.out, HU2.out⟩
          case measure => simp [intOf]; omega
        have k1 : ¬ (j : Int) < 5 := by omega
        go_wp2_with fail
        go_loopw [7] (fun i wr => ∃ L : Nat, L ≤ 17 ∧ i = .int .i64 L ∧ Upd Non w wr) (fun i _ => 17 - (intOf i).toNat)
        case atStart => exact ⟨1, by omega, rfl, HU.out⟩
        case round =>
          clear HU HE hj hlt k1
          obtain ⟨L, hL, rfl, hu⟩ := hrel
          have HU := Lib.hid hu
          clear hu
          by_cases hlt2 : L < 17
          case neg =>
            have k2 : ¬ (L : Int) < 17 := by omega
            go_wp2_with fail
            refine (none_law _).mono ?_
            rintro e w2 ⟨rfl, U2⟩
            have HU2 := Lib.hid (by have h := HU.out; ((with_reducible repeat' first | exact Upd.refl _ _ | apply Upd.drew | apply Upd.drewN | apply Upd.alloc | refine Upd.setCell ?_ ?_ | refine Upd.call U2 ?_ ?_ | refine Upd.call h ?_ ?_) <;> first | (intro _ _ h; exact h) | (intro _ _ h; exact h.elim) | (intro i h1 h2; exfalso; (try simp only at h2); omega) | (left; rfl) | (right; dsimp only; omega) | (right; omega)) : Upd Non w w2)
            clear U2
            go_wp2_with fail
            refine (awake18 _).mono ?_
            rintro e w3 ⟨rfl, U3⟩
            have HU3 := Lib.hid (by have h := HU2.out; ((with_reducible repeat' first | exact Upd.refl _ _ | apply Upd.drew | apply Upd.drewN | apply Upd.alloc | refine Upd.setCell ?_ ?_ | refine Upd.call U3 ?_ ?_ | refine Upd.call h ?_ ?_) <;> first | (intro _ _ h; exact h) | (intro _ _ h; exact h.elim) | (intro i h1 h2; exfalso; (try simp only at h2); omega) | (left; rfl) | (right; dsimp only; omega) | (right; omega)) : Upd Non w w3)
            clear U3
            go_wp2_with fail
            go_ret
            exact ⟨rfl, HU3.out⟩
          have k2 : (L : Int) < 17 := by omega
          go_wp2_with fail
          go_loopw [8, 9] (fun ls i wr => ∃ (k c n : Nat) (A : Option Addr) (q : List Dd), k ≤ 80 ∧ i = .int .i64 k ∧ n = k * 3 ∧ q.length = n ∧ ls = .slice A n c ∧ wr.ownsRow w.heap.size 60 4 (.slice A n c) n (ddenc q) ∧ Upd Non w wr) (fun _ i _ => 80 - (intOf i).toNat)
          case atStart => exact ⟨0, 0, 0, none, [], by omega, rfl, rfl, rfl, rfl, World.ownsRow_nil .., HU.out⟩
          case round =>
            clear HU
            obtain ⟨k, c, n, A, q, hk, rfl, hn, hq, rfl, hown, hu⟩ := hrel
            have HU := Lib.hid hu
            have HO := Lib.hid hown
            have hzz := hu.size
            have HN := Lib.hid (And.intro hn hq)
            clear hu hown hn hq
            by_cases hlt3 : k < 80
            case neg =>
              have k3 : ¬ (k : Int) < 80 := by omega
              go_wp2_with fail
              refine (does_own _ A c w.heap.size n q _ HO.out HN.out.2).mono ?_
              rintro e w2 ⟨rfl, U2⟩
              have HU2 := Lib.hid (by have h := HU.out; ((with_reducible repeat' first | exact Upd.refl _ _ | apply Upd.drew | apply Upd.drewN | apply Upd.alloc | refine Upd.setCell ?_ ?_ | refine Upd.call U2 ?_ ?_ | refine Upd.call h ?_ ?_) <;> first | (intro _ _ h; exact h) | (intro _ _ h; exact h.elim) | (intro i h1 h2; exfalso; (try simp only at h2); omega) | (left; rfl) | (right; dsimp only; omega) | (right; omega)) : Upd Non w w2)
              clear U2
              go_wp2_with fail
              go_roundw
              case rel => exact ⟨L + 1, by omega, by go_num, HU2.out⟩
              case measure => simp [intOf]; omega
            have k3 : (k : Int) < 80 := by omega
            have hkk : k * k ≤ 80 * 80 := Nat.mul_le_mul (by omega) (by omega)
            obtain ⟨a, ha⟩ : ∃ a : Nat, a = k * k := ⟨_, rfl⟩
            have f1 : IntKind.i64.wrap ((k : Int) * (k : Int)) = (a : Int) := by
              rw [show ((k : Int) * (k : Int)) = ((k * k : Nat) : Int) by push_cast; rfl, ← ha]; exact IntWalk.i64_in _ (by omega)
            have f7 : IntKind.i64.wrap (-(k : Int)) = -(k : Int) := IntWalk.i64_in _ (by omega)
            have f8 : (k : Int) % 4294967296 = (k : Int) := by omega
            have hn3 : n ≤ 240 := by have := HN.out.1; omega
            clear hkk ha
            go_wp2_with ((at_builtin; go_must (refine wp_append (w0 := w) Non rfl _ _ 55 rfl w.heap.size 60 (.agg #[.int .i64 0, .int .i64 0, .int .u32 0, .int .i64 0]) 4 32 Try.underlying55 (by kernel_rfl) rfl (by decide) (by decide) (.slice A n c) n (ddenc q) rfl ?e1 wr.heap.size 3 3 #[.int .i64 0, .int .i64 0, .int .u32 0, .int .i64 0, .int .i64 (wrap64 (((wrap64 ((a : Int) + (L : Int))).tmod 3).tdiv 2)), .int .i64 (k : Int), .int .u32 (k : Int), .int .i64 0, .int .i64 1, .int .i64 (-(k : Int)), .int .u32 0, .int .i64 0] 60 rfl ?e2 rfl rfl ?e3 ?e4 (Nat.le_refl _) ?e5 ?_)))
            case e1 => exact own_upd (S := Non) (by ((with_reducible repeat' first | exact Upd.refl _ _ | apply Upd.drew | apply Upd.drewN | apply Upd.alloc | refine Upd.setCell ?_ ?_) <;> first | (intro _ _ h; exact h) | (intro _ _ h; exact h.elim) | (intro i h1 h2; exfalso; (try simp only at h2); omega) | (left; rfl) | (right; dsimp only; omega) | (right; omega))) HO.out fun _ _ => id
            case e2 => ((with_reducible repeat' first | apply Blk.new | (refine Blk.newAt ?_; (simp; done)) | apply Blk.drew | apply Blk.drewN | apply Blk.alloc | apply Blk.set | refine Blk.set_ne ?_ ?_) <;> first | omega | (dsimp only; omega))
            case e3 => omega
            case e4 =>
              have h := HU.out
              ((with_reducible repeat' first | exact Upd.refl _ _ | apply Upd.drew | apply Upd.drewN | apply Upd.alloc | refine Upd.setCell ?_ ?_ | refine Upd.call h ?_ ?_) <;> first | (intro _ _ h; exact h) | (intro _ _ h; exact h.elim) | (intro i h1 h2; exfalso; (try simp only at h2); omega) | (left; rfl) | (right; dsimp only; omega) | (right; omega))
            case e5 => first | omega | (simp; omega)
            intro v' w1 hown1 hU1 _
            obtain ⟨A1, c1, rfl⟩ := own_slice hown1
            have hown2 : w1.ownsRow w.heap.size 60 4 (.slice A1 (n + 3) c1) (n + 3) (ddenc (q ++ [(0, 0, 0, 0), (wrap64 (((wrap64 ((a : Int) + (L : Int))).tmod 3).tdiv 2), (k : Int), (k : Int), 0), (1, -(k : Int), 0, 0)])) := by rw [ddenc_append]; exact hown1
            have HO1 := Lib.hid hown2
            have HU1 := Lib.hid hU1
            clear hown1 hown2 hU1 f1 f7 f8
            go_wp2_with fail
            go_roundw
            case rel => exact ⟨k + 1, c1, n + 3, A1, _, by omega, by go_num, by have := HN.out.1; omega, by rw [List.length_append, HN.out.2]; rfl, rfl, HO1.out, HU1.out⟩
            case measure => simp [intOf]; omega
    have k1 : (t : Int) < 256 := by omega
    go_wp2_with fail
    go_loopw [2] (fun i wr => ∃ L : Nat, L ≤ 5 ∧ i = .int .i64 L ∧ Upd Non w wr) (fun i _ => 5 - (intOf i).toNat)
    case atStart => exact ⟨1, by omega, rfl, HU.out⟩
    case round =>
      clear HU
      obtain ⟨L, hL, rfl, hu⟩ := hrel
      have HU := Lib.hid hu
      clear hu
      by_cases hlt2 : L < 5
      case neg =>
        have k2 : ¬ (L : Int) < 5 := by omega
        go_wp2_with fail
        go_roundw
        case rel => exact ⟨t + 1, by omega, by go_num, HU.out⟩
        case measure => simp [intOf]; omega
      have k2 : (L : Int) < 5 := by omega
      go_wp2_with fail
      go_loopw [3, 4] (fun ls i wr => ∃ (k c : Nat) (A : Option Addr) (q : List Dd), k ≤ 8 ∧ i = .int .i64 k ∧ q.length = k ∧ ls = .slice A k c ∧ wr.ownsRow w.heap.size 60 4 (.slice A k c) k (ddenc q) ∧ Upd Non w wr) (fun _ i _ => 8 - (intOf i).toNat)
      case atStart => exact ⟨0, 0, none, [], by omega, rfl, rfl, rfl, World.ownsRow_nil .., HU.out⟩
      case round =>
        clear HU
        obtain ⟨k, c, A, q, hk, rfl, hq, rfl, hown, hu⟩ := hrel
        have HU := Lib.hid hu
        have HO := Lib.hid hown
        have hzz := hu.size
        clear hu hown
        by_cases hlt3 : k < 8
        case neg =>
          have k3 : ¬ (k : Int) < 8 := by omega
          obtain rfl : k = 8 := by omega
          go_wp2_with ((at_builtin; go_must (refine wp_append (w0 := w) Non rfl _ _ 55 rfl w.heap.size 60 (.agg #[.int .i64 0, .int .i64 0, .int .u32 0, .int .i64 0]) 4 32 Try.underlying55 (by kernel_rfl) rfl (by decide) (by decide) (.slice A 8 c) 8 (ddenc q) rfl ?c1 wr.heap.size 7 7 #[.int .i64 2, .int .i64 0, .int .u32 0, .int .i64 0, .int .i64 0, .int .i64 0, .int .u32 0, .int .i64 0, .int .i64 1, .int .i64 0, .int .u32 0, .int .i64 0, .int .i64 0, .int .i64 0, .int .u32 0, .int .i64 0, .int .i64 0, .int .i64 0, .int .u32 0, .int .i64 0, .int .i64 0, .int .i64 0, .int .u32 0, .int .i64 0, .int .i64 0, .int .i64 0, .int .u32 0, .int .i64 0] 60 rfl ?c2 rfl rfl ?c3 ?c4 (Nat.le_refl _) ?c5 ?_)))
          case c1 => exact own_upd (S := Non) (by ((with_reducible repeat' first | exact Upd.refl _ _ | apply Upd.drew | apply Upd.drewN | apply Upd.alloc | refine Upd.setCell ?_ ?_) <;> first | (intro _ _ h; exact h) | (intro _ _ h; exact h.elim) | (intro i h1 h2; exfalso; (try simp only at h2); omega) | (left; rfl) | (right; dsimp only; omega) | (right; omega))) HO.out fun _ _ => id
          case c2 => ((with_reducible repeat' first | apply Blk.new | (refine Blk.newAt ?_; (simp; done)) | apply Blk.drew | apply Blk.drewN | apply Blk.alloc | apply Blk.set | refine Blk.set_ne ?_ ?_) <;> first | omega | (dsimp only; omega))
          case c4 =>
            have h := HU.out
            ((with_reducible repeat' first | exact Upd.refl _ _ | apply Upd.drew | apply Upd.drewN | apply Upd.alloc | refine Upd.setCell ?_ ?_ | refine Upd.call h ?_ ?_) <;> first | (intro _ _ h; exact h) | (intro _ _ h; exact h.elim) | (intro i h1 h2; exfalso; (try simp only at h2); omega) | (left; rfl) | (right; dsimp only; omega) | (right; omega))
          case c5 => first | omega | (simp; omega)
          intro v' w1 hown1 hU1 _
          obtain ⟨A1, c1, rfl⟩ := own_slice hown1
          have hown2 : w1.ownsRow w.heap.size 60 4 (.slice A1 (8 + 7) c1) (8 + 7) (ddenc (q ++ [(2, 0, 0, 0), (0, 0, 0, 0), (1, 0, 0, 0), (0, 0, 0, 0), (0, 0, 0, 0), (0, 0, 0, 0), (0, 0, 0, 0)])) := by rw [ddenc_append]; exact hown1
          have HO1 := Lib.hid hown2
          have HU1 := Lib.hid hU1
          clear hown1 hown2 hU1
          go_wp2_with fail
          refine (does_own _ A1 c1 w.heap.size (8 + 7) _ _ HO1.out (by rw [List.length_append, hq]; rfl)).mono ?_
          rintro e w2 ⟨rfl, U2⟩
          have HU2 := Lib.hid (by have h := HU1.out; ((with_reducible repeat' first | exact Upd.refl _ _ | apply Upd.drew | apply Upd.drewN | apply Upd.alloc | refine Upd.setCell ?_ ?_ | refine Upd.call U2 ?_ ?_ | refine Upd.call h ?_ ?_) <;> first | (intro _ _ h; exact h) | (intro _ _ h; exact h.elim) | (intro i h1 h2; exfalso; (try simp only at h2); omega) | (left; rfl) | (right; dsimp only; omega) | (right; omega)) : Upd Non w w2)
          clear U2
          go_wp2_with fail
          go_roundw
          case rel => exact ⟨L + 1, by omega, by go_num, HU2.out⟩
          case measure => simp [intOf]; omega
        have k3 : (k : Int) < 8 := by omega
        go_wp2_with ((at_builtin; go_must (refine wp_append (w0 := w) Non rfl _ _ 55 rfl w.heap.size 60 (.agg #[.int .i64 0, .int .i64 0, .int .u32 0, .int .i64 0]) 4 32 Try.underlying55 (by kernel_rfl) rfl (by decide) (by decide) (.slice A k c) k (ddenc q) rfl ?d1 wr.heap.size 1 1 #[.int .i64 (bits .and .i64 ((t : Int) / 2 ^ k) 1), .int .i64 k, .int .u32 0, .int .i64 0] 60 rfl ?d2 rfl rfl ?d3 ?d4 (Nat.le_refl _) ?d5 ?_)))
        case d1 => exact own_upd (S := Non) (by ((with_reducible repeat' first | exact Upd.refl _ _ | apply Upd.drew | apply Upd.drewN | apply Upd.alloc | refine Upd.setCell ?_ ?_) <;> first | (intro _ _ h; exact h) | (intro _ _ h; exact h.elim) | (intro i h1 h2; exfalso; (try simp only at h2); omega) | (left; rfl) | (right; dsimp only; omega) | (right; omega))) HO.out fun _ _ => id
        case d2 => ((with_reducible repeat' first | apply Blk.new | (refine Blk.newAt ?_; (simp; done)) | apply Blk.drew | apply Blk.drewN | apply Blk.alloc | apply Blk.set | refine Blk.set_ne ?_ ?_) <;> first | omega | (dsimp only; omega))
        case d3 => omega
        case d4 =>
          have h := HU.out
          ((with_reducible repeat' first | exact Upd.refl _ _ | apply Upd.drew | apply Upd.drewN | apply Upd.alloc | refine Upd.setCell ?_ ?_ | refine Upd.call h ?_ ?_) <;> first | (intro _ _ h; exact h) | (intro _ _ h; exact h.elim) | (intro i h1 h2; exfalso; (try simp only at h2); omega) | (left; rfl) | (right; dsimp only; omega) | (right; omega))
        case d5 => first | omega | (simp; omega)
        intro v' w1 hown1 hU1 _
        obtain ⟨A1, c1, rfl⟩ := own_slice hown1
        have hown2 : w1.ownsRow w.heap.size 60 4 (.slice A1 (k + 1) c1) (k + 1) (ddenc (q ++ [(bits .and .i64 ((t : Int) / 2 ^ k) 1, (k : Int), 0, 0)])) := by rw [ddenc_append]; exact hown1
        have HO1 := Lib.hid hown2
        have HU1 := Lib.hid hU1
        clear hown1 hown2 hU1
        go_wp2_with fail
        go_roundw
        case rel => exact ⟨k + 1, c1, A1, _, by omega, by go_num, by rw [List.length_append, hq]; rfl, rfl, HO1.out, HU1.out⟩
        case measure => simp [intOf]; omega
end Go.Proofs.Ytnmbkhofikbcjaa
