/- The contract of the fifo's Put. Conditions: the fifo's blocks are known whole, its state is a sound one, and fewer than 2000 things are there. -/
import Derived.Test.YtmblplhehbdocaaFifoSPut
import Derived.Deep.Cut
import Derived.Deep.CutBlock
namespace Go.Proofs.Ytmblplhehbdocaa
namespace S
open Go.RowKit

/-- The head tells of one more, its cell is not yet laid. -/
def FS.more (s : FS) (v : ByteArray) : FS := { s with xs := s.xs ++ [v] }
def FS.push (s : FS) (v : ByteArray) : FS := { s with row := updI s.row ((s.fst + s.xs.length) % s.L) v, xs := s.xs ++ [v] }
theorem FS.push_ok {s : FS} (ok : s.ok) (hlt : s.xs.length < s.L) (v : ByteArray) : (s.push v).ok := by
  have hL : 0 < s.L := by omega
  have ha := ok.at_lt hL
  refine ⟨ok.at_lt, ok.at0, ?_, ok.lm, ok.l5, ?_, ok.mm⟩
  · show (s.xs ++ [v]).length ≤ s.L
    rw [List.length_append, List.length_singleton]; omega
  · intro j u hu
    have hu' : (s.xs ++ [v])[j]? = some u := hu
    show updI s.row ((s.fst + s.xs.length) % s.L) v ((s.fst + j) % s.L) = u
    unfold updI
    by_cases hj : j < s.xs.length
    · rw [List.getElem?_append_left hj] at hu'
      rw [if_neg, ok.row j u hu']
      intro he
      have h1 := Nat.div_add_mod (s.fst + j) s.L
      have h2 := Nat.div_add_mod (s.fst + s.xs.length) s.L
      rw [he] at h1
      have h3 : (s.fst + j) / s.L < 2 := Nat.div_lt_of_lt_mul (by omega)
      have h4 : (s.fst + s.xs.length) / s.L < 2 := Nat.div_lt_of_lt_mul (by omega)
      generalize (s.fst + j) / s.L = q at *
      generalize (s.fst + s.xs.length) / s.L = r at *
      generalize (s.fst + s.xs.length) % s.L = m at *
      have h5 : q = 0 ∨ q = 1 := by omega
      have h6 : r = 0 ∨ r = 1 := by omega
      rcases h5 with rfl | rfl <;> rcases h6 with rfl | rfl <;> omega
    · have hlen := (List.getElem?_eq_some_iff.1 hu').1
      rw [List.length_append, List.length_singleton] at hlen
      obtain rfl : j = s.xs.length := by omega
      rw [if_pos rfl]
      rw [List.getElem?_append_right (Nat.le_refl _), Nat.sub_self] at hu'
      exact Option.some.inj hu'
theorem FBlk.more {w : World} {b m : Nat} {s : FS} {v : ByteArray} (h : FBlk w b s) (hm : m = (s.more v).xs.length) : FBlk (w.setCell ⟨b, 2, none⟩ (.int .i64 m)) b (s.more v) := by
  refine ⟨?_, fun hL => ⟨Blk.set_ne (h.2 hL).1 (h.2 hL).2, (h.2 hL).2⟩⟩
  refine Blk.eq (Blk.set h.1) ?_
  rw [hm]
  rfl
theorem FBlk.push {w : World} {b x : Nat} {s : FS} {v : ByteArray} (h : FBlk w b (s.more v)) (hlt : s.xs.length < s.L) (hx : (s.fst + s.xs.length) % s.L = x) : FBlk (w.setCell ⟨s.g, x, none⟩ (.string v)) b (s.push v) := by
  have hL : 0 < s.L := by omega
  refine ⟨Blk.set_ne h.1 (fun e => (h.2 hL).2 e.symm), fun _ => ⟨?_, (h.2 hL).2⟩⟩
  have h1 := Blk.set (i := x) (v := .string v) (h.2 hL).1
  have hxL : x < s.L := by rw [← hx]; exact Nat.mod_lt _ hL
  rw [show (s.more v).L = s.L from rfl, show (s.more v).row = s.row from rfl, rowI_set _ hxL, ← hx] at h1
  rw [← hx]
  exact h1
theorem put_full (s : FS) (b : Nat) (v : ByteArray) (ok : s.ok) (hf : s.xs.length = s.most) (w : World) (hb : FBlk w b s) :
    Calls Try.prog 51 #[.pointer (some ⟨b, 0, none⟩), .string v] w fun e w' => e = .returned (.bool false) ∧ ∃ k, w' = w.drewN k := by
  have HB := Lib.hid hb
  have k1 : ((s.most : Int) - (s.xs.length : Int) == 0) = true := by rw [hf]; simp
  clear hb hf
  go_enter Try.func51, Try.ntmps51
  go_wp2_with fail
  refine (left_spec s b ok _ HB.out).mono ?_
  rintro e w1 ⟨rfl, k, rfl⟩
  generalize ((s.most : Int) - (s.xs.length : Int)) = D at *
  go_wp2_with fail
  go_ret
  exact ⟨rfl, _, rfl⟩
set_option maxRecDepth 100000 in
set_option maxHeartbeats 8000000 in
theorem put_room (s : FS) (b : Nat) (v : ByteArray) (ok : s.ok) (hf : s.xs.length < s.most) (h2 : s.xs.length ≤ 2000) (w : World) (hb : FBlk w b s) :
    Calls Try.prog 51 #[.pointer (some ⟨b, 0, none⟩), .string v] w fun e w' => e = .returned (.bool true) ∧ Upd (s.own b) w w' ∧
      ∃ s', FBlk w' b s' ∧ s'.ok ∧ s'.xs = s.xs ++ [v] ∧ s'.most = s.most ∧ (s'.g = s.g ∨ w.heap.size ≤ s'.g) := by
  have HB := Lib.hid hb
  have k1 : ((s.most : Int) - (s.xs.length : Int) == 0) = false := by simp; omega
  have c0 := hb.c0
  have c2 := hb.c2
  have c3 := hb.c3
  have hle := ok.le
  clear hb
  go_enter Try.func51, Try.ntmps51
  go_wp2_with fail
  refine (left_spec s b ok _ HB.out).mono ?_
  rintro e w1 ⟨rfl, k, rfl⟩
  have K1 := Lib.hid k1
  generalize ((s.most : Int) - (s.xs.length : Int)) = D at *
  go_wp2_with fail
  obtain ⟨m, hm⟩ : ∃ m, m = s.xs.length := ⟨_, rfl⟩
  have HM := Lib.hid hm
  rw [← hm] at c2 hle hf h2
  have hslc : (s.L = 0 ∧ s.sl = .slice none 0 0) ∨ (0 < s.L ∧ s.sl = .slice (some ⟨s.g, 0, none⟩) s.L s.L) := by
    by_cases h : s.L = 0
    · exact .inl ⟨h, FS.sl_nil h⟩
    · exact .inr ⟨by omega, FS.sl_some (by omega)⟩
  go_upto_region 3 with fail
  go_cut [19] (fun t wx => ∃ (d : Bool) (j : Nat), t = .bool d ∧ wx = w.drewN j ∧ d = decide (m = s.L))
  case first =>
    rcases hslc with ⟨hL, hsl⟩ | ⟨hL, hsl⟩
    · rw [hsl] at c0
      clear hsl hm k1 K1
      obtain rfl : m = 0 := by omega
      go_wp2_with fail
      go_quiet (fail)
      go_wp2_with fail
      go_meet
      exact ⟨true, _, rfl, World.drewN_drewN .., by rw [hL]; rfl⟩
    · rw [hsl] at c0
      clear hsl hm k1 K1
      by_cases h : m = s.L
      · have e1 : ((m : Int) == (s.L : Int)) = true := by simp; omega
        have H := Lib.hid h
        clear h
        go_wp2_with fail
        go_quiet (fail)
        go_wp2_with fail
        go_meet
        exact ⟨true, _, rfl, World.drewN_drewN .., by rw [decide_eq_true H.out]⟩
      · have e1 : ((m : Int) == (s.L : Int)) = false := by simp; omega
        have H := Lib.hid h
        clear h
        go_wp2_with fail
        go_quiet (fail)
        go_wp2_with fail
        go_meet
        exact ⟨false, _, rfl, World.drewN_drewN .., by rw [decide_eq_false H.out]⟩
  case rest =>
    obtain ⟨d, j, rfl, rfl, hd⟩ := hcut
    have HD := Lib.hid hd
    clear hd hm k1 K1 hslc
    go_upto_if 19 with fail
    go_cut [] (fun wx => ∃ s1, FBlk wx b s1 ∧ s1.ok ∧ s1.xs = s.xs ∧ s1.most = s.most ∧ s.xs.length < s1.L ∧ Upd (fun i => i = b) w wx ∧ (s1.g = s.g ∨ w.heap.size ≤ s1.g))
    case first =>
      cases d
      · have hlt : m < s.L := by have := HD.out; simp at this; omega
        go_wp2_with fail
        go_meet
        exact ⟨s, HB.out.drewN, ok, rfl, rfl, by rw [← HM.out]; exact hlt, by ((with_reducible repeat' first | exact Upd.refl _ _ | apply Upd.drew | apply Upd.drewN | apply Upd.alloc | refine Upd.setCell ?_ ?_) <;> first | (intro _ _ h; exact h) | (intro _ _ h; exact h.elim) | (intro i h1 h2; exfalso; (try simp only at h2); omega) | (left; rfl) | (right; dsimp only; omega) | (right; omega)), .inl rfl⟩
      · have heq : m = s.L := by have := HD.out; simp at this; exact this
        have HE := Lib.hid heq
        clear heq
        go_wp2_with fail
        go_region_with (go_at_call 82; refine (grow_spec s b ok (HM.out.symm.trans HE.out) (by have := HE.out; omega) (by have := HE.out; omega) _ HB.out.drewN).mono ?_; rintro e w3 ⟨rfl, hb3, U3⟩)
        all_goals
          go_wp2_with fail
          go_meet
          exact ⟨_, hb3, FS.grown_ok ok (by have := HE.out; omega) (by have := HE.out; omega) _, rfl, rfl, by have := HE.out; have := HM.out; show s.xs.length < newLen s.L s.most; unfold newLen; omega, by ((with_reducible repeat' first | exact Upd.refl _ _ | apply Upd.drew | apply Upd.drewN | apply Upd.alloc | refine Upd.setCell ?_ ?_ | refine Upd.call U3 ?_ ?_) <;> first | (intro _ _ h; exact h) | (intro _ _ h; exact h.elim) | (intro i h1 h2; exfalso; (try simp only at h2); omega) | (left; rfl) | (right; dsimp only; omega) | (right; omega)), .inr (Nat.le_refl _)⟩
    case rest =>
      obtain ⟨s1, hb, ok1, hxs, hmo, hlt, hU, hg⟩ := hcut
      have HB1 := Lib.hid hb
      have HU1 := Lib.hid hU
      have HXS := Lib.hid hxs
      have HMO := Lib.hid hmo
      have HG := Lib.hid hg
      rw [← HM.out] at hlt
      have hm1 : s1.xs.length = m := by rw [hxs, ← HM.out]
      have HM1 := Lib.hid hm1
      have hL : 0 < s1.L := by omega
      have hgb := (hb.2 hL).2
      obtain ⟨x, hx⟩ : ∃ x, (s1.fst + m) % s1.L = x := ⟨_, rfl⟩
      have hxL : x < s1.L := by rw [← hx]; exact Nat.mod_lt _ hL
      have HX := Lib.hid hx
      have c0' := hb.c0
      rw [FS.sl_some hL] at c0'
      have c2' := hb.c2
      rw [hm1] at c2'
      have f2' := hb.1.frozen 2
      have c5 := (hb.2 hL).1.cell x (rowI_at s1.row hxL)
      have f5 := (hb.2 hL).1.frozen x
      have b0 : (0 : Int) ≤ (x : Int) := by omega
      have b1 : (x : Int) < (s1.L : Int) := by omega
      obtain ⟨p, hp⟩ : ∃ p, p = m + 1 := ⟨_, rfl⟩
      have g1 : IntKind.i64.wrap ((m : Int) + 1) = (p : Int) := by rw [show (m : Int) + 1 = (p : Int) by omega]; exact IntWalk.i64_in _ (by omega)
      have g2 : IntKind.i64.wrap ((p : Int) - 1) = (m : Int) := by rw [show (p : Int) - 1 = (m : Int) by omega]; exact IntWalk.i64_in _ (by omega)
      have HMR := Lib.hid (FBlk.more (v := v) hb (m := p) (by show p = (s1.xs ++ [v]).length; rw [List.length_append, List.length_singleton, hm1]; exact hp))
      clear hb hU hxs hmo hg hm1 hx hp HD c0 c2 c3
      go_wp2_with fail
      go_region_with (go_at_call 83; refine (place_raw (s1.more v) b m x ok1.l5 (ok1.at_lt hL) (show m ≤ s1.L by omega) HX.out _ HMR.out.drew).mono ?_; rintro e w3 ⟨rfl, k3, rfl⟩)
      all_goals
        go_wp2_with fail
        go_ret
        refine ⟨rfl, ?_, s1.push v, ?_, FS.push_ok ok1 (by rw [HM1.out]; exact hlt) v, ?_, HMO.out, HG.out⟩
        · have h : Upd (s.own b) w wc := HU1.out.mono (fun _ _ h => .inl h)
          have h1 : Upd (s.own b) w (wc.setCell ⟨b, 2, none⟩ (.int .i64 p)) := h.setCell (.inl (.inl rfl))
          refine Upd.setCell (h1.drewN (n := 1 + k3)) ?_
          rcases HG.out with e | e
          · exact .inl (.inr e)
          · exact .inr e
        · exact FBlk.push (HMR.out.drewN (n := 1 + k3)) (by rw [HM1.out]; exact hlt) (by rw [HM1.out]; exact HX.out)
        · show s1.xs ++ [v] = _; rw [HXS.out]
end S
end Go.Proofs.Ytmblplhehbdocaa
