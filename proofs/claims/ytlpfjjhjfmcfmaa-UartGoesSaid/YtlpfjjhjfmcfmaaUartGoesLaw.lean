/- UartGoes: the law's walk. Conditions: the rows' cells are bytes, truths. -/
import Derived.Test.YtlpfjjhjfmcfmaaUartUO
namespace Go.Proofs.Ytlpfjjhjfmcfmaa
open Go.RowKit
theorem snd_room {s : US} {v : Int} (h : s.gs.length < 8) : s.snd v = { s with gs := s.gs ++ [v] } := if_pos h
theorem snd_full {s : US} {v : Int} (h : ¬ s.gs.length < 8) : s.snd v = { s with lo := true } := if_neg h
theorem abc_in {x : Int} (h : 0 ≤ x ∧ x < 256) : IntKind.u8.wrap (703488 + x) = x := by rw [IntKind.wrap_u8]; omega
/-- The word of status, of bytes that go alone. -/
theorem sg_of (c : Nat) (hc : c ≤ 8) (lo : Bool) {s : US} (h1 : s.cs = []) (h2 : s.gs.length = c) (h3 : s.li = false) (h4 : s.lo = lo) : ∃ S : Nat, s.st = S ∧ S / 256 % 256 = c ∧ S / 131072 = (if lo then 1 else 0) ∧ S < 4294967296 := by
  unfold US.st US.lost
  rw [h1, h2, h3, h4]
  cases lo
  · exact ⟨256 * c, by simp [lostOf], by omega, by simp; omega, by omega⟩
  · exact ⟨256 * c + 131072, by simp [lostOf], by omega, by simp; omega, by omega⟩
/-- What the law knows between two rounds. -/
structure GI (w W : World) (b f g h k : Nat) (s : US) (pv : Value) (P : List Int) (gv : Value) (G : List Int) (j t ph : Nat) : Prop where
  o : UO w W b f g h k s pv P gv G
  pg : P = G ++ s.gs
  jt : j ≤ t
  pj : P.length ≤ j
  ph : s.ph = ph
  cs : s.cs = []
  li : s.li = false
  lo : s.lo = decide (P.length < j)
set_option maxRecDepth 100000 in
set_option maxHeartbeats 16000000 in
theorem goes_u (A : Option Addr) (n cc : Nat) (X : Nat → Int) (T : Option Addr) (m tc : Nat) (V : Nat → Bool) (w : World) (hd : BytesAt w A n X) (ht : 0 < m → ∃ b o, T = some ⟨b, o, none⟩ ∧ ∀ j, j < m → w.cell? ⟨b, o + j, none⟩ = some (.bool (V j))) :
    Calls Try.prog 4 #[.slice A n cc, .slice T m tc] w fun e w' => e = .returned (.bool true) ∧ Upd Non w w' := by
  have HD := Lib.hid hd
  have HT := Lib.hid ht
  clear hd ht
  go_enter Try.func4, Try.ntmps4
  go_wp2_with fail
  refine (awake_u w).mono ?_
  rintro e w1 ⟨rfl, hU⟩
  have HU1 := Lib.hid hU
  clear hU
  by_cases hm : m ≤ 300
  case neg =>
    have k1 : (300 : Int) < m := by omega
    go_wp2_with fail
    go_ret
    exact ⟨rfl, HU1.out⟩
  have k1 : ¬ (300 : Int) < m := by omega
  go_wp2_with fail
  refine (new_u w1).mono ?_
  rintro e w2 ⟨b, f, g, h, k, rfl, x⟩
  have O3 := Lib.hid (show GI w w2 b f g h k US.fresh (.slice none 0 0) [] (.slice none 0 0) [] 0 0 0 from
    ⟨⟨⟨x.m, Upd.call x.up HU1.out (fun _ _ h => h), by have := x.lo; have := HU1.out.size; omega⟩, brow_nil _ _, brow_nil _ _, (fun i hi => by cases hi), (fun i hi => by cases hi), fun i hi => by cases hi⟩, rfl, Nat.le_refl _, Nat.le_refl _, rfl, rfl, rfl, rfl⟩)
  clear x HU1 k1
  go_wp2_with fail
  go_loopw [6, 7, 8, 9, 10, 11] (fun pv gv nv iv _ _ wr => ∃ (t j : Nat) (P G : List Int) (s : US) (g k : Nat), t ≤ m ∧ iv = .int .i64 t ∧ nv = .int .i64 j ∧ GI w wr b f g h k s pv P gv G j t (t % 4)) (fun _ _ _ iv _ _ _ => m - (intOf iv).toNat)
  case atStart => exact ⟨0, 0, [], [], _, g, k, Nat.zero_le _, rfl, rfl, O3.out⟩
  case round =>
    clear O3
    obtain ⟨t, j, P, G, s, g, k, ht, rfl, rfl, o⟩ := hrel
    have OO := Lib.hid o
    obtain ⟨A6, c6, rfl⟩ := own_slice o.o.p
    obtain ⟨A7, c7, rfl⟩ := own_slice o.o.q
    have hjt := o.jt
    have hpj := o.pj
    clear o
    by_cases hlt : t < m
    case neg =>
      have k1 : ¬ (t : Int) < m := by omega
      have hq8 := OO.out.o.x.m.G.le.1
      have hpg := congrArg List.length OO.out.pg
      rw [List.length_append] at hpg
      have hgp : G.length ≤ P.length := by omega
      have HGD := Lib.hid (show ∀ i, i < G.length → P.getD i 0 = G.getD i 0 from fun i hi => by rw [OO.out.pg, List.getD_eq_getElem?_getD, List.getD_eq_getElem?_getD, List.getElem?_append_left hi])
      have hcap : (A6 = none ∧ P.length = 0 ∧ c6 = 0) ∨ (∃ r, A6 = some ⟨r, 0, none⟩) ∧ P.length ≤ c6 := by
        rcases OO.out.o.p.2 with ⟨h1, h2⟩ | ⟨r, cap, cur, h1, _, _, h3, _⟩
        · simp only [Value.slice.injEq] at h1
          obtain ⟨rfl, _, rfl⟩ := h1
          exact .inl ⟨rfl, h2, rfl⟩
        · cases h1; exact .inr ⟨⟨r, rfl⟩, h3⟩
      obtain ⟨lo, hlo⟩ : ∃ x, x = decide (P.length < j) := ⟨_, rfl⟩
      have HLO := Lib.hid (show s.lo = lo by rw [hlo]; exact OO.out.lo)
      have hj2 : decide ((P.length : Int) < j) = lo := by rw [hlo]; congr 1; exact propext ⟨fun h => by omega, fun h => by omega⟩
      obtain ⟨S, hS, s1, s2, s3⟩ := sg_of s.gs.length hq8 lo (s := s) OO.out.cs rfl OO.out.li HLO.out
      have HSS := Lib.hid hS
      have f1 : ((S : Int) / 131072 == 1) = lo := by
        cases lo
        · simp only [Bool.false_eq_true, if_false] at s2; simp; omega
        · simp only [if_true] at s2; simp; omega
      have f2 : ((S : Int) / 131072 % 4294967296 == 1) = lo := by
        cases lo
        · simp only [Bool.false_eq_true, if_false] at s2; simp; omega
        · simp only [if_true] at s2; simp; omega
      have e1 : (lo == lo) = true := by simp
      have hg300 : G.length ≤ 5000 := by omega
      have hj3 : decide (P.length < j) = lo := hlo.symm
      clear hS s1 s2 s3 hpg hlo
      rcases hcap with ⟨rfl, h0, rfl⟩ | ⟨⟨r, rfl⟩, hc6⟩
      · have hG0 : G.length = 0 := by omega
        have hj4 : decide (0 < j) = lo := by rw [← hj3, h0]
        go_wp2_with fail
        refine (same_bytes A7 none 0 c7 0 (fun _ => 0) (by omega) wr (fun h => absurd h (by omega)) (fun h => absurd h (by omega))).mono ?_
        rintro e w4 ⟨rfl, hU⟩
        have O4 := Lib.hid (OO.out.o.non hU)
        clear hU OO
        go_wp2_with fail
        refine (read1_u _ O4.out.x.m).mono ?_
        rintro e w5 ⟨rfl, hu⟩
        have HU5 := Lib.hid (Upd.call hu O4.out.x.up fun _ _ h => h)
        rw [HSS.out]
        clear hu O4
        go_wp2_with fail
        go_ret
        exact ⟨rfl, HU5.out⟩
      · have k2 : (G.length : Int) ≤ c6 := by omega
        go_wp2_with fail
        refine (same_bytes A7 (some ⟨r, 0, none⟩) G.length c7 c6 (fun j => G.getD j 0) hg300 wr (brow_at OO.out.o.q) (fun hp => by
          obtain ⟨b', o', e', hl', hc'⟩ := brow_at OO.out.o.p (by omega)
          exact ⟨b', o', e', hl', fun i hi => by rw [← HGD.out i hi]; exact hc' i (by omega)⟩)).mono ?_
        rintro e w4 ⟨rfl, hU⟩
        have O4 := Lib.hid (OO.out.o.non hU)
        clear hU OO
        go_wp2_with fail
        refine (read1_u _ O4.out.x.m).mono ?_
        rintro e w5 ⟨rfl, hu⟩
        have HU5 := Lib.hid (Upd.call hu O4.out.x.up fun _ _ h => h)
        rw [HSS.out]
        clear hu O4
        go_wp2_with fail
        go_ret
        exact ⟨rfl, HU5.out⟩
    have k1 : (t : Int) < m := by omega
    obtain ⟨bt, ot, rfl, hcT⟩ := HT.out (by omega)
    go_upto_region 11 with fail
    go_cut [33] (fun tv wx => ∃ d : Bool, tv = .bool d ∧ wx = wr ∧ (d = true → j < n))
    case first =>
      have c0 := OO.out.o.x.up.cell_eq id (hcT t hlt)
      cases hv : V t
      · rw [hv] at c0
        clear hcT
        go_wp2_with fail
        go_meet
        exact ⟨_, rfl, rfl, fun h => by cases h⟩
      · rw [hv] at c0
        clear hcT
        by_cases hjn : j < n
        · have k2 : (j : Int) < n := by omega
          go_wp2_with fail
          go_meet
          exact ⟨true, rfl, rfl, fun _ => hjn⟩
        · have k2 : ¬ (j : Int) < n := by omega
          go_wp2_with fail
          go_meet
          exact ⟨false, rfl, rfl, fun h => by cases h⟩
    case rest =>
      clear hcT
      obtain ⟨d, rfl, hw, hdj⟩ := hcut
      have hw' := hw.symm
      subst hw'
      go_upto_if 33 with fail
      go_cut [6, 8] (fun pv nv wx => ∃ (j : Nat) (P : List Int) (s : US) (g k : Nat), nv = .int .i64 j ∧ GI w wx b f g h k s pv P (.slice A7 G.length c7) G j (t + 1) (t % 4))
      case first =>
        cases d
        · go_wp2_with fail
          go_meet
          have o := OO.out
          exact ⟨j, P, s, g, k, rfl, o.o, o.pg, by omega, o.pj, o.ph, o.cs, o.li, o.lo⟩
        have hjn := hdj rfl
        obtain ⟨ba, oo, rfl, hcell⟩ := HD.out.1 (by omega)
        have hX0 := hcell j hjn
        have HR := Lib.hid (HD.out.2 j hjn)
        have HXX := Lib.hid hX0
        have c0 := OO.out.o.x.up.cell_eq id hX0
        have hg8 := OO.out.o.x.m.G.le.1
        obtain ⟨q, hq⟩ : ∃ q, q = s.gs.length := ⟨_, rfl⟩
        have HQ := Lib.hid hq
        rw [← hq] at hg8
        have HPG := Lib.hid (show P.length = G.length + q by rw [OO.out.pg, List.length_append, ← hq])
        have e2 : IntKind.i64.wrap ((P.length : Int) - G.length) = (q : Int) := by have := HPG.out; rw [IntWalk.i64_in _ (by omega)]; omega
        have k2 : (j : Int) < n := by omega
        have e4 : IntKind.u32.wrap (X j) = X j := by have := HR.out; rw [IntKind.wrap_u32]; omega
        have e5 : IntKind.u32.wrap (703488 + X j) = 703488 + X j := by have := HR.out; rw [IntKind.wrap_u32]; omega
        have hz := OO.out.o.x.up.size
        clear hcell hX0 hq hdj
        by_cases hq8 : q < 8
        · have k3 : (q : Int) < 8 := by omega
          go_upto_region 14 with (at_builtin; refine wpList_gappend rfl _ _ 22 rfl 5 _ 1 1 Try.underlying22 Try.info5b rfl (by decide) rfl (OO.out.o.non (by ((with_reducible repeat' first | exact Upd.refl _ _ | apply Upd.drew | apply Upd.drewN | apply Upd.alloc | refine Upd.setCell ?_ ?_) <;> first | (intro _ _ h; exact h) | (intro _ _ h; exact h.elim) | (intro i h1 h2; exfalso; (try simp only at h2); omega) | (left; rfl) | (right; dsimp only; omega) | (right; omega)))).p wr.heap.size #[.int .u8 (X j)] 5 rfl (Blk.new _ _ _) rfl rfl (by omega) (by omega) (by rw [World.size_alloc]; omega) ?_; intro v' w6 hv hgr hbb)
          have O6 := Lib.hid (UO.put (OO.out.o.non (by ((with_reducible repeat' first | exact Upd.refl _ _ | apply Upd.drew | apply Upd.drewN | apply Upd.alloc | refine Upd.setCell ?_ ?_) <;> first | (intro _ _ h; exact h) | (intro _ _ h; exact h.elim) | (intro i h1 h2; exfalso; (try simp only at h2); omega) | (left; rfl) | (right; dsimp only; omega) | (right; omega)) : Upd Non wr (wr.alloc (.cells #[.int .u8 (X j)] 5)))) (y := X j) (v' := v') (by show w6.ownsRow _ 5 1 v' (P ++ [X j]).length ((P ++ [X j]).map _); rw [List.length_append, List.map_append]; exact hv) hgr hbb)
          have c0 := O6.out.x.up.cell_eq id HXX.out
          clear hv hgr hbb
          go_wp2_with fail
          refine (write0_u _ _ O6.out.x.m).mono ?_
          rintro e w7 ⟨rfl, mm⟩
          rw [abc_in HR.out, snd_room (by rw [← HQ.out]; exact hq8)] at mm
          obtain ⟨g7, k7, o7⟩ := O6.out.uw mm
          have O7 := Lib.hid o7
          clear mm o7 O6 c0
          go_wp2_with fail
          go_meet
          have o := OO.out
          refine ⟨j + 1, P ++ [X j], { s with gs := s.gs ++ [X j] }, g7, k7, by go_num, O7.out, by rw [o.pg]; simp, by omega, by rw [List.length_append, List.length_singleton]; omega, o.ph, o.cs, o.li, ?_⟩
          show s.lo = _
          rw [o.lo, List.length_append, List.length_singleton]
          congr 1
          exact propext ⟨fun h => by omega, fun h => by omega⟩
        · have k3 : ¬ (q : Int) < 8 := by omega
          go_wp2_with fail
          refine (write0_u _ _ OO.out.o.x.m).mono ?_
          rintro e w7 ⟨rfl, mm⟩
          rw [abc_in HR.out, snd_full (by rw [← HQ.out]; exact hq8)] at mm
          obtain ⟨g7, k7, o7⟩ := OO.out.o.uw mm
          have O7 := Lib.hid o7
          clear mm o7 c0
          go_wp2_with fail
          go_meet
          have o := OO.out
          refine ⟨j + 1, P, { s with lo := true }, g7, k7, by go_num, O7.out, o.pg, by omega, by omega, o.ph, o.cs, o.li, ?_⟩
          show true = _
          rw [decide_eq_true (by omega)]
      case rest =>
        clear OO hjt hpj hdj
        obtain ⟨j, P, s, g, k, rfl, o⟩ := hcut
        have OO := Lib.hid o
        obtain ⟨A6, c6, rfl⟩ := own_slice o.o.p
        have hjt := o.jt
        have hpj := o.pj
        clear o
        go_wp2_with fail
        have hq8 := OO.out.o.x.m.G.le.1
        obtain ⟨q, hq⟩ : ∃ q, q = s.gs.length := ⟨_, rfl⟩
        rw [← hq] at hq8
        have HPG := Lib.hid (show P.length = G.length + q by rw [OO.out.pg, List.length_append, ← hq])
        have hpl : P.length ≤ 301 := by omega
        have hgl : G.length ≤ 301 := by have := HPG.out; omega
        obtain ⟨lo, hlo⟩ : ∃ x, x = decide (P.length < j) := ⟨_, rfl⟩
        have HLO := Lib.hid (show s.lo = lo by rw [hlo]; exact OO.out.lo)
        have HJ := Lib.hid hlo
        by_cases h3 : t % 4 = 3
        · have hp3 : s.ph = 3 := OO.out.ph.trans h3
          have i3 : ((t : Int) % 4 == 3) = true := by simp; omega
          have hxs : s.gs = [] ∨ ∃ y l, s.gs = y :: l := by
            cases h : s.gs with
            | nil => exact .inl rfl
            | cons y l => exact .inr ⟨y, l, rfl⟩
          rcases hxs with hx | ⟨y, l, hx⟩
          · have hq0 : q = 0 := by rw [hq, hx]; rfl
            have g2 : ¬ G.length < P.length := by have := HPG.out; omega
            have g3 : ¬ (G.length : Int) < P.length := by omega
            have e2 : IntKind.i64.wrap ((P.length : Int) - G.length) = 0 := by have := HPG.out; rw [IntWalk.i64_in _ (by omega)]; omega
            have HS := Lib.hid (show s.tc = { s with ph := 0, gs := [] } by unfold US.tc; rw [if_pos hp3, hx]; rfl)
            have HV1 := Lib.hid (show (if s.ph = 3 then headI s.gs else 0) = 0 by rw [if_pos hp3, hx]; rfl)
            have HV2 := Lib.hid (show (if s.ph = 3 then someI s.gs else false) = false by rw [if_pos hp3, hx]; rfl)
            have HX := Lib.hid hx
            clear hx hp3 hq hlo
            refine (tick_u _ OO.out.o.x.m).mono ?_
            rintro e w4 ⟨rfl, mm⟩
            rw [HV1.out, HV2.out]
            rw [HS.out] at mm
            obtain ⟨g4, k4, o4⟩ := OO.out.o.uw mm
            have O4 := Lib.hid o4
            clear mm o4
            obtain ⟨S, hS, s1, s2, s3⟩ := sg_of 0 (by omega) lo (s := { s with ph := 0, gs := [] }) OO.out.cs rfl OO.out.li HLO.out
            have HSS := Lib.hid hS
            have f1 : (S : Int) / 256 % 256 = 0 := by omega
            clear hS s1 s2 s3
            go_wp2_with fail
            refine (read1_u _ O4.out.x.m).mono ?_
            rintro e w5 ⟨rfl, hu⟩
            have O5 := Lib.hid (O4.out.non hu)
            rw [HSS.out]
            clear hu O4
            go_wp2_with fail
            have o := OO.out
            refine ⟨⟨t + 1, j, P, G, { s with ph := 0, gs := [] }, g4, k4, by omega, by go_num, rfl, ⟨O5.out, by rw [o.pg, HX.out], o.jt, o.pj, ?_, o.cs, o.li, HLO.out.trans HJ.out⟩⟩, by simp only [intOf]; omega⟩
            show 0 = (t + 1) % 4
            omega
          · obtain ⟨c, hc⟩ : ∃ c, c = l.length := ⟨_, rfl⟩
            have hq0 : q = c + 1 := by rw [hq, hx, hc]; rfl
            have g2 : G.length < P.length := by have := HPG.out; omega
            have g3 : (G.length : Int) < P.length := by omega
            have e2 : IntKind.i64.wrap ((P.length : Int) - (G.length + 1)) = (c : Int) := by have := HPG.out; rw [IntWalk.i64_in _ (by omega)]; omega
            have e4 : wrap64 (c : Int) = (c : Int) := IntWalk.wrap64_in _ (by omega)
            have e5 : ((c : Int) != (c : Int)) = false := by simp
            have HS := Lib.hid (show s.tc = { s with ph := 0, gs := l } by unfold US.tc; rw [if_pos hp3, hx]; rfl)
            have HV1 := Lib.hid (show (if s.ph = 3 then headI s.gs else 0) = y by rw [if_pos hp3, hx]; rfl)
            have HV2 := Lib.hid (show (if s.ph = 3 then someI s.gs else false) = true by rw [if_pos hp3, hx]; rfl)
            have HX := Lib.hid hx
            have HCC := Lib.hid hc
            clear hx hp3 hq hlo hc
            refine (tick_u _ OO.out.o.x.m).mono ?_
            rintro e w4 ⟨rfl, mm⟩
            rw [HV1.out, HV2.out]
            rw [HS.out] at mm
            obtain ⟨g4, k4, o4⟩ := OO.out.o.uw mm
            have O4 := Lib.hid o4
            have hz4 := o4.x.up.size
            clear mm o4
            obtain ⟨S, hS, s1, s2, s3⟩ := sg_of c (by omega) lo (s := { s with ph := 0, gs := l }) OO.out.cs HCC.out.symm OO.out.li HLO.out
            have HSS := Lib.hid hS
            have f1 : (S : Int) / 256 % 256 = (c : Int) := by omega
            clear hS s1 s2 s3
            go_wp2_with (at_builtin; refine wpList_gappend rfl _ _ 22 rfl 5 _ 1 1 Try.underlying22 Try.info5b rfl (by decide) rfl (O4.out.non (by ((with_reducible repeat' first | exact Upd.refl _ _ | apply Upd.drew | apply Upd.drewN | apply Upd.alloc | refine Upd.setCell ?_ ?_) <;> first | (intro _ _ h; exact h) | (intro _ _ h; exact h.elim) | (intro i h1 h2; exfalso; (try simp only at h2); omega) | (left; rfl) | (right; dsimp only; omega) | (right; omega)))).q w4.heap.size #[.int .u8 y] 5 rfl (Blk.new _ _ _) rfl rfl (by omega) (by omega) (by rw [World.size_alloc]; omega) ?_; intro v' w6 hv hgr hbb; have O6 := Lib.hid (UO.got (O4.out.non (by ((with_reducible repeat' first | exact Upd.refl _ _ | apply Upd.drew | apply Upd.drewN | apply Upd.alloc | refine Upd.setCell ?_ ?_) <;> first | (intro _ _ h; exact h) | (intro _ _ h; exact h.elim) | (intro i h1 h2; exfalso; (try simp only at h2); omega) | (left; rfl) | (right; dsimp only; omega) | (right; omega)) : Upd Non w4 (w4.alloc (.cells #[.int .u8 y] 5)))) (y := y) (v' := v') (by show w6.ownsRow _ 5 1 v' (G ++ [y]).length ((G ++ [y]).map _); rw [List.length_append, List.map_append]; exact hv) hgr hbb); obtain ⟨A8, c8, rfl⟩ := own_slice hv)
            clear hv hgr hbb O4
            refine (read1_u _ O6.out.x.m).mono ?_
            rintro e w7 ⟨rfl, hu⟩
            have O7 := Lib.hid (O6.out.non hu)
            rw [HSS.out]
            clear hu O6
            go_wp2_with fail
            have o := OO.out
            refine ⟨⟨t + 1, j, P, G ++ [y], { s with ph := 0, gs := l }, g4, k4, by omega, by go_num, rfl, ⟨O7.out, by rw [o.pg, HX.out]; simp, o.jt, o.pj, ?_, o.cs, o.li, HLO.out.trans HJ.out⟩⟩, by simp only [intOf]; omega⟩
            show 0 = (t + 1) % 4
            omega
        · have hp3 : ¬ s.ph = 3 := by rw [OO.out.ph]; exact h3
          have i3 : ((t : Int) % 4 == 3) = false := by simp; omega
          have e2 : IntKind.i64.wrap ((P.length : Int) - G.length) = (q : Int) := by have := HPG.out; rw [IntWalk.i64_in _ (by omega)]; omega
          have e4 : wrap64 (q : Int) = (q : Int) := IntWalk.wrap64_in _ (by omega)
          have e5 : ((q : Int) != (q : Int)) = false := by simp
          have HS := Lib.hid (show s.tc = { s with ph := s.ph + 1 } by unfold US.tc; rw [if_neg hp3])
          have HV1 := Lib.hid (show (if s.ph = 3 then headI s.gs else 0) = 0 by rw [if_neg hp3])
          have HV2 := Lib.hid (show (if s.ph = 3 then someI s.gs else false) = false by rw [if_neg hp3])
          have HQ := Lib.hid hq
          clear hp3 hq hlo
          refine (tick_u _ OO.out.o.x.m).mono ?_
          rintro e w4 ⟨rfl, mm⟩
          rw [HV1.out, HV2.out]
          rw [HS.out] at mm
          obtain ⟨g4, k4, o4⟩ := OO.out.o.uw mm
          have O4 := Lib.hid o4
          clear mm o4
          obtain ⟨S, hS, s1, s2, s3⟩ := sg_of q (by omega) lo (s := { s with ph := s.ph + 1 }) OO.out.cs HQ.out.symm OO.out.li HLO.out
          have HSS := Lib.hid hS
          have f1 : (S : Int) / 256 % 256 = (q : Int) := by omega
          clear hS s1 s2 s3
          go_wp2_with fail
          refine (read1_u _ O4.out.x.m).mono ?_
          rintro e w5 ⟨rfl, hu⟩
          have O5 := Lib.hid (O4.out.non hu)
          rw [HSS.out]
          clear hu O4
          go_wp2_with fail
          have o := OO.out
          refine ⟨⟨t + 1, j, P, G, { s with ph := s.ph + 1 }, g4, k4, by omega, by go_num, rfl, ⟨O5.out, o.pg, o.jt, o.pj, ?_, o.cs, o.li, HLO.out.trans HJ.out⟩⟩, by simp only [intOf]; omega⟩
          show s.ph + 1 = (t + 1) % 4
          rw [o.ph]
          omega
end Go.Proofs.Ytlpfjjhjfmcfmaa
