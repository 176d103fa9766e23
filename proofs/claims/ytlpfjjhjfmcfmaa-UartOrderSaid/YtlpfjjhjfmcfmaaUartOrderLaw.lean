/- UartOrder: the law's walk. Conditions: the rows' cells are bytes, truths. -/
import Derived.Test.YtlpfjjhjfmcfmaaUartUO
namespace Go.Proofs.Ytlpfjjhjfmcfmaa
open Go.RowKit
/-- A slice's length. -/
def slen : Value → Nat
  | .slice _ n _ => n
  | _ => 0
theorem u8_in {y : Int} (h : 0 ≤ y ∧ y < 256) : IntKind.u8.wrap y = y := by rw [IntKind.wrap_u8]; omega
/-- The word of status, of bytes that came alone. -/
theorem st_of (c : Nat) (hc : c ≤ 8) : ∀ li : Bool, ∃ S : Nat, ((c : Int) + 256 * (0 : Nat) + lostOf li false) = S ∧ S % 256 = c ∧ S / 65536 % 2 = (if li then 1 else 0) ∧ S < 4294967296 := by
  intro li
  cases li
  · exact ⟨c, by simp [lostOf], by omega, by simp; omega, by omega⟩
  · refine ⟨c + 65536, by simp [lostOf], by omega, by simp; omega, by omega⟩
theorem inp_room {s : US} {v : Int} (h : s.cs.length < 8) : s.inp v = { s with cs := s.cs ++ [v] } := if_pos h
theorem inp_full {s : US} {v : Int} (h : ¬ s.cs.length < 8) : s.inp v = { s with li := true } := if_neg h
theorem st_is {s : US} {c : Nat} {li : Bool} (h1 : s.cs.length = c) (h2 : s.gs = []) (h3 : s.lo = false) (h4 : s.li = li) : s.st = (c : Int) + 256 * (0 : Nat) + lostOf li false := by
  unfold US.st US.lost
  rw [h1, h2, h3, h4]
  rfl
set_option maxRecDepth 100000 in
set_option maxHeartbeats 16000000 in
theorem order_u (A : Option Addr) (n cc : Nat) (X : Nat → Int) (T : Option Addr) (m tc : Nat) (V : Nat → Bool) (w : World) (hd : BytesAt w A n X) (ht : 0 < m → ∃ b o, T = some ⟨b, o, none⟩ ∧ ∀ j, j < m → w.cell? ⟨b, o + j, none⟩ = some (.bool (V j))) :
    Calls Try.prog 3 #[.slice A n cc, .slice T m tc] w fun e w' => e = .returned (.bool true) ∧ Upd Non w w' := by
  have HD := Lib.hid hd
  have HT := Lib.hid ht
  clear hd ht
  go_enter Try.func3, Try.ntmps3
  go_wp2_with fail
  refine (awake_u w).mono ?_
  rintro e w1 ⟨rfl, hU⟩
  have HU1 := Lib.hid hU
  clear hU
  by_cases hn : n ≤ 300
  case neg =>
    have k1 : (300 : Int) < n := by omega
    go_wp2_with fail
    go_ret
    exact ⟨rfl, HU1.out⟩
  have k1 : ¬ (300 : Int) < n := by omega
  go_wp2_with fail
  refine (new_u w1).mono ?_
  rintro e w2 ⟨b, f, g, h, k, rfl, x⟩
  have X2 := Lib.hid (show UX w w2 b f g h k US.fresh from ⟨x.m, Upd.call x.up HU1.out (fun _ _ h => h), by have := x.lo; have := HU1.out.size; omega⟩)
  clear x HU1 k1
  go_wp2_with fail
  refine (write2_u 1 (by decide) (by decide) _ X2.out.m).mono ?_
  rintro e w3 ⟨rfl, mm⟩
  obtain ⟨g3, k3, _, _, x⟩ := X2.out.uw mm
  have O3 := Lib.hid (show UO w w3 b f g3 h k3 ⟨[], [], false, false, 1, 0⟩ (.slice none 0 0) [] (.slice none 0 0) [] from ⟨x, brow_nil _ _, brow_nil _ _, (fun i hi => by cases hi), (fun i hi => by cases hi), fun i hi => by cases hi⟩)
  clear x mm X2
  go_wp2_with fail
  go_loopw [6, 7, 8, 9, 10, 11, 12] (fun pv gv lv iv _ _ _ wr => ∃ (t : Nat) (P G : List Int) (s : US) (g k : Nat), t ≤ n ∧ iv = .int .i64 t ∧ lv = .bool s.li ∧ P = G ++ s.cs ∧ P.length ≤ t ∧ s.ctrl = 1 ∧ s.gs = [] ∧ s.lo = false ∧ UO w wr b f g h k s pv P gv G) (fun _ _ _ iv _ _ _ _ => n - (intOf iv).toNat)
  case atStart => exact ⟨0, [], [], _, g3, k3, Nat.zero_le _, rfl, rfl, rfl, Nat.le_refl _, rfl, rfl, rfl, O3.out⟩
  case round =>
    clear O3
    obtain ⟨t, P, G, s, g, k, ht, rfl, rfl, hP, hPl, hc, hgs, hlo, o⟩ := hrel
    have OO := Lib.hid o
    have HP := Lib.hid hP
    have HC := Lib.hid (And.intro hPl (And.intro hc (And.intro hgs hlo)))
    obtain ⟨A6, c6, rfl⟩ := own_slice o.p
    obtain ⟨A7, c7, rfl⟩ := own_slice o.q
    clear o hP hc hgs hlo
    by_cases hlt : t < n
    case pos =>
      have k1 : (t : Int) < n := by omega
      go_upto_region 12 with fail
      go_cut [37] (fun tv wx => ∃ d : Bool, tv = .bool d ∧ wx = wr)
      case first =>
        by_cases h1 : t < m
        · have k2 : (t : Int) < m := by omega
          obtain ⟨bt, ot, rfl, hc⟩ := HT.out (by omega)
          have c0 := OO.out.x.up.cell_eq id (hc t h1)
          clear hc
          go_wp2_with fail
          go_meet
          exact ⟨_, rfl, rfl⟩
        · have k2 : ¬ (t : Int) < m := by omega
          go_wp2_with fail
          go_meet
          exact ⟨_, rfl, rfl⟩
      case rest =>
        obtain ⟨d, rfl, rfl⟩ := hcut
        go_upto_if 37 with fail
        go_cut [7] (fun gv wx => ∃ (G : List Int) (s' : US) (g k : Nat), P = G ++ s'.cs ∧ s'.ctrl = 1 ∧ s'.gs = [] ∧ s'.lo = false ∧ s'.li = s.li ∧ UO w wx b f g h k s' (.slice A6 P.length c6) P gv G)
        case first =>
          cases d
          · go_wp2_with fail
            go_meet
            exact ⟨G, s, g, k, HP.out, HC.out.2.1, HC.out.2.2.1, HC.out.2.2.2, rfl, OO.out⟩
          go_wp2_with fail
          refine (read0_u _ OO.out.x.m).mono ?_
          rintro e w5 ⟨rfl, mm⟩
          obtain ⟨g5, k5, o5⟩ := OO.out.uw mm
          have O5 := Lib.hid o5
          have hxs : s.cs = [] ∨ ∃ y l, s.cs = y :: l := by
            cases h : s.cs with
            | nil => exact .inl rfl
            | cons y l => exact .inr ⟨y, l, rfl⟩
          have hbc := OO.out.x.m.ok.bc
          clear mm o5 OO
          rcases hxs with hx | ⟨y, l, hx⟩
          · have HE := Lib.hid hx
            have hg : P.length = G.length := by rw [HP.out, hx, List.append_nil]
            have hg2 : ¬ G.length < P.length := by omega
            have hg3 : ¬ (G.length : Int) < P.length := by omega
            rw [show s.tkv = 0 by unfold US.tkv; rw [hx]; rfl]
            clear hx hg hbc
            go_wp2_with fail
            go_meet
            exact ⟨G, s.tk, g5, k5, by rw [HP.out]; show G ++ s.cs = G ++ s.cs.tail; rw [HE.out]; rfl, HC.out.2.1, HC.out.2.2.1, HC.out.2.2.2, rfl, O5.out⟩
          · have HE := Lib.hid hx
            have hy := hbc y (by rw [hx]; exact List.mem_cons_self)
            have hg : P.length = G.length + (l.length + 1) := by rw [HP.out, hx, List.length_append, List.length_cons]
            have hg2 : G.length < P.length := by omega
            have hg3 : (G.length : Int) < P.length := by omega
            have HG := Lib.hid (show G.length ≤ 300 by have := HC.out.1; omega)
            have hz5 := O5.out.x.up.size
            obtain ⟨q, hq⟩ : ∃ q : Nat, (q : Int) = 256 + y := ⟨(256 + y).toNat, by omega⟩
            have q1 : (256 : Int) ≤ q := by omega
            have q2 : ¬ (511 : Int) < q := by omega
            have q3 : (q : Int) % 256 = y := by omega
            have q4 : IntKind.u8.wrap y = y := u8_in hy
            have q5 : ((q % 256 : Nat) : Int) = y := by omega
            rw [show s.tkv = (q : Int) by unfold US.tkv; rw [hx, hq]; rfl]
            clear hx hg hbc hq hy
            go_wp2_with (at_builtin; refine wpList_gappend rfl _ _ 22 rfl 5 _ 1 1 Try.underlying22 Try.info5b rfl (by decide) rfl (O5.out.non (by ((with_reducible repeat' first | exact Upd.refl _ _ | apply Upd.drew | apply Upd.drewN | apply Upd.alloc | refine Upd.setCell ?_ ?_) <;> first | (intro _ _ h; exact h) | (intro _ _ h; exact h.elim) | (intro i h1 h2; exfalso; (try simp only at h2); omega) | (left; rfl) | (right; dsimp only; omega) | (right; omega)))).q w5.heap.size #[.int .u8 y] 5 rfl (Blk.new _ _ _) rfl rfl (by have := HG.out; omega) (by have := HG.out; omega) (by rw [World.size_alloc]; omega) ?_; intro v' w6 hv hgr hbb)
            have O6 := Lib.hid (UO.got (O5.out.non (by ((with_reducible repeat' first | exact Upd.refl _ _ | apply Upd.drew | apply Upd.drewN | apply Upd.alloc | refine Upd.setCell ?_ ?_) <;> first | (intro _ _ h; exact h) | (intro _ _ h; exact h.elim) | (intro i h1 h2; exfalso; (try simp only at h2); omega) | (left; rfl) | (right; dsimp only; omega) | (right; omega)) : Upd Non w5 (w5.alloc (.cells #[.int .u8 y] 5)))) (y := y) (v' := v') (by show w6.ownsRow _ 5 1 v' (G ++ [y]).length ((G ++ [y]).map _); rw [List.length_append, List.map_append]; exact hv) hgr hbb)
            clear hv hgr hbb O5
            go_meet
            exact ⟨G ++ [y], s.tk, g5, k5, by rw [HP.out]; show G ++ s.cs = G ++ [y] ++ s.cs.tail; rw [HE.out]; simp, HC.out.2.1, HC.out.2.2.1, HC.out.2.2.2, rfl, O6.out⟩
        case rest =>
          have hPl := HC.out.1
          clear OO HC HP
          obtain ⟨G, s1, g1, k2, hP, hc, hgs, hlo, hli, o⟩ := hcut
          have OO := Lib.hid o
          have HP := Lib.hid hP
          have HC := Lib.hid (And.intro hc (And.intro hgs hlo))
          obtain ⟨A7, c7, rfl⟩ := own_slice o.q
          obtain ⟨li, hli2⟩ : ∃ x, x = s.li := ⟨_, rfl⟩
          rw [← hli2]
          rw [← hli2] at hli
          have HLI := Lib.hid hli
          have hx8 := o.x.m.F.le
          obtain ⟨ba, oo, rfl, hcell⟩ := HD.out.1 (by omega)
          have hX0 := hcell t hlt
          have HXX := Lib.hid hX0
          have HR := Lib.hid (HD.out.2 t hlt)
          have c0 := o.x.up.cell_eq id hX0
          obtain ⟨q, hq⟩ : ∃ q, q = s1.cs.length := ⟨_, rfl⟩
          have HQ := Lib.hid hq
          have HPG := Lib.hid (show P.length = G.length + q by rw [hP, List.length_append, ← hq])
          rw [← hq] at hx8
          have hq8 := hx8.1
          have e2 : IntKind.i64.wrap ((P.length : Int) - G.length) = (q : Int) := by have := HPG.out; rw [IntWalk.i64_in _ (by omega)]; omega
          clear o hP hc hgs hlo hli hcell hX0 hq hx8 hli2
          go_wp2_with fail
          refine (input_u (X t) HR.out _ OO.out.x.m).mono ?_
          rintro e w4 ⟨rfl, mm⟩
          obtain ⟨g4, k4, o4⟩ := OO.out.uw mm
          rw [← HQ.out]
          clear mm c0 OO
          by_cases hq4 : q < 8
          · have k3 : (q : Int) < 8 := by omega
            rw [decide_eq_true hq4]
            rw [inp_room (by rw [← HQ.out]; exact hq4)] at o4
            have O4 := Lib.hid o4
            have c0 := o4.x.up.cell_eq id HXX.out
            have hz4 := o4.x.up.size
            obtain ⟨S, hS, s256, s65, sle⟩ := st_of (q + 1) (by omega) li
            have HS := Lib.hid hS
            have f1 : (S : Int) % 256 = (q : Int) + 1 := by omega
            have f3 : IntKind.u32.wrap ((q : Int) + 1) = (q : Int) + 1 := by rw [IntKind.wrap_u32]; omega
            have f4 : ((q : Int) + 1 != (q : Int) + 1) = false := by simp
            have f5 : (S : Int) / 65536 % 2 = (if li then 1 else 0) := by cases li <;> simp at s65 ⊢ <;> omega
            have e3 : IntKind.i64.wrap ((P.length : Int) + 1 - G.length) = (q : Int) + 1 := by have := HPG.out; rw [IntWalk.i64_in _ (by omega)]; omega
            clear o4 hS s256 s65 sle
            cases li
            all_goals
              simp only [if_true, if_false, Bool.false_eq_true] at f5
              go_upto_region 23 with (at_builtin; refine wpList_gappend rfl _ _ 22 rfl 5 _ 1 1 Try.underlying22 Try.info5b rfl (by decide) rfl (O4.out.non (by ((with_reducible repeat' first | exact Upd.refl _ _ | apply Upd.drew | apply Upd.drewN | apply Upd.alloc | refine Upd.setCell ?_ ?_) <;> first | (intro _ _ h; exact h) | (intro _ _ h; exact h.elim) | (intro i h1 h2; exfalso; (try simp only at h2); omega) | (left; rfl) | (right; dsimp only; omega) | (right; omega)))).p w4.heap.size #[.int .u8 (X t)] 5 rfl (Blk.new _ _ _) rfl rfl (by omega) (by omega) (by rw [World.size_alloc]; omega) ?_; intro v' w6 hv hgr hbb)
              have O6 := Lib.hid (UO.put (O4.out.non (by ((with_reducible repeat' first | exact Upd.refl _ _ | apply Upd.drew | apply Upd.drewN | apply Upd.alloc | refine Upd.setCell ?_ ?_) <;> first | (intro _ _ h; exact h) | (intro _ _ h; exact h.elim) | (intro i h1 h2; exfalso; (try simp only at h2); omega) | (left; rfl) | (right; dsimp only; omega) | (right; omega)) : Upd Non w4 (w4.alloc (.cells #[.int .u8 (X t)] 5)))) (y := X t) (v' := v') (by show w6.ownsRow _ 5 1 v' (P ++ [X t]).length ((P ++ [X t]).map _); rw [List.length_append, List.map_append]; exact hv) hgr hbb)
              obtain ⟨A6', c6', rfl⟩ := own_slice hv
              clear hv hgr hbb O4 c0
              go_wp2_with fail
              refine (read1_u _ O6.out.x.m).mono ?_
              rintro e w7 ⟨rfl, hu⟩
              have O7 := Lib.hid (O6.out.non hu)
              rw [(st_is (s := { s1 with cs := s1.cs ++ [X t] }) (by rw [HQ.out]; exact List.length_append) HC.out.2.1 HC.out.2.2 HLI.out).trans HS.out]
              clear hu O6
              go_wp2_with fail
              refine (line_u _ O7.out.x.m).mono ?_
              rintro e w8 ⟨rfl, rfl⟩
              rw [show (decide ((US.ctrl { s1 with cs := s1.cs ++ [X t] }) = 1) && decide (0 < (US.cs { s1 with cs := s1.cs ++ [X t] }).length)) = true by simp [HC.out.1]]
              go_wp2_with fail
              exact ⟨⟨t + 1, P ++ [X t], G, { s1 with cs := s1.cs ++ [X t] }, g4, k4, by omega, by go_num, by rw [show US.li { s1 with cs := s1.cs ++ [X t] } = s1.li from rfl, HLI.out], by rw [HP.out]; simp, by rw [List.length_append, List.length_singleton]; omega, HC.out.1, HC.out.2.1, HC.out.2.2, O7.out⟩, by simp only [intOf]; omega⟩
          · have k3 : ¬ (q : Int) < 8 := by omega
            rw [decide_eq_false hq4]
            rw [inp_full (by rw [← HQ.out]; exact hq4)] at o4
            have O4 := Lib.hid o4
            have c0 := o4.x.up.cell_eq id HXX.out
            obtain ⟨S, hS, s256, s65, sle⟩ := st_of q (by omega) true
            have HS := Lib.hid hS
            have f1 : (S : Int) % 256 = (q : Int) := by omega
            have f3 : IntKind.u32.wrap (q : Int) = (q : Int) := by rw [IntKind.wrap_u32]; omega
            have f4 : ((q : Int) != (q : Int)) = false := by simp
            have f5 : (S : Int) / 65536 % 2 = 1 := by simp at s65; omega
            clear o4 hS s256 s65 sle
            cases li
            all_goals
              go_wp2_with fail
              refine (read1_u _ O4.out.x.m).mono ?_
              rintro e w7 ⟨rfl, hu⟩
              have O7 := Lib.hid (O4.out.non hu)
              rw [(st_is (s := { s1 with li := true }) HQ.out.symm HC.out.2.1 HC.out.2.2 rfl).trans HS.out]
              clear hu O4 c0
              go_wp2_with fail
              refine (line_u _ O7.out.x.m).mono ?_
              rintro e w8 ⟨rfl, rfl⟩
              rw [show (decide ((US.ctrl { s1 with li := true }) = 1) && decide (0 < (US.cs { s1 with li := true }).length)) = true by have := HQ.out; simp [HC.out.1]; omega]
              go_wp2_with fail
              exact ⟨⟨t + 1, P, G, { s1 with li := true }, g4, k4, by omega, by go_num, rfl, HP.out, by omega, HC.out.1, HC.out.2.1, HC.out.2.2, O7.out⟩, by simp only [intOf]; omega⟩
    have k1 : ¬ (t : Int) < n := by omega
    have hPl := HC.out.1
    go_wp2_with fail
    go_loopw [7, 13] (fun gv _ wx => ∃ (G : List Int) (s : US) (g k : Nat), P = G ++ s.cs ∧ s.ctrl = 1 ∧ UO w wx b f g h k s (.slice A6 P.length c6) P gv G) (fun gv _ _ => P.length - slen gv)
    case atStart => exact ⟨G, s, g, k, HP.out, HC.out.2.1, OO.out⟩
    case round =>
      clear OO HP HC
      obtain ⟨G, s, g, k, hP, hc, o⟩ := hrel
      have OO := Lib.hid o
      have HP := Lib.hid hP
      have HC := Lib.hid hc
      obtain ⟨A7, c7, rfl⟩ := own_slice o.q
      have hbc := o.x.m.ok.bc
      have hxs : s.cs = [] ∨ ∃ y l, s.cs = y :: l := by
        cases h : s.cs with
        | nil => exact .inl rfl
        | cons y l => exact .inr ⟨y, l, rfl⟩
      clear o hP hc
      rcases hxs with hx | ⟨y, l, hx⟩
      · have HE := Lib.hid hx
        have hPG : G = P := by rw [HP.out, hx, List.append_nil]
        clear hx hbc HP
        subst hPG
        go_wp2_with fail
        refine (read0_u _ OO.out.x.m).mono ?_
        rintro e w5 ⟨rfl, mm⟩
        obtain ⟨g5, k5, o5⟩ := OO.out.uw mm
        have O5 := Lib.hid o5
        rw [show s.tkv = 0 by unfold US.tkv; rw [HE.out]; rfl]
        clear mm o5 OO
        go_wp2_with fail
        refine (line_u _ O5.out.x.m).mono ?_
        rintro e w6 ⟨rfl, rfl⟩
        rw [show (decide (s.tk.ctrl = 1) && decide (0 < s.tk.cs.length)) = false by show (_ && decide (0 < s.cs.tail.length)) = false; rw [HE.out]; simp]
        go_wp2_with fail
        refine (same_bytes A6 A7 _ c6 c7 (fun j => G.getD j 0) (by omega) _ (brow_at O5.out.p) (brow_at O5.out.q)).mono ?_
        rintro e w7 ⟨rfl, hU⟩
        have HU7 := Lib.hid (Upd.call hU O5.out.x.up fun _ _ h => h)
        clear hU
        go_wp2_with fail
        go_ret
        exact ⟨rfl, HU7.out⟩
      · have HE := Lib.hid hx
        have hy := hbc y (by rw [hx]; exact List.mem_cons_self)
        have hg : P.length = G.length + (l.length + 1) := by rw [HP.out, hx, List.length_append, List.length_cons]
        have hg2 : G.length < P.length := by omega
        have hg3 : (G.length : Int) < P.length := by omega
        have HG := Lib.hid (show G.length ≤ 300 by omega)
        obtain ⟨q, hq⟩ : ∃ q : Nat, (q : Int) = 256 + y := ⟨(256 + y).toNat, by omega⟩
        have q1 : ¬ (q : Int) < 256 := by omega
        have q3 : (q : Int) % 256 = y := by omega
        have q4 : IntKind.u8.wrap y = y := u8_in hy
        have HQV := Lib.hid (show s.tkv = (q : Int) by unfold US.tkv; rw [hx, hq]; rfl)
        clear hx hg hbc hq hy
        go_wp2_with fail
        refine (read0_u _ OO.out.x.m).mono ?_
        rintro e w5 ⟨rfl, mm⟩
        obtain ⟨g5, k5, o5⟩ := OO.out.uw mm
        have O5 := Lib.hid o5
        have hz5 := O5.out.x.up.size
        rw [HQV.out]
        clear mm o5 OO HQV
        go_wp2_with (at_builtin; refine wpList_gappend rfl _ _ 22 rfl 5 _ 1 1 Try.underlying22 Try.info5b rfl (by decide) rfl (O5.out.non (by ((with_reducible repeat' first | exact Upd.refl _ _ | apply Upd.drew | apply Upd.drewN | apply Upd.alloc | refine Upd.setCell ?_ ?_) <;> first | (intro _ _ h; exact h) | (intro _ _ h; exact h.elim) | (intro i h1 h2; exfalso; (try simp only at h2); omega) | (left; rfl) | (right; dsimp only; omega) | (right; omega)))).q w5.heap.size #[.int .u8 y] 5 rfl (Blk.new _ _ _) rfl rfl (by have := HG.out; omega) (by have := HG.out; omega) (by rw [World.size_alloc]; omega) ?_; intro v' w6 hv hgr hbb)
        have O6 := Lib.hid (UO.got (O5.out.non (by ((with_reducible repeat' first | exact Upd.refl _ _ | apply Upd.drew | apply Upd.drewN | apply Upd.alloc | refine Upd.setCell ?_ ?_) <;> first | (intro _ _ h; exact h) | (intro _ _ h; exact h.elim) | (intro i h1 h2; exfalso; (try simp only at h2); omega) | (left; rfl) | (right; dsimp only; omega) | (right; omega)) : Upd Non w5 (w5.alloc (.cells #[.int .u8 y] 5)))) (y := y) (v' := v') (by show w6.ownsRow _ 5 1 v' (G ++ [y]).length ((G ++ [y]).map _); rw [List.length_append, List.map_append]; exact hv) hgr hbb)
        obtain ⟨A8, c8, rfl⟩ := own_slice hv
        clear hv hgr hbb O5
        exact ⟨⟨G ++ [y], s.tk, g5, k5, by rw [HP.out]; show G ++ s.cs = G ++ [y] ++ s.cs.tail; rw [HE.out]; simp, HC.out, O6.out⟩, by simp only [slen]; omega⟩
end Go.Proofs.Ytlpfjjhjfmcfmaa
