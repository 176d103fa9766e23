/- The law PipeLate returns true: the walk of its loop. Conditions: the arguments' cells read as bools and numbers. -/
import Derived.Test.YtnmbkhofikbcjaaPipeLate
namespace Go.Proofs.Ytnmbkhofikbcjaa
open Go.RowKit

/-- In which cycles something is put. -/
def putL (pn : Nat) (P : Nat → Bool) (t : Nat) : Bool := decide (t < pn) && P t

theorem late_none (l : Int) (A B : Option Addr) (pn pc qn qc : Nat) (h : l < 1 ∨ 16 < l ∨ 400 < pn) (w : World) :
    Calls Try.prog 8 #[.int .i64 l, .slice A pn pc, .slice B qn qc] w fun e w' => e = .returned (.bool true) ∧ Upd Non w w' := by
  by_cases h1 : l < 1
  · clear h
    go_enter Try.func8, Try.ntmps8
    go_wp2_with (go_at_call 13; refine (awake18 _).mono ?_; rintro e w1 ⟨rfl, hU1⟩)
    go_ret
    exact ⟨rfl, by ((with_reducible repeat' first | exact Upd.refl _ _ | apply Upd.drew | apply Upd.drewN | apply Upd.alloc | refine Upd.setCell ?_ ?_ | refine Upd.call hU1 ?_ ?_) <;> first | (intro _ _ h; exact h) | (intro _ _ h; exact h.elim) | (intro i h1 h2; exfalso; (try simp only at h2); omega) | (left; rfl) | (right; dsimp only; omega) | (right; omega))⟩
  by_cases h2 : 16 < l
  · clear h
    go_enter Try.func8, Try.ntmps8
    go_wp2_with (go_at_call 13; refine (awake18 _).mono ?_; rintro e w1 ⟨rfl, hU1⟩)
    go_ret
    exact ⟨rfl, by ((with_reducible repeat' first | exact Upd.refl _ _ | apply Upd.drew | apply Upd.drewN | apply Upd.alloc | refine Upd.setCell ?_ ?_ | refine Upd.call hU1 ?_ ?_) <;> first | (intro _ _ h; exact h) | (intro _ _ h; exact h.elim) | (intro i h1 h2; exfalso; (try simp only at h2); omega) | (left; rfl) | (right; dsimp only; omega) | (right; omega))⟩
  have h3 : (400 : Int) < pn := by omega
  clear h
  go_enter Try.func8, Try.ntmps8
  go_wp2_with (go_at_call 13; refine (awake18 _).mono ?_; rintro e w1 ⟨rfl, hU1⟩)
  go_ret
  exact ⟨rfl, by ((with_reducible repeat' first | exact Upd.refl _ _ | apply Upd.drew | apply Upd.drewN | apply Upd.alloc | refine Upd.setCell ?_ ?_ | refine Upd.call hU1 ?_ ?_) <;> first | (intro _ _ h; exact h) | (intro _ _ h; exact h.elim) | (intro i h1 h2; exfalso; (try simp only at h2); omega) | (left; rfl) | (right; dsimp only; omega) | (right; omega))⟩

set_option maxRecDepth 100000 in
set_option maxHeartbeats 16000000 in
theorem late_some (L : Nat) (PA VA : Option Addr) (pn pc vn vc : Nat) (P : Nat → Bool) (V : Nat → Int) (h0 : 0 < L) (h1 : L ≤ 16) (h2 : pn ≤ 400) (w : World)
    (hp : 0 < pn → ∃ b o, PA = some ⟨b, o, none⟩ ∧ ∀ j, j < pn → w.cell? ⟨b, o + j, none⟩ = some (.bool (P j)))
    (hv : 0 < vn → ∃ b o, VA = some ⟨b, o, none⟩ ∧ ∀ j, j < vn → w.cell? ⟨b, o + j, none⟩ = some (.int .u32 (V j))) (hvn : vn ≤ 9223372036854775807) :
    Calls Try.prog 8 #[.int .i64 L, .slice PA pn pc, .slice VA vn vc] w fun e w' => e = .returned (.bool true) ∧ Upd Non w w' := by
  have k1 : ¬ (L : Int) < 1 := by omega
  have k2 : ¬ (16 : Int) < L := by omega
  have k3 : ¬ (400 : Int) < pn := by omega
  have k6 : IntKind.i64.wrap ((pn : Int) + L) = (pn : Int) + L := IntWalk.i64_in _ (by omega)
  obtain ⟨out, hout⟩ : ∃ f, f = outOf L (putL pn P) (whatAt vn V) := ⟨_, rfl⟩
  have HOUT := Lib.hid hout; clear hout
  have hout0 : ∀ u, u < L → out u = PC.no := fun u hu => by rw [HOUT.out]; exact outOf_early hu
  have houtL : ∀ t, out (t + L) = if putL pn P t = true then whatAt vn V t else PC.no := fun t => by rw [HOUT.out]; exact outOf_late
  have HO0 := Lib.hid hout0
  have HOL := Lib.hid houtL
  have HV := Lib.hid hv
  have HPP := Lib.hid hp
  have HVN := Lib.hid hvn
  clear hout0 houtL hv hp hvn
  go_enter Try.func8, Try.ntmps8
  go_wp2_with (go_at_call 13; refine (awake18 _).mono ?_; rintro e w1 ⟨rfl, hU1⟩)
  have hz1 := hU1.size
  refine (new_spec L h0 h1 _).mono ?_
  rintro e w2 ⟨rfl, hw2⟩
  have hbp : Blk w2 w1.heap.size (PS.fresh L).enc 96 := hw2 ▸ Blk.new w1 _ _
  have hU2 : Upd Non w1 w2 := hw2 ▸ (Upd.refl _ _).alloc
  clear hw2
  have HU2 := Lib.hid (by ((with_reducible repeat' first | exact Upd.refl _ _ | apply Upd.drew | apply Upd.drewN | apply Upd.alloc | refine Upd.setCell ?_ ?_ | refine Upd.call hU2 ?_ ?_ | refine Upd.call hU1 ?_ ?_) <;> first | (intro _ _ h; exact h) | (intro _ _ h; exact h.elim) | (intro i h1 h2; exfalso; (try simp only at h2); omega) | (left; rfl) | (right; dsimp only; omega) | (right; omega)) : Upd Non w w2)
  clear hU2 hU1
  obtain ⟨bp, hbpe⟩ : ∃ b, b = w1.heap.size := ⟨_, rfl⟩
  rw [← hbpe] at hbp ⊢
  have hwp : w.heap.size ≤ bp := by omega
  clear hbpe hz1
  have HBP := Lib.hid hbp; clear hbp
  go_wp2_with fail
  go_loopw [9] (fun i wr => ∃ (t : Nat) (sp : PS), t ≤ pn + L ∧ i = .int .i64 t ∧ PInv L out t sp ∧ Blk wr bp sp.enc 96 ∧ Upd Non w wr) (fun i _ => pn + L - (intOf i).toNat)
  case atStart => exact ⟨0, PS.fresh L, by omega, rfl, PInv.fresh HO0.out, HBP.out, HU2.out⟩
  case round =>
    obtain ⟨t, sp, ht, rfl, ip, hbp, hU⟩ := hrel
    clear HBP HU2
    have okp := ip.ok h0 h1
    have HBP := Lib.hid hbp; clear hbp
    have HU := Lib.hid hU; clear hU
    by_cases hend : t < pn + L
    case neg =>
      have k7 : ¬ (t : Int) < (pn : Int) + L := by omega
      go_wp2_with fail
      refine (len_spec sp okp bp _ (by ((with_reducible repeat' first | apply Blk.drew | apply Blk.drewN | apply Blk.alloc | apply Blk.set | refine Blk.set_ne ?_ ?_) <;> first | with_reducible exact HBP.out | omega | (dsimp only; omega)))).mono ?_
      rintro e v1 ⟨rfl, hV1⟩
      have hlen : (sp.upto sp.lat).length = 0 := by
        rw [PS.upto_zero]
        intro j hj
        have hx := ip.cell (t + j) (by omega) (by rw [ip.lat] at hj; omega)
        have hy : sp.at_ (1 + j) = (t + j + 1) % L := by unfold PS.at_; rw [ip.now, ip.lat, Nat.mod_add_mod]; congr 1; omega
        rw [hy, hx, show t + j = (t + j - L) + L by omega, HOL.out, if_neg]
        · rfl
        · unfold putL; simp; omega
      rw [hlen]
      have HV1 := Lib.hid (by ((with_reducible repeat' first | exact Upd.refl _ _ | apply Upd.drew | apply Upd.drewN | apply Upd.alloc | refine Upd.setCell ?_ ?_ | refine Upd.call hV1 ?_ ?_ | refine Upd.call HU.out ?_ ?_) <;> first | (intro _ _ h; exact h) | (intro _ _ h; exact h.elim) | (intro i h1 h2; exfalso; (try simp only at h2); omega) | (left; rfl) | (right; dsimp only; omega) | (right; omega)) : Upd Non w v1)
      clear hV1 hlen
      go_wp2
      go_ret
      exact ⟨rfl, HV1.out⟩
    have k7 : (t : Int) < (pn : Int) + L := by omega
    have okt : sp.tick.ok := ⟨okp.pos, okp.le, PS.next_lt okp⟩
    have hwr := HU.out.size
    obtain ⟨c, hc⟩ : ∃ c, c = out t := ⟨_, rfl⟩
    have HC := Lib.hid hc; clear hc
    go_wp2_with fail
    refine (tick_out sp okp c (by rw [HC.out]; exact ip.out h0) bp _ (by ((with_reducible repeat' first | apply Blk.drew | apply Blk.drewN | apply Blk.alloc | apply Blk.set | refine Blk.set_ne ?_ ?_) <;> first | with_reducible exact HBP.out | omega | (dsimp only; omega)))).mono ?_
    rintro e v1 ⟨rfl, hbp1, hV1⟩
    have HV1 := Lib.hid (by ((with_reducible repeat' first | exact Upd.refl _ _ | apply Upd.drew | apply Upd.drewN | apply Upd.alloc | refine Upd.setCell ?_ ?_ | refine Upd.call hV1 ?_ ?_ | refine Upd.call HU.out ?_ ?_) <;> first | (intro _ _ h; exact h) | (intro _ _ h; exact h.elim) | (intro i h1 h2; exfalso; (try simp only at h2); omega) | (left; rfl) | (right; dsimp only; omega) | (right; omega)) : Upd Non w v1)
    have hs1 := HV1.out.size
    clear hV1
    have HBP1 := Lib.hid hbp1; clear hbp1
    have hpl := HBP1.out.lt
    have kd : IntKind.i64.wrap ((t : Int) - L) = (t : Int) - L := IntWalk.i64_in _ (by omega)
    have hcell : pn = 0 ∨ 0 < pn := by omega
    rcases hcell with hpn0 | hpn0
    case inl =>
      -- no cycle in which something may be put
      have hcn : c = PC.no := by
        rw [HC.out]
        by_cases h : t < L
        · exact HO0.out t h
        · rw [show t = (t - L) + L by omega, HOL.out, if_neg]; unfold putL; simp; omega
      have htL : (t : Int) - L < 0 := by omega
      have k8 : ¬ (0 : Int) ≤ (t : Int) - L := by omega
      subst hcn
      have htn : ¬ t < pn := by omega
      have HPN := Lib.hid hpn0
      have k10 : ¬ (t : Int) < pn := by omega
      have k11 : (t : Int) < L := by omega
      clear hpn0
      go_wp2_with fail
      refine (len_spec sp.tick okt bp _ (by ((with_reducible repeat' first | apply Blk.drew | apply Blk.drewN | apply Blk.alloc | apply Blk.set | refine Blk.set_ne ?_ ?_) <;> first | with_reducible exact HBP1.out | omega | (dsimp only; omega)))).mono ?_
      rintro e x1 ⟨rfl, hX1⟩
      have HB1 := Lib.hid (Blk.upd hX1 (by ((with_reducible repeat' first | apply Blk.drew | apply Blk.drewN | apply Blk.alloc | apply Blk.set | refine Blk.set_ne ?_ ?_) <;> first | with_reducible exact HBP1.out | omega | (dsimp only; omega)) : Blk _ bp (sp.tick).enc 96) id)
      have HX1 := Lib.hid (by ((with_reducible repeat' first | exact Upd.refl _ _ | apply Upd.drew | apply Upd.drewN | apply Upd.alloc | refine Upd.setCell ?_ ?_ | refine Upd.call hX1 ?_ ?_ | refine Upd.call HV1.out ?_ ?_) <;> first | (intro _ _ h; exact h) | (intro _ _ h; exact h.elim) | (intro i h1 h2; exfalso; (try simp only at h2); omega) | (left; rfl) | (right; dsimp only; omega) | (right; omega)) : Upd Non w x1)
      clear hX1
      have hnl : ((sp.tick).upto (sp.tick).lat).length ≤ L := Nat.le_trans (PS.upto_le _ _) (Nat.le_of_eq ip.lat)
      have hil : (sp.tick).idle ≤ L := Nat.le_trans (PS.idle_le _) (Nat.le_of_eq ip.lat)
      have hboth := PS.both (sp.tick)
      generalize hNN : ((sp.tick).upto (sp.tick).lat).length = nn at *
      have HNN := Lib.hid hNN; clear hNN
      generalize hII : (sp.tick).idle = ii at *
      have HII := Lib.hid hII; clear hII
      have k20 : ¬ (L : Int) < nn := by omega
      have k21 : ¬ (L : Int) < ii := by omega
      go_wp2_with fail
      refine (idle_spec sp.tick okt bp _ HB1.out).mono ?_
      rintro e x2 ⟨rfl, m, rfl⟩
      rw [HII.out]
      go_wp2_with fail
      refine (len_spec sp.tick okt bp _ (by ((with_reducible repeat' first | apply Blk.drew | apply Blk.drewN | apply Blk.alloc | apply Blk.set | refine Blk.set_ne ?_ ?_) <;> first | with_reducible exact HB1.out | omega | (dsimp only; omega)))).mono ?_
      rintro e x3 ⟨rfl, hX3⟩
      rw [HNN.out]
      have HB3 := Lib.hid (Blk.upd hX3 (by ((with_reducible repeat' first | apply Blk.drew | apply Blk.drewN | apply Blk.alloc | apply Blk.set | refine Blk.set_ne ?_ ?_) <;> first | with_reducible exact HB1.out | omega | (dsimp only; omega)) : Blk _ bp (sp.tick).enc 96) id)
      have HX3 := Lib.hid (by ((with_reducible repeat' first | exact Upd.refl _ _ | apply Upd.drew | apply Upd.drewN | apply Upd.alloc | refine Upd.setCell ?_ ?_ | refine Upd.call hX3 ?_ ?_ | refine Upd.call HX1.out ?_ ?_) <;> first | (intro _ _ h; exact h) | (intro _ _ h; exact h.elim) | (intro i h1 h2; exfalso; (try simp only at h2); omega) | (left; rfl) | (right; dsimp only; omega) | (right; omega)) : Upd Non w x3)
      clear hX3
      rcases hboth with ⟨hi0, hn0⟩ | ⟨hi0, hn0⟩
      all_goals
        first | (subst hi0; subst hn0) | (have k22 : (0 : Int) < ii := by omega
                                          have k23 : (0 : Int) < nn := by omega)
        go_wp2_with fail
        refine (idle_spec sp.tick okt bp _ HB3.out).mono ?_
        rintro e x4 ⟨rfl, m4, rfl⟩
        rw [HII.out]
        go_wp2_with fail
        go_roundw
        case rel => exact ⟨t + 1, sp.tick, by omega, by go_num, PInv.step ip h0 (by rw [HOL.out, if_neg]; simp [putL, htn]), by ((with_reducible repeat' first | apply Blk.drew | apply Blk.drewN | apply Blk.alloc | apply Blk.set | refine Blk.set_ne ?_ ?_) <;> first | with_reducible exact HB3.out | omega | (dsimp only; omega)), by ((with_reducible repeat' first | exact Upd.refl _ _ | apply Upd.drew | apply Upd.drewN | apply Upd.alloc | refine Upd.setCell ?_ ?_ | refine Upd.call HX3.out ?_ ?_) <;> first | (intro _ _ h; exact h) | (intro _ _ h; exact h.elim) | (intro i h1 h2; exfalso; (try simp only at h2); omega) | (left; rfl) | (right; dsimp only; omega) | (right; omega))⟩
        case measure => simp [intOf]; omega
    case inr =>
    obtain ⟨pb, po, rfl, hp⟩ := HPP.out hpn0
    have hpb : pb < w.heap.size := World.block_lt_of_cell? w _ (hp 0 hpn0)
    have hcell : ∀ wk, Hid (Upd Non w wk) → ∀ j, j < pn → wk.cell? ⟨pb, po + j, none⟩ = some (.bool (P j)) := fun wk u j hj => u.out.cell_eq id (hp j hj)
    have HCELL := Lib.hid hcell
    clear hp hcell
    by_cases htL : t < L
    · have hcn : c = PC.no := by rw [HC.out]; exact HO0.out t htL
      have k8 : ¬ (0 : Int) ≤ (t : Int) - L := by omega
      have k11 : (t : Int) < L := by omega
      subst hcn
      have pl : pb < v1.heap.size := by omega
      by_cases htn : t < pn
      · have k10 : (t : Int) < pn := by omega
        cases hPt : P t
        · have HPt := Lib.hid hPt; clear hPt
          have cP := HCELL.out _ HV1 t htn
          rw [HPt.out] at cP
          go_wp2_with fail
          refine (len_spec sp.tick okt bp _ (by ((with_reducible repeat' first | apply Blk.drew | apply Blk.drewN | apply Blk.alloc | apply Blk.set | refine Blk.set_ne ?_ ?_) <;> first | with_reducible exact HBP1.out | omega | (dsimp only; omega)))).mono ?_
          rintro e x1 ⟨rfl, hX1⟩
          have HB1 := Lib.hid (Blk.upd hX1 (by ((with_reducible repeat' first | apply Blk.drew | apply Blk.drewN | apply Blk.alloc | apply Blk.set | refine Blk.set_ne ?_ ?_) <;> first | with_reducible exact HBP1.out | omega | (dsimp only; omega)) : Blk _ bp (sp.tick).enc 96) id)
          have HX1 := Lib.hid (by ((with_reducible repeat' first | exact Upd.refl _ _ | apply Upd.drew | apply Upd.drewN | apply Upd.alloc | refine Upd.setCell ?_ ?_ | refine Upd.call hX1 ?_ ?_ | refine Upd.call HV1.out ?_ ?_) <;> first | (intro _ _ h; exact h) | (intro _ _ h; exact h.elim) | (intro i h1 h2; exfalso; (try simp only at h2); omega) | (left; rfl) | (right; dsimp only; omega) | (right; omega)) : Upd Non w x1)
          clear hX1
          have hnl : ((sp.tick).upto (sp.tick).lat).length ≤ L := Nat.le_trans (PS.upto_le _ _) (Nat.le_of_eq ip.lat)
          have hil : (sp.tick).idle ≤ L := Nat.le_trans (PS.idle_le _) (Nat.le_of_eq ip.lat)
          have hboth := PS.both (sp.tick)
          generalize hNN : ((sp.tick).upto (sp.tick).lat).length = nn at *
          have HNN := Lib.hid hNN; clear hNN
          generalize hII : (sp.tick).idle = ii at *
          have HII := Lib.hid hII; clear hII
          have k20 : ¬ (L : Int) < nn := by omega
          have k21 : ¬ (L : Int) < ii := by omega
          go_wp2_with fail
          refine (idle_spec sp.tick okt bp _ HB1.out).mono ?_
          rintro e x2 ⟨rfl, m, rfl⟩
          rw [HII.out]
          go_wp2_with fail
          refine (len_spec sp.tick okt bp _ (by ((with_reducible repeat' first | apply Blk.drew | apply Blk.drewN | apply Blk.alloc | apply Blk.set | refine Blk.set_ne ?_ ?_) <;> first | with_reducible exact HB1.out | omega | (dsimp only; omega)))).mono ?_
          rintro e x3 ⟨rfl, hX3⟩
          rw [HNN.out]
          have HB3 := Lib.hid (Blk.upd hX3 (by ((with_reducible repeat' first | apply Blk.drew | apply Blk.drewN | apply Blk.alloc | apply Blk.set | refine Blk.set_ne ?_ ?_) <;> first | with_reducible exact HB1.out | omega | (dsimp only; omega)) : Blk _ bp (sp.tick).enc 96) id)
          have HX3 := Lib.hid (by ((with_reducible repeat' first | exact Upd.refl _ _ | apply Upd.drew | apply Upd.drewN | apply Upd.alloc | refine Upd.setCell ?_ ?_ | refine Upd.call hX3 ?_ ?_ | refine Upd.call HX1.out ?_ ?_) <;> first | (intro _ _ h; exact h) | (intro _ _ h; exact h.elim) | (intro i h1 h2; exfalso; (try simp only at h2); omega) | (left; rfl) | (right; dsimp only; omega) | (right; omega)) : Upd Non w x3)
          clear hX3
          rcases hboth with ⟨hi0, hn0⟩ | ⟨hi0, hn0⟩
          all_goals
            first | (subst hi0; subst hn0) | (have k22 : (0 : Int) < ii := by omega
                                              have k23 : (0 : Int) < nn := by omega)
            go_wp2_with fail
            refine (idle_spec sp.tick okt bp _ HB3.out).mono ?_
            rintro e x4 ⟨rfl, m4, rfl⟩
            rw [HII.out]
            go_wp2_with fail
            go_roundw
            case rel => exact ⟨t + 1, sp.tick, by omega, by go_num, PInv.step ip h0 (by rw [HOL.out, if_neg]; simp [putL, htn, HPt.out]), by ((with_reducible repeat' first | apply Blk.drew | apply Blk.drewN | apply Blk.alloc | apply Blk.set | refine Blk.set_ne ?_ ?_) <;> first | with_reducible exact HB3.out | omega | (dsimp only; omega)), by ((with_reducible repeat' first | exact Upd.refl _ _ | apply Upd.drew | apply Upd.drewN | apply Upd.alloc | refine Upd.setCell ?_ ?_ | refine Upd.call HX3.out ?_ ?_) <;> first | (intro _ _ h; exact h) | (intro _ _ h; exact h.elim) | (intro i h1 h2; exfalso; (try simp only at h2); omega) | (left; rfl) | (right; dsimp only; omega) | (right; omega))⟩
            case measure => simp [intOf]; omega
        · have HPt := Lib.hid hPt; clear hPt
          have cP := HCELL.out _ HV1 t htn
          rw [HPt.out] at cP
          go_wp2_with fail
          refine (due_spec t (by omega) VA vn vc V _ (fun h => by
            obtain ⟨b, o, hA, hc⟩ := HV.out h
            exact ⟨b, o, hA, fun j hj => (show Upd Non w _ by ((with_reducible repeat' first | exact Upd.refl _ _ | apply Upd.drew | apply Upd.drewN | apply Upd.alloc | refine Upd.setCell ?_ ?_ | refine Upd.call HV1.out ?_ ?_) <;> first | (intro _ _ h; exact h) | (intro _ _ h; exact h.elim) | (intro i h1 h2; exfalso; (try simp only at h2); omega) | (left; rfl) | (right; dsimp only; omega) | (right; omega))).cell_eq id (hc j hj)⟩) HVN.out).mono ?_
          rintro e y1 ⟨rfl, hY1⟩
          have HBY1 := Lib.hid (Blk.upd hY1 (by ((with_reducible repeat' first | apply Blk.drew | apply Blk.drewN | apply Blk.alloc | apply Blk.set | refine Blk.set_ne ?_ ?_) <;> first | with_reducible exact HBP1.out | omega | (dsimp only; omega)) : Blk _ bp sp.tick.enc 96) id)
          have HY1 := Lib.hid (by ((with_reducible repeat' first | exact Upd.refl _ _ | apply Upd.drew | apply Upd.drewN | apply Upd.alloc | refine Upd.setCell ?_ ?_ | refine Upd.call hY1 ?_ ?_ | refine Upd.call HV1.out ?_ ?_) <;> first | (intro _ _ h; exact h) | (intro _ _ h; exact h.elim) | (intro i h1 h2; exfalso; (try simp only at h2); omega) | (left; rfl) | (right; dsimp only; omega) | (right; omega)) : Upd Non w y1)
          clear hY1
          go_wp2_with fail
          refine (put_ok sp.tick okt rfl (PS.tick_clear sp) bp _ _ _ _ HBY1.out).mono ?_
          rintro e y2 ⟨rfl, hb2, hY2⟩
          have HBY2 := Lib.hid hb2; clear hb2
          have HY2 := Lib.hid (by ((with_reducible repeat' first | exact Upd.refl _ _ | apply Upd.drew | apply Upd.drewN | apply Upd.alloc | refine Upd.setCell ?_ ?_ | refine Upd.call hY2 ?_ ?_ | refine Upd.call HY1.out ?_ ?_) <;> first | (intro _ _ h; exact h) | (intro _ _ h; exact h.elim) | (intro i h1 h2; exfalso; (try simp only at h2); omega) | (left; rfl) | (right; dsimp only; omega) | (right; omega)) : Upd Non w y2)
          clear hY2
          have kt : IntKind.i64.wrap ((t : Int) + 1) = ((t + 1 : Nat) : Int) := by rw [IntWalk.i64_in _ (by omega)]; omega
          go_wp2_with fail
          refine (due_spec (t + 1) (by omega) VA vn vc V _ (fun h => by
            obtain ⟨b, o, hA, hc⟩ := HV.out h
            exact ⟨b, o, hA, fun j hj => (show Upd Non w _ by ((with_reducible repeat' first | exact Upd.refl _ _ | apply Upd.drew | apply Upd.drewN | apply Upd.alloc | refine Upd.setCell ?_ ?_ | refine Upd.call HY2.out ?_ ?_) <;> first | (intro _ _ h; exact h) | (intro _ _ h; exact h.elim) | (intro i h1 h2; exfalso; (try simp only at h2); omega) | (left; rfl) | (right; dsimp only; omega) | (right; omega))).cell_eq id (hc j hj)⟩) HVN.out).mono ?_
          rintro e y3 ⟨rfl, hY3⟩
          have HBY3 := Lib.hid (Blk.upd hY3 (by ((with_reducible repeat' first | apply Blk.drew | apply Blk.drewN | apply Blk.alloc | apply Blk.set | refine Blk.set_ne ?_ ?_) <;> first | with_reducible exact HBY2.out | omega | (dsimp only; omega)) : Blk _ bp _ 96) id)
          have HY3 := Lib.hid (by ((with_reducible repeat' first | exact Upd.refl _ _ | apply Upd.drew | apply Upd.drewN | apply Upd.alloc | refine Upd.setCell ?_ ?_ | refine Upd.call hY3 ?_ ?_ | refine Upd.call HY2.out ?_ ?_) <;> first | (intro _ _ h; exact h) | (intro _ _ h; exact h.elim) | (intro i h1 h2; exfalso; (try simp only at h2); omega) | (left; rfl) | (right; dsimp only; omega) | (right; omega)) : Upd Non w y3)
          clear hY3
          go_wp2_with fail
          refine (put_full (sp.tick.puts (whatAt vn V t).wo (whatAt vn V t).va (whatAt vn V t).er) ⟨okt.pos, okt.le, okt.now⟩ rfl (by simp [PS.puts, PS.put]) bp _ _ _ _ HBY3.out).mono ?_
          rintro e y4 ⟨rfl, hY4⟩
          have HBY4 := Lib.hid (Blk.upd hY4 HBY3.out id)
          have HY4 := Lib.hid (by ((with_reducible repeat' first | exact Upd.refl _ _ | apply Upd.drew | apply Upd.drewN | apply Upd.alloc | refine Upd.setCell ?_ ?_ | refine Upd.call hY4 ?_ ?_ | refine Upd.call HY3.out ?_ ?_) <;> first | (intro _ _ h; exact h) | (intro _ _ h; exact h.elim) | (intro i h1 h2; exfalso; (try simp only at h2); omega) | (left; rfl) | (right; dsimp only; omega) | (right; omega)) : Upd Non w y4)
          clear hY4
          go_wp2_with fail
          refine (len_spec (sp.tick.puts (whatAt vn V t).wo (whatAt vn V t).va (whatAt vn V t).er) ⟨okt.pos, okt.le, okt.now⟩ bp _ (by ((with_reducible repeat' first | apply Blk.drew | apply Blk.drewN | apply Blk.alloc | apply Blk.set | refine Blk.set_ne ?_ ?_) <;> first | with_reducible exact HBY4.out | omega | (dsimp only; omega)))).mono ?_
          rintro e x1 ⟨rfl, hX1⟩
          have HB1 := Lib.hid (Blk.upd hX1 (by ((with_reducible repeat' first | apply Blk.drew | apply Blk.drewN | apply Blk.alloc | apply Blk.set | refine Blk.set_ne ?_ ?_) <;> first | with_reducible exact HBY4.out | omega | (dsimp only; omega)) : Blk _ bp ((sp.tick.puts (whatAt vn V t).wo (whatAt vn V t).va (whatAt vn V t).er)).enc 96) id)
          have HX1 := Lib.hid (by ((with_reducible repeat' first | exact Upd.refl _ _ | apply Upd.drew | apply Upd.drewN | apply Upd.alloc | refine Upd.setCell ?_ ?_ | refine Upd.call hX1 ?_ ?_ | refine Upd.call HY4.out ?_ ?_) <;> first | (intro _ _ h; exact h) | (intro _ _ h; exact h.elim) | (intro i h1 h2; exfalso; (try simp only at h2); omega) | (left; rfl) | (right; dsimp only; omega) | (right; omega)) : Upd Non w x1)
          clear hX1
          have hnl : (((sp.tick.puts (whatAt vn V t).wo (whatAt vn V t).va (whatAt vn V t).er)).upto ((sp.tick.puts (whatAt vn V t).wo (whatAt vn V t).va (whatAt vn V t).er)).lat).length ≤ L := Nat.le_trans (PS.upto_le _ _) (Nat.le_of_eq ip.lat)
          have hil : ((sp.tick.puts (whatAt vn V t).wo (whatAt vn V t).va (whatAt vn V t).er)).idle ≤ L := Nat.le_trans (PS.idle_le _) (Nat.le_of_eq ip.lat)
          have hboth := PS.both ((sp.tick.puts (whatAt vn V t).wo (whatAt vn V t).va (whatAt vn V t).er))
          generalize hNN : (((sp.tick.puts (whatAt vn V t).wo (whatAt vn V t).va (whatAt vn V t).er)).upto ((sp.tick.puts (whatAt vn V t).wo (whatAt vn V t).va (whatAt vn V t).er)).lat).length = nn at *
          have HNN := Lib.hid hNN; clear hNN
          generalize hII : ((sp.tick.puts (whatAt vn V t).wo (whatAt vn V t).va (whatAt vn V t).er)).idle = ii at *
          have HII := Lib.hid hII; clear hII
          have k20 : ¬ (L : Int) < nn := by omega
          have k21 : ¬ (L : Int) < ii := by omega
          go_wp2_with fail
          refine (idle_spec (sp.tick.puts (whatAt vn V t).wo (whatAt vn V t).va (whatAt vn V t).er) ⟨okt.pos, okt.le, okt.now⟩ bp _ HB1.out).mono ?_
          rintro e x2 ⟨rfl, m, rfl⟩
          rw [HII.out]
          go_wp2_with fail
          refine (len_spec (sp.tick.puts (whatAt vn V t).wo (whatAt vn V t).va (whatAt vn V t).er) ⟨okt.pos, okt.le, okt.now⟩ bp _ (by ((with_reducible repeat' first | apply Blk.drew | apply Blk.drewN | apply Blk.alloc | apply Blk.set | refine Blk.set_ne ?_ ?_) <;> first | with_reducible exact HB1.out | omega | (dsimp only; omega)))).mono ?_
          rintro e x3 ⟨rfl, hX3⟩
          rw [HNN.out]
          have HB3 := Lib.hid (Blk.upd hX3 (by ((with_reducible repeat' first | apply Blk.drew | apply Blk.drewN | apply Blk.alloc | apply Blk.set | refine Blk.set_ne ?_ ?_) <;> first | with_reducible exact HB1.out | omega | (dsimp only; omega)) : Blk _ bp ((sp.tick.puts (whatAt vn V t).wo (whatAt vn V t).va (whatAt vn V t).er)).enc 96) id)
          have HX3 := Lib.hid (by ((with_reducible repeat' first | exact Upd.refl _ _ | apply Upd.drew | apply Upd.drewN | apply Upd.alloc | refine Upd.setCell ?_ ?_ | refine Upd.call hX3 ?_ ?_ | refine Upd.call HX1.out ?_ ?_) <;> first | (intro _ _ h; exact h) | (intro _ _ h; exact h.elim) | (intro i h1 h2; exfalso; (try simp only at h2); omega) | (left; rfl) | (right; dsimp only; omega) | (right; omega)) : Upd Non w x3)
          clear hX3
          rcases hboth with ⟨hi0, hn0⟩ | ⟨hi0, hn0⟩
          all_goals
            first | (subst hi0; subst hn0) | (have k22 : (0 : Int) < ii := by omega
                                              have k23 : (0 : Int) < nn := by omega)
            go_wp2_with fail
            refine (idle_spec (sp.tick.puts (whatAt vn V t).wo (whatAt vn V t).va (whatAt vn V t).er) ⟨okt.pos, okt.le, okt.now⟩ bp _ HB3.out).mono ?_
            rintro e x4 ⟨rfl, m4, rfl⟩
            rw [HII.out]
            go_wp2_with fail
            go_roundw
            case rel => exact ⟨t + 1, (sp.tick.puts (whatAt vn V t).wo (whatAt vn V t).va (whatAt vn V t).er), by omega, by go_num, PInv.step_put ip h0 ⟨true, (whatAt vn V t).wo, (whatAt vn V t).va, (whatAt vn V t).er⟩ (by rw [HOL.out, if_pos (by simp [putL, htn, HPt.out])]; unfold whatAt; split <;> rfl), by ((with_reducible repeat' first | apply Blk.drew | apply Blk.drewN | apply Blk.alloc | apply Blk.set | refine Blk.set_ne ?_ ?_) <;> first | with_reducible exact HB3.out | omega | (dsimp only; omega)), by ((with_reducible repeat' first | exact Upd.refl _ _ | apply Upd.drew | apply Upd.drewN | apply Upd.alloc | refine Upd.setCell ?_ ?_ | refine Upd.call HX3.out ?_ ?_) <;> first | (intro _ _ h; exact h) | (intro _ _ h; exact h.elim) | (intro i h1 h2; exfalso; (try simp only at h2); omega) | (left; rfl) | (right; dsimp only; omega) | (right; omega))⟩
            case measure => simp [intOf]; omega
      · have k10 : ¬ (t : Int) < pn := by omega
        go_wp2_with fail
        refine (len_spec sp.tick okt bp _ (by ((with_reducible repeat' first | apply Blk.drew | apply Blk.drewN | apply Blk.alloc | apply Blk.set | refine Blk.set_ne ?_ ?_) <;> first | with_reducible exact HBP1.out | omega | (dsimp only; omega)))).mono ?_
        rintro e x1 ⟨rfl, hX1⟩
        have HB1 := Lib.hid (Blk.upd hX1 (by ((with_reducible repeat' first | apply Blk.drew | apply Blk.drewN | apply Blk.alloc | apply Blk.set | refine Blk.set_ne ?_ ?_) <;> first | with_reducible exact HBP1.out | omega | (dsimp only; omega)) : Blk _ bp (sp.tick).enc 96) id)
        have HX1 := Lib.hid (by ((with_reducible repeat' first | exact Upd.refl _ _ | apply Upd.drew | apply Upd.drewN | apply Upd.alloc | refine Upd.setCell ?_ ?_ | refine Upd.call hX1 ?_ ?_ | refine Upd.call HV1.out ?_ ?_) <;> first | (intro _ _ h; exact h) | (intro _ _ h; exact h.elim) | (intro i h1 h2; exfalso; (try simp only at h2); omega) | (left; rfl) | (right; dsimp only; omega) | (right; omega)) : Upd Non w x1)
        clear hX1
        have hnl : ((sp.tick).upto (sp.tick).lat).length ≤ L := Nat.le_trans (PS.upto_le _ _) (Nat.le_of_eq ip.lat)
        have hil : (sp.tick).idle ≤ L := Nat.le_trans (PS.idle_le _) (Nat.le_of_eq ip.lat)
        have hboth := PS.both (sp.tick)
        generalize hNN : ((sp.tick).upto (sp.tick).lat).length = nn at *
        have HNN := Lib.hid hNN; clear hNN
        generalize hII : (sp.tick).idle = ii at *
        have HII := Lib.hid hII; clear hII
        have k20 : ¬ (L : Int) < nn := by omega
        have k21 : ¬ (L : Int) < ii := by omega
        go_wp2_with fail
        refine (idle_spec sp.tick okt bp _ HB1.out).mono ?_
        rintro e x2 ⟨rfl, m, rfl⟩
        rw [HII.out]
        go_wp2_with fail
        refine (len_spec sp.tick okt bp _ (by ((with_reducible repeat' first | apply Blk.drew | apply Blk.drewN | apply Blk.alloc | apply Blk.set | refine Blk.set_ne ?_ ?_) <;> first | with_reducible exact HB1.out | omega | (dsimp only; omega)))).mono ?_
        rintro e x3 ⟨rfl, hX3⟩
        rw [HNN.out]
        have HB3 := Lib.hid (Blk.upd hX3 (by ((with_reducible repeat' first | apply Blk.drew | apply Blk.drewN | apply Blk.alloc | apply Blk.set | refine Blk.set_ne ?_ ?_) <;> first | with_reducible exact HB1.out | omega | (dsimp only; omega)) : Blk _ bp (sp.tick).enc 96) id)
        have HX3 := Lib.hid (by ((with_reducible repeat' first | exact Upd.refl _ _ | apply Upd.drew | apply Upd.drewN | apply Upd.alloc | refine Upd.setCell ?_ ?_ | refine Upd.call hX3 ?_ ?_ | refine Upd.call HX1.out ?_ ?_) <;> first | (intro _ _ h; exact h) | (intro _ _ h; exact h.elim) | (intro i h1 h2; exfalso; (try simp only at h2); omega) | (left; rfl) | (right; dsimp only; omega) | (right; omega)) : Upd Non w x3)
        clear hX3
        rcases hboth with ⟨hi0, hn0⟩ | ⟨hi0, hn0⟩
        all_goals
          first | (subst hi0; subst hn0) | (have k22 : (0 : Int) < ii := by omega
                                            have k23 : (0 : Int) < nn := by omega)
          go_wp2_with fail
          refine (idle_spec sp.tick okt bp _ HB3.out).mono ?_
          rintro e x4 ⟨rfl, m4, rfl⟩
          rw [HII.out]
          go_wp2_with fail
          go_roundw
          case rel => exact ⟨t + 1, sp.tick, by omega, by go_num, PInv.step ip h0 (by rw [HOL.out, if_neg]; simp [putL, htn]), by ((with_reducible repeat' first | apply Blk.drew | apply Blk.drewN | apply Blk.alloc | apply Blk.set | refine Blk.set_ne ?_ ?_) <;> first | with_reducible exact HB3.out | omega | (dsimp only; omega)), by ((with_reducible repeat' first | exact Upd.refl _ _ | apply Upd.drew | apply Upd.drewN | apply Upd.alloc | refine Upd.setCell ?_ ?_ | refine Upd.call HX3.out ?_ ?_) <;> first | (intro _ _ h; exact h) | (intro _ _ h; exact h.elim) | (intro i h1 h2; exfalso; (try simp only at h2); omega) | (left; rfl) | (right; dsimp only; omega) | (right; omega))⟩
          case measure => simp [intOf]; omega
    · obtain ⟨u, hu⟩ : ∃ u, u = t - L := ⟨_, rfl⟩
      have k9 : (t : Int) - L = (u : Int) := by omega
      have hupn : u < pn := by omega
      have k12 : (u : Int) < pn := by omega
      have k13 : (L : Int) ≤ t := by omega
      have hcu : c = if putL pn P u = true then whatAt vn V u else PC.no := by rw [HC.out, show t = u + L by omega, HOL.out]
      clear hu
      have pl : pb < v1.heap.size := by omega
      have cU := HCELL.out _ HV1 u hupn
      cases hPu : P u
      · have hcn : c = PC.no := by rw [hcu, if_neg]; simp [putL, hPu]
        rw [hPu] at cU
        have HPu := Lib.hid hPu; clear hPu hcu
        subst hcn
        by_cases htn : t < pn
        · have k10 : (t : Int) < pn := by omega
          cases hPt : P t
          · have HPt := Lib.hid hPt; clear hPt
            have cP := HCELL.out _ HV1 t htn
            rw [HPt.out] at cP
            go_wp2_with fail
            refine (len_spec sp.tick okt bp _ (by ((with_reducible repeat' first | apply Blk.drew | apply Blk.drewN | apply Blk.alloc | apply Blk.set | refine Blk.set_ne ?_ ?_) <;> first | with_reducible exact HBP1.out | omega | (dsimp only; omega)))).mono ?_
            rintro e x1 ⟨rfl, hX1⟩
            have HB1 := Lib.hid (Blk.upd hX1 (by ((with_reducible repeat' first | apply Blk.drew | apply Blk.drewN | apply Blk.alloc | apply Blk.set | refine Blk.set_ne ?_ ?_) <;> first | with_reducible exact HBP1.out | omega | (dsimp only; omega)) : Blk _ bp (sp.tick).enc 96) id)
            have HX1 := Lib.hid (by ((with_reducible repeat' first | exact Upd.refl _ _ | apply Upd.drew | apply Upd.drewN | apply Upd.alloc | refine Upd.setCell ?_ ?_ | refine Upd.call hX1 ?_ ?_ | refine Upd.call HV1.out ?_ ?_) <;> first | (intro _ _ h; exact h) | (intro _ _ h; exact h.elim) | (intro i h1 h2; exfalso; (try simp only at h2); omega) | (left; rfl) | (right; dsimp only; omega) | (right; omega)) : Upd Non w x1)
            clear hX1
            have hnl : ((sp.tick).upto (sp.tick).lat).length ≤ L := Nat.le_trans (PS.upto_le _ _) (Nat.le_of_eq ip.lat)
            have hil : (sp.tick).idle ≤ L := Nat.le_trans (PS.idle_le _) (Nat.le_of_eq ip.lat)
            have hboth := PS.both (sp.tick)
            generalize hNN : ((sp.tick).upto (sp.tick).lat).length = nn at *
            have HNN := Lib.hid hNN; clear hNN
            generalize hII : (sp.tick).idle = ii at *
            have HII := Lib.hid hII; clear hII
            have k20 : ¬ (L : Int) < nn := by omega
            have k21 : ¬ (L : Int) < ii := by omega
            go_wp2_with fail
            refine (idle_spec sp.tick okt bp _ HB1.out).mono ?_
            rintro e x2 ⟨rfl, m, rfl⟩
            rw [HII.out]
            go_wp2_with fail
            refine (len_spec sp.tick okt bp _ (by ((with_reducible repeat' first | apply Blk.drew | apply Blk.drewN | apply Blk.alloc | apply Blk.set | refine Blk.set_ne ?_ ?_) <;> first | with_reducible exact HB1.out | omega | (dsimp only; omega)))).mono ?_
            rintro e x3 ⟨rfl, hX3⟩
            rw [HNN.out]
            have HB3 := Lib.hid (Blk.upd hX3 (by ((with_reducible repeat' first | apply Blk.drew | apply Blk.drewN | apply Blk.alloc | apply Blk.set | refine Blk.set_ne ?_ ?_) <;> first | with_reducible exact HB1.out | omega | (dsimp only; omega)) : Blk _ bp (sp.tick).enc 96) id)
            have HX3 := Lib.hid (by ((with_reducible repeat' first | exact Upd.refl _ _ | apply Upd.drew | apply Upd.drewN | apply Upd.alloc | refine Upd.setCell ?_ ?_ | refine Upd.call hX3 ?_ ?_ | refine Upd.call HX1.out ?_ ?_) <;> first | (intro _ _ h; exact h) | (intro _ _ h; exact h.elim) | (intro i h1 h2; exfalso; (try simp only at h2); omega) | (left; rfl) | (right; dsimp only; omega) | (right; omega)) : Upd Non w x3)
            clear hX3
            rcases hboth with ⟨hi0, hn0⟩ | ⟨hi0, hn0⟩
            all_goals
              first | (subst hi0; subst hn0) | (have k22 : (0 : Int) < ii := by omega
                                                have k23 : (0 : Int) < nn := by omega)
              go_wp2_with fail
              refine (idle_spec sp.tick okt bp _ HB3.out).mono ?_
              rintro e x4 ⟨rfl, m4, rfl⟩
              rw [HII.out]
              go_wp2_with fail
              go_roundw
              case rel => exact ⟨t + 1, sp.tick, by omega, by go_num, PInv.step ip h0 (by rw [HOL.out, if_neg]; simp [putL, htn, HPt.out]), by ((with_reducible repeat' first | apply Blk.drew | apply Blk.drewN | apply Blk.alloc | apply Blk.set | refine Blk.set_ne ?_ ?_) <;> first | with_reducible exact HB3.out | omega | (dsimp only; omega)), by ((with_reducible repeat' first | exact Upd.refl _ _ | apply Upd.drew | apply Upd.drewN | apply Upd.alloc | refine Upd.setCell ?_ ?_ | refine Upd.call HX3.out ?_ ?_) <;> first | (intro _ _ h; exact h) | (intro _ _ h; exact h.elim) | (intro i h1 h2; exfalso; (try simp only at h2); omega) | (left; rfl) | (right; dsimp only; omega) | (right; omega))⟩
              case measure => simp [intOf]; omega
          · have HPt := Lib.hid hPt; clear hPt
            have cP := HCELL.out _ HV1 t htn
            rw [HPt.out] at cP
            go_wp2_with fail
            refine (due_spec t (by omega) VA vn vc V _ (fun h => by
              obtain ⟨b, o, hA, hc⟩ := HV.out h
              exact ⟨b, o, hA, fun j hj => (show Upd Non w _ by ((with_reducible repeat' first | exact Upd.refl _ _ | apply Upd.drew | apply Upd.drewN | apply Upd.alloc | refine Upd.setCell ?_ ?_ | refine Upd.call HV1.out ?_ ?_) <;> first | (intro _ _ h; exact h) | (intro _ _ h; exact h.elim) | (intro i h1 h2; exfalso; (try simp only at h2); omega) | (left; rfl) | (right; dsimp only; omega) | (right; omega))).cell_eq id (hc j hj)⟩) HVN.out).mono ?_
            rintro e y1 ⟨rfl, hY1⟩
            have HBY1 := Lib.hid (Blk.upd hY1 (by ((with_reducible repeat' first | apply Blk.drew | apply Blk.drewN | apply Blk.alloc | apply Blk.set | refine Blk.set_ne ?_ ?_) <;> first | with_reducible exact HBP1.out | omega | (dsimp only; omega)) : Blk _ bp sp.tick.enc 96) id)
            have HY1 := Lib.hid (by ((with_reducible repeat' first | exact Upd.refl _ _ | apply Upd.drew | apply Upd.drewN | apply Upd.alloc | refine Upd.setCell ?_ ?_ | refine Upd.call hY1 ?_ ?_ | refine Upd.call HV1.out ?_ ?_) <;> first | (intro _ _ h; exact h) | (intro _ _ h; exact h.elim) | (intro i h1 h2; exfalso; (try simp only at h2); omega) | (left; rfl) | (right; dsimp only; omega) | (right; omega)) : Upd Non w y1)
            clear hY1
            go_wp2_with fail
            refine (put_ok sp.tick okt rfl (PS.tick_clear sp) bp _ _ _ _ HBY1.out).mono ?_
            rintro e y2 ⟨rfl, hb2, hY2⟩
            have HBY2 := Lib.hid hb2; clear hb2
            have HY2 := Lib.hid (by ((with_reducible repeat' first | exact Upd.refl _ _ | apply Upd.drew | apply Upd.drewN | apply Upd.alloc | refine Upd.setCell ?_ ?_ | refine Upd.call hY2 ?_ ?_ | refine Upd.call HY1.out ?_ ?_) <;> first | (intro _ _ h; exact h) | (intro _ _ h; exact h.elim) | (intro i h1 h2; exfalso; (try simp only at h2); omega) | (left; rfl) | (right; dsimp only; omega) | (right; omega)) : Upd Non w y2)
            clear hY2
            have kt : IntKind.i64.wrap ((t : Int) + 1) = ((t + 1 : Nat) : Int) := by rw [IntWalk.i64_in _ (by omega)]; omega
            go_wp2_with fail
            refine (due_spec (t + 1) (by omega) VA vn vc V _ (fun h => by
              obtain ⟨b, o, hA, hc⟩ := HV.out h
              exact ⟨b, o, hA, fun j hj => (show Upd Non w _ by ((with_reducible repeat' first | exact Upd.refl _ _ | apply Upd.drew | apply Upd.drewN | apply Upd.alloc | refine Upd.setCell ?_ ?_ | refine Upd.call HY2.out ?_ ?_) <;> first | (intro _ _ h; exact h) | (intro _ _ h; exact h.elim) | (intro i h1 h2; exfalso; (try simp only at h2); omega) | (left; rfl) | (right; dsimp only; omega) | (right; omega))).cell_eq id (hc j hj)⟩) HVN.out).mono ?_
            rintro e y3 ⟨rfl, hY3⟩
            have HBY3 := Lib.hid (Blk.upd hY3 (by ((with_reducible repeat' first | apply Blk.drew | apply Blk.drewN | apply Blk.alloc | apply Blk.set | refine Blk.set_ne ?_ ?_) <;> first | with_reducible exact HBY2.out | omega | (dsimp only; omega)) : Blk _ bp _ 96) id)
            have HY3 := Lib.hid (by ((with_reducible repeat' first | exact Upd.refl _ _ | apply Upd.drew | apply Upd.drewN | apply Upd.alloc | refine Upd.setCell ?_ ?_ | refine Upd.call hY3 ?_ ?_ | refine Upd.call HY2.out ?_ ?_) <;> first | (intro _ _ h; exact h) | (intro _ _ h; exact h.elim) | (intro i h1 h2; exfalso; (try simp only at h2); omega) | (left; rfl) | (right; dsimp only; omega) | (right; omega)) : Upd Non w y3)
            clear hY3
            go_wp2_with fail
            refine (put_full (sp.tick.puts (whatAt vn V t).wo (whatAt vn V t).va (whatAt vn V t).er) ⟨okt.pos, okt.le, okt.now⟩ rfl (by simp [PS.puts, PS.put]) bp _ _ _ _ HBY3.out).mono ?_
            rintro e y4 ⟨rfl, hY4⟩
            have HBY4 := Lib.hid (Blk.upd hY4 HBY3.out id)
            have HY4 := Lib.hid (by ((with_reducible repeat' first | exact Upd.refl _ _ | apply Upd.drew | apply Upd.drewN | apply Upd.alloc | refine Upd.setCell ?_ ?_ | refine Upd.call hY4 ?_ ?_ | refine Upd.call HY3.out ?_ ?_) <;> first | (intro _ _ h; exact h) | (intro _ _ h; exact h.elim) | (intro i h1 h2; exfalso; (try simp only at h2); omega) | (left; rfl) | (right; dsimp only; omega) | (right; omega)) : Upd Non w y4)
            clear hY4
            go_wp2_with fail
            refine (len_spec (sp.tick.puts (whatAt vn V t).wo (whatAt vn V t).va (whatAt vn V t).er) ⟨okt.pos, okt.le, okt.now⟩ bp _ (by ((with_reducible repeat' first | apply Blk.drew | apply Blk.drewN | apply Blk.alloc | apply Blk.set | refine Blk.set_ne ?_ ?_) <;> first | with_reducible exact HBY4.out | omega | (dsimp only; omega)))).mono ?_
            rintro e x1 ⟨rfl, hX1⟩
            have HB1 := Lib.hid (Blk.upd hX1 (by ((with_reducible repeat' first | apply Blk.drew | apply Blk.drewN | apply Blk.alloc | apply Blk.set | refine Blk.set_ne ?_ ?_) <;> first | with_reducible exact HBY4.out | omega | (dsimp only; omega)) : Blk _ bp ((sp.tick.puts (whatAt vn V t).wo (whatAt vn V t).va (whatAt vn V t).er)).enc 96) id)
            have HX1 := Lib.hid (by ((with_reducible repeat' first | exact Upd.refl _ _ | apply Upd.drew | apply Upd.drewN | apply Upd.alloc | refine Upd.setCell ?_ ?_ | refine Upd.call hX1 ?_ ?_ | refine Upd.call HY4.out ?_ ?_) <;> first | (intro _ _ h; exact h) | (intro _ _ h; exact h.elim) | (intro i h1 h2; exfalso; (try simp only at h2); omega) | (left; rfl) | (right; dsimp only; omega) | (right; omega)) : Upd Non w x1)
            clear hX1
            have hnl : (((sp.tick.puts (whatAt vn V t).wo (whatAt vn V t).va (whatAt vn V t).er)).upto ((sp.tick.puts (whatAt vn V t).wo (whatAt vn V t).va (whatAt vn V t).er)).lat).length ≤ L := Nat.le_trans (PS.upto_le _ _) (Nat.le_of_eq ip.lat)
            have hil : ((sp.tick.puts (whatAt vn V t).wo (whatAt vn V t).va (whatAt vn V t).er)).idle ≤ L := Nat.le_trans (PS.idle_le _) (Nat.le_of_eq ip.lat)
            have hboth := PS.both ((sp.tick.puts (whatAt vn V t).wo (whatAt vn V t).va (whatAt vn V t).er))
            generalize hNN : (((sp.tick.puts (whatAt vn V t).wo (whatAt vn V t).va (whatAt vn V t).er)).upto ((sp.tick.puts (whatAt vn V t).wo (whatAt vn V t).va (whatAt vn V t).er)).lat).length = nn at *
            have HNN := Lib.hid hNN; clear hNN
            generalize hII : ((sp.tick.puts (whatAt vn V t).wo (whatAt vn V t).va (whatAt vn V t).er)).idle = ii at *
            have HII := Lib.hid hII; clear hII
            have k20 : ¬ (L : Int) < nn := by omega
            have k21 : ¬ (L : Int) < ii := by omega
            go_wp2_with fail
            refine (idle_spec (sp.tick.puts (whatAt vn V t).wo (whatAt vn V t).va (whatAt vn V t).er) ⟨okt.pos, okt.le, okt.now⟩ bp _ HB1.out).mono ?_
            rintro e x2 ⟨rfl, m, rfl⟩
            rw [HII.out]
            go_wp2_with fail
            refine (len_spec (sp.tick.puts (whatAt vn V t).wo (whatAt vn V t).va (whatAt vn V t).er) ⟨okt.pos, okt.le, okt.now⟩ bp _ (by ((with_reducible repeat' first | apply Blk.drew | apply Blk.drewN | apply Blk.alloc | apply Blk.set | refine Blk.set_ne ?_ ?_) <;> first | with_reducible exact HB1.out | omega | (dsimp only; omega)))).mono ?_
            rintro e x3 ⟨rfl, hX3⟩
            rw [HNN.out]
            have HB3 := Lib.hid (Blk.upd hX3 (by ((with_reducible repeat' first | apply Blk.drew | apply Blk.drewN | apply Blk.alloc | apply Blk.set | refine Blk.set_ne ?_ ?_) <;> first | with_reducible exact HB1.out | omega | (dsimp only; omega)) : Blk _ bp ((sp.tick.puts (whatAt vn V t).wo (whatAt vn V t).va (whatAt vn V t).er)).enc 96) id)
            have HX3 := Lib.hid (by ((with_reducible repeat' first | exact Upd.refl _ _ | apply Upd.drew | apply Upd.drewN | apply Upd.alloc | refine Upd.setCell ?_ ?_ | refine Upd.call hX3 ?_ ?_ | refine Upd.call HX1.out ?_ ?_) <;> first | (intro _ _ h; exact h) | (intro _ _ h; exact h.elim) | (intro i h1 h2; exfalso; (try simp only at h2); omega) | (left; rfl) | (right; dsimp only; omega) | (right; omega)) : Upd Non w x3)
            clear hX3
            rcases hboth with ⟨hi0, hn0⟩ | ⟨hi0, hn0⟩
            all_goals
              first | (subst hi0; subst hn0) | (have k22 : (0 : Int) < ii := by omega
                                                have k23 : (0 : Int) < nn := by omega)
              go_wp2_with fail
              refine (idle_spec (sp.tick.puts (whatAt vn V t).wo (whatAt vn V t).va (whatAt vn V t).er) ⟨okt.pos, okt.le, okt.now⟩ bp _ HB3.out).mono ?_
              rintro e x4 ⟨rfl, m4, rfl⟩
              rw [HII.out]
              go_wp2_with fail
              go_roundw
              case rel => exact ⟨t + 1, (sp.tick.puts (whatAt vn V t).wo (whatAt vn V t).va (whatAt vn V t).er), by omega, by go_num, PInv.step_put ip h0 ⟨true, (whatAt vn V t).wo, (whatAt vn V t).va, (whatAt vn V t).er⟩ (by rw [HOL.out, if_pos (by simp [putL, htn, HPt.out])]; unfold whatAt; split <;> rfl), by ((with_reducible repeat' first | apply Blk.drew | apply Blk.drewN | apply Blk.alloc | apply Blk.set | refine Blk.set_ne ?_ ?_) <;> first | with_reducible exact HB3.out | omega | (dsimp only; omega)), by ((with_reducible repeat' first | exact Upd.refl _ _ | apply Upd.drew | apply Upd.drewN | apply Upd.alloc | refine Upd.setCell ?_ ?_ | refine Upd.call HX3.out ?_ ?_) <;> first | (intro _ _ h; exact h) | (intro _ _ h; exact h.elim) | (intro i h1 h2; exfalso; (try simp only at h2); omega) | (left; rfl) | (right; dsimp only; omega) | (right; omega))⟩
              case measure => simp [intOf]; omega
        · have k10 : ¬ (t : Int) < pn := by omega
          go_wp2_with fail
          refine (len_spec sp.tick okt bp _ (by ((with_reducible repeat' first | apply Blk.drew | apply Blk.drewN | apply Blk.alloc | apply Blk.set | refine Blk.set_ne ?_ ?_) <;> first | with_reducible exact HBP1.out | omega | (dsimp only; omega)))).mono ?_
          rintro e x1 ⟨rfl, hX1⟩
          have HB1 := Lib.hid (Blk.upd hX1 (by ((with_reducible repeat' first | apply Blk.drew | apply Blk.drewN | apply Blk.alloc | apply Blk.set | refine Blk.set_ne ?_ ?_) <;> first | with_reducible exact HBP1.out | omega | (dsimp only; omega)) : Blk _ bp (sp.tick).enc 96) id)
          have HX1 := Lib.hid (by ((with_reducible repeat' first | exact Upd.refl _ _ | apply Upd.drew | apply Upd.drewN | apply Upd.alloc | refine Upd.setCell ?_ ?_ | refine Upd.call hX1 ?_ ?_ | refine Upd.call HV1.out ?_ ?_) <;> first | (intro _ _ h; exact h) | (intro _ _ h; exact h.elim) | (intro i h1 h2; exfalso; (try simp only at h2); omega) | (left; rfl) | (right; dsimp only; omega) | (right; omega)) : Upd Non w x1)
          clear hX1
          have hnl : ((sp.tick).upto (sp.tick).lat).length ≤ L := Nat.le_trans (PS.upto_le _ _) (Nat.le_of_eq ip.lat)
          have hil : (sp.tick).idle ≤ L := Nat.le_trans (PS.idle_le _) (Nat.le_of_eq ip.lat)
          have hboth := PS.both (sp.tick)
          generalize hNN : ((sp.tick).upto (sp.tick).lat).length = nn at *
          have HNN := Lib.hid hNN; clear hNN
          generalize hII : (sp.tick).idle = ii at *
          have HII := Lib.hid hII; clear hII
          have k20 : ¬ (L : Int) < nn := by omega
          have k21 : ¬ (L : Int) < ii := by omega
          go_wp2_with fail
          refine (idle_spec sp.tick okt bp _ HB1.out).mono ?_
          rintro e x2 ⟨rfl, m, rfl⟩
          rw [HII.out]
          go_wp2_with fail
          refine (len_spec sp.tick okt bp _ (by ((with_reducible repeat' first | apply Blk.drew | apply Blk.drewN | apply Blk.alloc | apply Blk.set | refine Blk.set_ne ?_ ?_) <;> first | with_reducible exact HB1.out | omega | (dsimp only; omega)))).mono ?_
          rintro e x3 ⟨rfl, hX3⟩
          rw [HNN.out]
          have HB3 := Lib.hid (Blk.upd hX3 (by ((with_reducible repeat' first | apply Blk.drew | apply Blk.drewN | apply Blk.alloc | apply Blk.set | refine Blk.set_ne ?_ ?_) <;> first | with_reducible exact HB1.out | omega | (dsimp only; omega)) : Blk _ bp (sp.tick).enc 96) id)
          have HX3 := Lib.hid (by ((with_reducible repeat' first | exact Upd.refl _ _ | apply Upd.drew | apply Upd.drewN | apply Upd.alloc | refine Upd.setCell ?_ ?_ | refine Upd.call hX3 ?_ ?_ | refine Upd.call HX1.out ?_ ?_) <;> first | (intro _ _ h; exact h) | (intro _ _ h; exact h.elim) | (intro i h1 h2; exfalso; (try simp only at h2); omega) | (left; rfl) | (right; dsimp only; omega) | (right; omega)) : Upd Non w x3)
          clear hX3
          rcases hboth with ⟨hi0, hn0⟩ | ⟨hi0, hn0⟩
          all_goals
            first | (subst hi0; subst hn0) | (have k22 : (0 : Int) < ii := by omega
                                              have k23 : (0 : Int) < nn := by omega)
            go_wp2_with fail
            refine (idle_spec sp.tick okt bp _ HB3.out).mono ?_
            rintro e x4 ⟨rfl, m4, rfl⟩
            rw [HII.out]
            go_wp2_with fail
            go_roundw
            case rel => exact ⟨t + 1, sp.tick, by omega, by go_num, PInv.step ip h0 (by rw [HOL.out, if_neg]; simp [putL, htn]), by ((with_reducible repeat' first | apply Blk.drew | apply Blk.drewN | apply Blk.alloc | apply Blk.set | refine Blk.set_ne ?_ ?_) <;> first | with_reducible exact HB3.out | omega | (dsimp only; omega)), by ((with_reducible repeat' first | exact Upd.refl _ _ | apply Upd.drew | apply Upd.drewN | apply Upd.alloc | refine Upd.setCell ?_ ?_ | refine Upd.call HX3.out ?_ ?_) <;> first | (intro _ _ h; exact h) | (intro _ _ h; exact h.elim) | (intro i h1 h2; exfalso; (try simp only at h2); omega) | (left; rfl) | (right; dsimp only; omega) | (right; omega))⟩
            case measure => simp [intOf]; omega
      · have hcn : c = whatAt vn V u := by rw [hcu, if_pos]; simp [putL, hPu, hupn]
        rw [hPu] at cU
        have HPu := Lib.hid hPu; clear hPu hcu
        have hcis : c.is = true := by rw [hcn]; exact whatAt_is _ _ _
        rw [hcis]
        have HCN := Lib.hid hcn; clear hcn hcis
        go_wp2_with fail
        refine (due_spec u (by omega) VA vn vc V _ (fun h => by
          obtain ⟨b, o, hA, hc⟩ := HV.out h
          exact ⟨b, o, hA, fun j hj => (show Upd Non w _ by ((with_reducible repeat' first | exact Upd.refl _ _ | apply Upd.drew | apply Upd.drewN | apply Upd.alloc | refine Upd.setCell ?_ ?_ | refine Upd.call HV1.out ?_ ?_) <;> first | (intro _ _ h; exact h) | (intro _ _ h; exact h.elim) | (intro i h1 h2; exfalso; (try simp only at h2); omega) | (left; rfl) | (right; dsimp only; omega) | (right; omega))).cell_eq id (hc j hj)⟩) HVN.out).mono ?_
        rintro e v2 ⟨rfl, hV2⟩
        rw [← HCN.out]
        have hX : Blk v2 v1.heap.size #[.int .i64 c.wo, .int .u32 c.va, .int .i64 c.er] 33 := Blk.upd hV2 (by ((with_reducible repeat' first | apply Blk.new | (refine Blk.newAt ?_; (simp; done)) | apply Blk.drew | apply Blk.drewN | apply Blk.alloc | apply Blk.set | refine Blk.set_ne ?_ ?_) <;> first | omega | (dsimp only; omega))) id
        have hZ : Blk v2 (v1.heap.size + 1) #[.int .i64 0, .int .u32 0, .int .i64 0] 33 := Blk.upd hV2 (by ((with_reducible repeat' first | apply Blk.new | (refine Blk.newAt ?_; (simp; done)) | apply Blk.drew | apply Blk.drewN | apply Blk.alloc | apply Blk.set | refine Blk.set_ne ?_ ?_) <;> first | omega | (dsimp only; omega))) id
        have HBP2 := Lib.hid (Blk.upd hV2 (by ((with_reducible repeat' first | apply Blk.drew | apply Blk.drewN | apply Blk.alloc | apply Blk.set | refine Blk.set_ne ?_ ?_) <;> first | with_reducible exact HBP1.out | omega | (dsimp only; omega)) : Blk _ bp sp.tick.enc 96) id)
        have HV2 := Lib.hid (by ((with_reducible repeat' first | exact Upd.refl _ _ | apply Upd.drew | apply Upd.drewN | apply Upd.alloc | refine Upd.setCell ?_ ?_ | refine Upd.call hV2 ?_ ?_ | refine Upd.call HV1.out ?_ ?_) <;> first | (intro _ _ h; exact h) | (intro _ _ h; exact h.elim) | (intro i h1 h2; exfalso; (try simp only at h2); omega) | (left; rfl) | (right; dsimp only; omega) | (right; omega)) : Upd Non w v2)
        have hs2 := hV2.size
        simp only [World.size_alloc] at hs2
        clear hV2
        have z1 : v1.heap.size < v2.heap.size := by omega
        have z2 : v1.heap.size + 1 < v2.heap.size := by omega
        have pl2 : pb < v2.heap.size := by omega
        have cU2 := HCELL.out _ HV2 u hupn
        rw [HPu.out] at cU2
        have x0 : (v2).cell? ⟨v1.heap.size, 0, none⟩ = some (.int .i64 c.wo) := hX.cell 0 rfl; have xf0 : (v2).frozen? ⟨v1.heap.size, 0, none⟩ = false := hX.frozen 0; have x1 : (v2).cell? ⟨v1.heap.size, 1, none⟩ = some (.int .u32 c.va) := hX.cell 1 rfl; have xf1 : (v2).frozen? ⟨v1.heap.size, 1, none⟩ = false := hX.frozen 1; have x2 : (v2).cell? ⟨v1.heap.size, 2, none⟩ = some (.int .i64 c.er) := hX.cell 2 rfl; have xf2 : (v2).frozen? ⟨v1.heap.size, 2, none⟩ = false := hX.frozen 2
        have z0 : (v2).cell? ⟨(v1.heap.size + 1), 0, none⟩ = some (.int .i64 0) := hZ.cell 0 rfl; have zf0 : (v2).frozen? ⟨(v1.heap.size + 1), 0, none⟩ = false := hZ.frozen 0; have z1 : (v2).cell? ⟨(v1.heap.size + 1), 1, none⟩ = some (.int .u32 0) := hZ.cell 1 rfl; have zf1 : (v2).frozen? ⟨(v1.heap.size + 1), 1, none⟩ = false := hZ.frozen 1; have z2 : (v2).cell? ⟨(v1.heap.size + 1), 2, none⟩ = some (.int .i64 0) := hZ.cell 2 rfl; have zf2 : (v2).frozen? ⟨(v1.heap.size + 1), 2, none⟩ = false := hZ.frozen 2
        clear hX hZ
        by_cases htn : t < pn
        · have k10 : (t : Int) < pn := by omega
          cases hPt : P t
          · have HPt := Lib.hid hPt; clear hPt
            have cP := HCELL.out _ HV2 t htn
            rw [HPt.out] at cP
            go_wp2_with fail
            refine (len_spec sp.tick okt bp _ (by ((with_reducible repeat' first | apply Blk.drew | apply Blk.drewN | apply Blk.alloc | apply Blk.set | refine Blk.set_ne ?_ ?_) <;> first | with_reducible exact HBP2.out | omega | (dsimp only; omega)))).mono ?_
            rintro e x1 ⟨rfl, hX1⟩
            have HB1 := Lib.hid (Blk.upd hX1 (by ((with_reducible repeat' first | apply Blk.drew | apply Blk.drewN | apply Blk.alloc | apply Blk.set | refine Blk.set_ne ?_ ?_) <;> first | with_reducible exact HBP2.out | omega | (dsimp only; omega)) : Blk _ bp (sp.tick).enc 96) id)
            have HX1 := Lib.hid (by ((with_reducible repeat' first | exact Upd.refl _ _ | apply Upd.drew | apply Upd.drewN | apply Upd.alloc | refine Upd.setCell ?_ ?_ | refine Upd.call hX1 ?_ ?_ | refine Upd.call HV2.out ?_ ?_) <;> first | (intro _ _ h; exact h) | (intro _ _ h; exact h.elim) | (intro i h1 h2; exfalso; (try simp only at h2); omega) | (left; rfl) | (right; dsimp only; omega) | (right; omega)) : Upd Non w x1)
            clear hX1
            have hnl : ((sp.tick).upto (sp.tick).lat).length ≤ L := Nat.le_trans (PS.upto_le _ _) (Nat.le_of_eq ip.lat)
            have hil : (sp.tick).idle ≤ L := Nat.le_trans (PS.idle_le _) (Nat.le_of_eq ip.lat)
            have hboth := PS.both (sp.tick)
            generalize hNN : ((sp.tick).upto (sp.tick).lat).length = nn at *
            have HNN := Lib.hid hNN; clear hNN
            generalize hII : (sp.tick).idle = ii at *
            have HII := Lib.hid hII; clear hII
            have k20 : ¬ (L : Int) < nn := by omega
            have k21 : ¬ (L : Int) < ii := by omega
            go_wp2_with fail
            refine (idle_spec sp.tick okt bp _ HB1.out).mono ?_
            rintro e x2 ⟨rfl, m, rfl⟩
            rw [HII.out]
            go_wp2_with fail
            refine (len_spec sp.tick okt bp _ (by ((with_reducible repeat' first | apply Blk.drew | apply Blk.drewN | apply Blk.alloc | apply Blk.set | refine Blk.set_ne ?_ ?_) <;> first | with_reducible exact HB1.out | omega | (dsimp only; omega)))).mono ?_
            rintro e x3 ⟨rfl, hX3⟩
            rw [HNN.out]
            have HB3 := Lib.hid (Blk.upd hX3 (by ((with_reducible repeat' first | apply Blk.drew | apply Blk.drewN | apply Blk.alloc | apply Blk.set | refine Blk.set_ne ?_ ?_) <;> first | with_reducible exact HB1.out | omega | (dsimp only; omega)) : Blk _ bp (sp.tick).enc 96) id)
            have HX3 := Lib.hid (by ((with_reducible repeat' first | exact Upd.refl _ _ | apply Upd.drew | apply Upd.drewN | apply Upd.alloc | refine Upd.setCell ?_ ?_ | refine Upd.call hX3 ?_ ?_ | refine Upd.call HX1.out ?_ ?_) <;> first | (intro _ _ h; exact h) | (intro _ _ h; exact h.elim) | (intro i h1 h2; exfalso; (try simp only at h2); omega) | (left; rfl) | (right; dsimp only; omega) | (right; omega)) : Upd Non w x3)
            clear hX3
            rcases hboth with ⟨hi0, hn0⟩ | ⟨hi0, hn0⟩
            all_goals
              first | (subst hi0; subst hn0) | (have k22 : (0 : Int) < ii := by omega
                                                have k23 : (0 : Int) < nn := by omega)
              go_wp2_with fail
              refine (idle_spec sp.tick okt bp _ HB3.out).mono ?_
              rintro e x4 ⟨rfl, m4, rfl⟩
              rw [HII.out]
              go_wp2_with fail
              go_roundw
              case rel => exact ⟨t + 1, sp.tick, by omega, by go_num, PInv.step ip h0 (by rw [HOL.out, if_neg]; simp [putL, htn, HPt.out]), by ((with_reducible repeat' first | apply Blk.drew | apply Blk.drewN | apply Blk.alloc | apply Blk.set | refine Blk.set_ne ?_ ?_) <;> first | with_reducible exact HB3.out | omega | (dsimp only; omega)), by ((with_reducible repeat' first | exact Upd.refl _ _ | apply Upd.drew | apply Upd.drewN | apply Upd.alloc | refine Upd.setCell ?_ ?_ | refine Upd.call HX3.out ?_ ?_) <;> first | (intro _ _ h; exact h) | (intro _ _ h; exact h.elim) | (intro i h1 h2; exfalso; (try simp only at h2); omega) | (left; rfl) | (right; dsimp only; omega) | (right; omega))⟩
              case measure => simp [intOf]; omega
          · have HPt := Lib.hid hPt; clear hPt
            have cP := HCELL.out _ HV2 t htn
            rw [HPt.out] at cP
            go_wp2_with fail
            refine (due_spec t (by omega) VA vn vc V _ (fun h => by
              obtain ⟨b, o, hA, hc⟩ := HV.out h
              exact ⟨b, o, hA, fun j hj => (show Upd Non w _ by ((with_reducible repeat' first | exact Upd.refl _ _ | apply Upd.drew | apply Upd.drewN | apply Upd.alloc | refine Upd.setCell ?_ ?_ | refine Upd.call HV2.out ?_ ?_) <;> first | (intro _ _ h; exact h) | (intro _ _ h; exact h.elim) | (intro i h1 h2; exfalso; (try simp only at h2); omega) | (left; rfl) | (right; dsimp only; omega) | (right; omega))).cell_eq id (hc j hj)⟩) HVN.out).mono ?_
            rintro e y1 ⟨rfl, hY1⟩
            have HBY1 := Lib.hid (Blk.upd hY1 (by ((with_reducible repeat' first | apply Blk.drew | apply Blk.drewN | apply Blk.alloc | apply Blk.set | refine Blk.set_ne ?_ ?_) <;> first | with_reducible exact HBP2.out | omega | (dsimp only; omega)) : Blk _ bp sp.tick.enc 96) id)
            have HY1 := Lib.hid (by ((with_reducible repeat' first | exact Upd.refl _ _ | apply Upd.drew | apply Upd.drewN | apply Upd.alloc | refine Upd.setCell ?_ ?_ | refine Upd.call hY1 ?_ ?_ | refine Upd.call HV2.out ?_ ?_) <;> first | (intro _ _ h; exact h) | (intro _ _ h; exact h.elim) | (intro i h1 h2; exfalso; (try simp only at h2); omega) | (left; rfl) | (right; dsimp only; omega) | (right; omega)) : Upd Non w y1)
            clear hY1
            go_wp2_with fail
            refine (put_ok sp.tick okt rfl (PS.tick_clear sp) bp _ _ _ _ HBY1.out).mono ?_
            rintro e y2 ⟨rfl, hb2, hY2⟩
            have HBY2 := Lib.hid hb2; clear hb2
            have HY2 := Lib.hid (by ((with_reducible repeat' first | exact Upd.refl _ _ | apply Upd.drew | apply Upd.drewN | apply Upd.alloc | refine Upd.setCell ?_ ?_ | refine Upd.call hY2 ?_ ?_ | refine Upd.call HY1.out ?_ ?_) <;> first | (intro _ _ h; exact h) | (intro _ _ h; exact h.elim) | (intro i h1 h2; exfalso; (try simp only at h2); omega) | (left; rfl) | (right; dsimp only; omega) | (right; omega)) : Upd Non w y2)
            clear hY2
            have kt : IntKind.i64.wrap ((t : Int) + 1) = ((t + 1 : Nat) : Int) := by rw [IntWalk.i64_in _ (by omega)]; omega
            go_wp2_with fail
            refine (due_spec (t + 1) (by omega) VA vn vc V _ (fun h => by
              obtain ⟨b, o, hA, hc⟩ := HV.out h
              exact ⟨b, o, hA, fun j hj => (show Upd Non w _ by ((with_reducible repeat' first | exact Upd.refl _ _ | apply Upd.drew | apply Upd.drewN | apply Upd.alloc | refine Upd.setCell ?_ ?_ | refine Upd.call HY2.out ?_ ?_) <;> first | (intro _ _ h; exact h) | (intro _ _ h; exact h.elim) | (intro i h1 h2; exfalso; (try simp only at h2); omega) | (left; rfl) | (right; dsimp only; omega) | (right; omega))).cell_eq id (hc j hj)⟩) HVN.out).mono ?_
            rintro e y3 ⟨rfl, hY3⟩
            have HBY3 := Lib.hid (Blk.upd hY3 (by ((with_reducible repeat' first | apply Blk.drew | apply Blk.drewN | apply Blk.alloc | apply Blk.set | refine Blk.set_ne ?_ ?_) <;> first | with_reducible exact HBY2.out | omega | (dsimp only; omega)) : Blk _ bp _ 96) id)
            have HY3 := Lib.hid (by ((with_reducible repeat' first | exact Upd.refl _ _ | apply Upd.drew | apply Upd.drewN | apply Upd.alloc | refine Upd.setCell ?_ ?_ | refine Upd.call hY3 ?_ ?_ | refine Upd.call HY2.out ?_ ?_) <;> first | (intro _ _ h; exact h) | (intro _ _ h; exact h.elim) | (intro i h1 h2; exfalso; (try simp only at h2); omega) | (left; rfl) | (right; dsimp only; omega) | (right; omega)) : Upd Non w y3)
            clear hY3
            go_wp2_with fail
            refine (put_full (sp.tick.puts (whatAt vn V t).wo (whatAt vn V t).va (whatAt vn V t).er) ⟨okt.pos, okt.le, okt.now⟩ rfl (by simp [PS.puts, PS.put]) bp _ _ _ _ HBY3.out).mono ?_
            rintro e y4 ⟨rfl, hY4⟩
            have HBY4 := Lib.hid (Blk.upd hY4 HBY3.out id)
            have HY4 := Lib.hid (by ((with_reducible repeat' first | exact Upd.refl _ _ | apply Upd.drew | apply Upd.drewN | apply Upd.alloc | refine Upd.setCell ?_ ?_ | refine Upd.call hY4 ?_ ?_ | refine Upd.call HY3.out ?_ ?_) <;> first | (intro _ _ h; exact h) | (intro _ _ h; exact h.elim) | (intro i h1 h2; exfalso; (try simp only at h2); omega) | (left; rfl) | (right; dsimp only; omega) | (right; omega)) : Upd Non w y4)
            clear hY4
            go_wp2_with fail
            refine (len_spec (sp.tick.puts (whatAt vn V t).wo (whatAt vn V t).va (whatAt vn V t).er) ⟨okt.pos, okt.le, okt.now⟩ bp _ (by ((with_reducible repeat' first | apply Blk.drew | apply Blk.drewN | apply Blk.alloc | apply Blk.set | refine Blk.set_ne ?_ ?_) <;> first | with_reducible exact HBY4.out | omega | (dsimp only; omega)))).mono ?_
            rintro e x1 ⟨rfl, hX1⟩
            have HB1 := Lib.hid (Blk.upd hX1 (by ((with_reducible repeat' first | apply Blk.drew | apply Blk.drewN | apply Blk.alloc | apply Blk.set | refine Blk.set_ne ?_ ?_) <;> first | with_reducible exact HBY4.out | omega | (dsimp only; omega)) : Blk _ bp ((sp.tick.puts (whatAt vn V t).wo (whatAt vn V t).va (whatAt vn V t).er)).enc 96) id)
            have HX1 := Lib.hid (by ((with_reducible repeat' first | exact Upd.refl _ _ | apply Upd.drew | apply Upd.drewN | apply Upd.alloc | refine Upd.setCell ?_ ?_ | refine Upd.call hX1 ?_ ?_ | refine Upd.call HY4.out ?_ ?_) <;> first | (intro _ _ h; exact h) | (intro _ _ h; exact h.elim) | (intro i h1 h2; exfalso; (try simp only at h2); omega) | (left; rfl) | (right; dsimp only; omega) | (right; omega)) : Upd Non w x1)
            clear hX1
            have hnl : (((sp.tick.puts (whatAt vn V t).wo (whatAt vn V t).va (whatAt vn V t).er)).upto ((sp.tick.puts (whatAt vn V t).wo (whatAt vn V t).va (whatAt vn V t).er)).lat).length ≤ L := Nat.le_trans (PS.upto_le _ _) (Nat.le_of_eq ip.lat)
            have hil : ((sp.tick.puts (whatAt vn V t).wo (whatAt vn V t).va (whatAt vn V t).er)).idle ≤ L := Nat.le_trans (PS.idle_le _) (Nat.le_of_eq ip.lat)
            have hboth := PS.both ((sp.tick.puts (whatAt vn V t).wo (whatAt vn V t).va (whatAt vn V t).er))
            generalize hNN : (((sp.tick.puts (whatAt vn V t).wo (whatAt vn V t).va (whatAt vn V t).er)).upto ((sp.tick.puts (whatAt vn V t).wo (whatAt vn V t).va (whatAt vn V t).er)).lat).length = nn at *
            have HNN := Lib.hid hNN; clear hNN
            generalize hII : ((sp.tick.puts (whatAt vn V t).wo (whatAt vn V t).va (whatAt vn V t).er)).idle = ii at *
            have HII := Lib.hid hII; clear hII
            have k20 : ¬ (L : Int) < nn := by omega
            have k21 : ¬ (L : Int) < ii := by omega
            go_wp2_with fail
            refine (idle_spec (sp.tick.puts (whatAt vn V t).wo (whatAt vn V t).va (whatAt vn V t).er) ⟨okt.pos, okt.le, okt.now⟩ bp _ HB1.out).mono ?_
            rintro e x2 ⟨rfl, m, rfl⟩
            rw [HII.out]
            go_wp2_with fail
            refine (len_spec (sp.tick.puts (whatAt vn V t).wo (whatAt vn V t).va (whatAt vn V t).er) ⟨okt.pos, okt.le, okt.now⟩ bp _ (by ((with_reducible repeat' first | apply Blk.drew | apply Blk.drewN | apply Blk.alloc | apply Blk.set | refine Blk.set_ne ?_ ?_) <;> first | with_reducible exact HB1.out | omega | (dsimp only; omega)))).mono ?_
            rintro e x3 ⟨rfl, hX3⟩
            rw [HNN.out]
            have HB3 := Lib.hid (Blk.upd hX3 (by ((with_reducible repeat' first | apply Blk.drew | apply Blk.drewN | apply Blk.alloc | apply Blk.set | refine Blk.set_ne ?_ ?_) <;> first | with_reducible exact HB1.out | omega | (dsimp only; omega)) : Blk _ bp ((sp.tick.puts (whatAt vn V t).wo (whatAt vn V t).va (whatAt vn V t).er)).enc 96) id)
            have HX3 := Lib.hid (by ((with_reducible repeat' first | exact Upd.refl _ _ | apply Upd.drew | apply Upd.drewN | apply Upd.alloc | refine Upd.setCell ?_ ?_ | refine Upd.call hX3 ?_ ?_ | refine Upd.call HX1.out ?_ ?_) <;> first | (intro _ _ h; exact h) | (intro _ _ h; exact h.elim) | (intro i h1 h2; exfalso; (try simp only at h2); omega) | (left; rfl) | (right; dsimp only; omega) | (right; omega)) : Upd Non w x3)
            clear hX3
            rcases hboth with ⟨hi0, hn0⟩ | ⟨hi0, hn0⟩
            all_goals
              first | (subst hi0; subst hn0) | (have k22 : (0 : Int) < ii := by omega
                                                have k23 : (0 : Int) < nn := by omega)
              go_wp2_with fail
              refine (idle_spec (sp.tick.puts (whatAt vn V t).wo (whatAt vn V t).va (whatAt vn V t).er) ⟨okt.pos, okt.le, okt.now⟩ bp _ HB3.out).mono ?_
              rintro e x4 ⟨rfl, m4, rfl⟩
              rw [HII.out]
              go_wp2_with fail
              go_roundw
              case rel => exact ⟨t + 1, (sp.tick.puts (whatAt vn V t).wo (whatAt vn V t).va (whatAt vn V t).er), by omega, by go_num, PInv.step_put ip h0 ⟨true, (whatAt vn V t).wo, (whatAt vn V t).va, (whatAt vn V t).er⟩ (by rw [HOL.out, if_pos (by simp [putL, htn, HPt.out])]; unfold whatAt; split <;> rfl), by ((with_reducible repeat' first | apply Blk.drew | apply Blk.drewN | apply Blk.alloc | apply Blk.set | refine Blk.set_ne ?_ ?_) <;> first | with_reducible exact HB3.out | omega | (dsimp only; omega)), by ((with_reducible repeat' first | exact Upd.refl _ _ | apply Upd.drew | apply Upd.drewN | apply Upd.alloc | refine Upd.setCell ?_ ?_ | refine Upd.call HX3.out ?_ ?_) <;> first | (intro _ _ h; exact h) | (intro _ _ h; exact h.elim) | (intro i h1 h2; exfalso; (try simp only at h2); omega) | (left; rfl) | (right; dsimp only; omega) | (right; omega))⟩
              case measure => simp [intOf]; omega
        · have k10 : ¬ (t : Int) < pn := by omega
          go_wp2_with fail
          refine (len_spec sp.tick okt bp _ (by ((with_reducible repeat' first | apply Blk.drew | apply Blk.drewN | apply Blk.alloc | apply Blk.set | refine Blk.set_ne ?_ ?_) <;> first | with_reducible exact HBP2.out | omega | (dsimp only; omega)))).mono ?_
          rintro e x1 ⟨rfl, hX1⟩
          have HB1 := Lib.hid (Blk.upd hX1 (by ((with_reducible repeat' first | apply Blk.drew | apply Blk.drewN | apply Blk.alloc | apply Blk.set | refine Blk.set_ne ?_ ?_) <;> first | with_reducible exact HBP2.out | omega | (dsimp only; omega)) : Blk _ bp (sp.tick).enc 96) id)
          have HX1 := Lib.hid (by ((with_reducible repeat' first | exact Upd.refl _ _ | apply Upd.drew | apply Upd.drewN | apply Upd.alloc | refine Upd.setCell ?_ ?_ | refine Upd.call hX1 ?_ ?_ | refine Upd.call HV2.out ?_ ?_) <;> first | (intro _ _ h; exact h) | (intro _ _ h; exact h.elim) | (intro i h1 h2; exfalso; (try simp only at h2); omega) | (left; rfl) | (right; dsimp only; omega) | (right; omega)) : Upd Non w x1)
          clear hX1
          have hnl : ((sp.tick).upto (sp.tick).lat).length ≤ L := Nat.le_trans (PS.upto_le _ _) (Nat.le_of_eq ip.lat)
          have hil : (sp.tick).idle ≤ L := Nat.le_trans (PS.idle_le _) (Nat.le_of_eq ip.lat)
          have hboth := PS.both (sp.tick)
          generalize hNN : ((sp.tick).upto (sp.tick).lat).length = nn at *
          have HNN := Lib.hid hNN; clear hNN
          generalize hII : (sp.tick).idle = ii at *
          have HII := Lib.hid hII; clear hII
          have k20 : ¬ (L : Int) < nn := by omega
          have k21 : ¬ (L : Int) < ii := by omega
          go_wp2_with fail
          refine (idle_spec sp.tick okt bp _ HB1.out).mono ?_
          rintro e x2 ⟨rfl, m, rfl⟩
          rw [HII.out]
          go_wp2_with fail
          refine (len_spec sp.tick okt bp _ (by ((with_reducible repeat' first | apply Blk.drew | apply Blk.drewN | apply Blk.alloc | apply Blk.set | refine Blk.set_ne ?_ ?_) <;> first | with_reducible exact HB1.out | omega | (dsimp only; omega)))).mono ?_
          rintro e x3 ⟨rfl, hX3⟩
          rw [HNN.out]
          have HB3 := Lib.hid (Blk.upd hX3 (by ((with_reducible repeat' first | apply Blk.drew | apply Blk.drewN | apply Blk.alloc | apply Blk.set | refine Blk.set_ne ?_ ?_) <;> first | with_reducible exact HB1.out | omega | (dsimp only; omega)) : Blk _ bp (sp.tick).enc 96) id)
          have HX3 := Lib.hid (by ((with_reducible repeat' first | exact Upd.refl _ _ | apply Upd.drew | apply Upd.drewN | apply Upd.alloc | refine Upd.setCell ?_ ?_ | refine Upd.call hX3 ?_ ?_ | refine Upd.call HX1.out ?_ ?_) <;> first | (intro _ _ h; exact h) | (intro _ _ h; exact h.elim) | (intro i h1 h2; exfalso; (try simp only at h2); omega) | (left; rfl) | (right; dsimp only; omega) | (right; omega)) : Upd Non w x3)
          clear hX3
          rcases hboth with ⟨hi0, hn0⟩ | ⟨hi0, hn0⟩
          all_goals
            first | (subst hi0; subst hn0) | (have k22 : (0 : Int) < ii := by omega
                                              have k23 : (0 : Int) < nn := by omega)
            go_wp2_with fail
            refine (idle_spec sp.tick okt bp _ HB3.out).mono ?_
            rintro e x4 ⟨rfl, m4, rfl⟩
            rw [HII.out]
            go_wp2_with fail
            go_roundw
            case rel => exact ⟨t + 1, sp.tick, by omega, by go_num, PInv.step ip h0 (by rw [HOL.out, if_neg]; simp [putL, htn]), by ((with_reducible repeat' first | apply Blk.drew | apply Blk.drewN | apply Blk.alloc | apply Blk.set | refine Blk.set_ne ?_ ?_) <;> first | with_reducible exact HB3.out | omega | (dsimp only; omega)), by ((with_reducible repeat' first | exact Upd.refl _ _ | apply Upd.drew | apply Upd.drewN | apply Upd.alloc | refine Upd.setCell ?_ ?_ | refine Upd.call HX3.out ?_ ?_) <;> first | (intro _ _ h; exact h) | (intro _ _ h; exact h.elim) | (intro i h1 h2; exfalso; (try simp only at h2); omega) | (left; rfl) | (right; dsimp only; omega) | (right; omega))⟩
            case measure => simp [intOf]; omega
end Go.Proofs.Ytnmbkhofikbcjaa
