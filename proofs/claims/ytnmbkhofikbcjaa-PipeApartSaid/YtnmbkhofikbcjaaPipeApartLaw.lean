/- The law PipeApart returns true: the walk of its loop. Conditions: the arguments' cells read as bools. -/
import Derived.Test.YtnmbkhofikbcjaaPipeApart
namespace Go.Proofs.Ytnmbkhofikbcjaa
open Go.RowKit

def dueAt (t : Nat) : PC := ⟨true, t, 0, 0⟩
/-- What is put into the one pipe, what into the other. -/
def putP (pn : Nat) (P : Nat → Bool) (t : Nat) : Bool := decide (t < pn) && P t
def putQ (pn : Nat) (P O : Nat → Bool) (s t : Nat) : Bool := if t = s then P s else decide (t < pn) && O t

set_option maxRecDepth 100000 in
set_option maxHeartbeats 8000000 in
theorem apart_some (L : Nat) (at_ : Int) (pb po pn pc qb qo qn qc : Nat) (P O : Nat → Bool) (h0 : 0 < L) (h1 : L ≤ 16) (h2 : pn ≤ 400) (h3 : pn ≤ qn) (h4 : 0 < pn) (w : World)
    (hp : ∀ j, j < pn → w.cell? ⟨pb, po + j, none⟩ = some (.bool (P j))) (hq : ∀ j, j < qn → w.cell? ⟨qb, qo + j, none⟩ = some (.bool (O j))) :
    Calls Try.prog 3 #[.int .i64 L, .slice (some ⟨pb, po, none⟩) pn pc, .slice (some ⟨qb, qo, none⟩) qn qc, .int .i64 at_] w fun e w' => e = .returned (.bool true) ∧ Upd Non w w' := by
  obtain ⟨s, hs⟩ : ∃ s : Nat, (s : Int) = at_ % pn := ⟨(at_ % pn).toNat, Int.toNat_of_nonneg (Int.emod_nonneg _ (by omega))⟩
  have hsn : s < pn := by have := Int.emod_lt_of_pos at_ (show (0 : Int) < pn by omega); omega
  have k1 : ¬ (L : Int) < 1 := by omega
  have k2 : ¬ (16 : Int) < L := by omega
  have k3 : ¬ (400 : Int) < pn := by omega
  have k4 : ¬ (qn : Int) < pn := by omega
  have k5 : ((pn : Int) == 0) = false := by simp; omega
  have k6 : IntKind.i64.wrap ((s : Int) + L) = (s : Int) + L := IntWalk.i64_in _ (by omega)
  have hpb : pb < w.heap.size := World.block_lt_of_cell? w _ (hp 0 h4)
  have hqb : qb < w.heap.size := World.block_lt_of_cell? w _ (hq 0 (by omega))
  have HP0 : ∀ wk, Hid (Upd Non w wk) → ∀ j, j < pn → wk.cell? ⟨pb, po + j, none⟩ = some (.bool (P j)) := fun wk u j hj => u.out.cell_eq id (hp j hj)
  have HQ0 : ∀ wk, Hid (Upd Non w wk) → ∀ j, j < qn → wk.cell? ⟨qb, qo + j, none⟩ = some (.bool (O j)) := fun wk u j hj => u.out.cell_eq id (hq j hj)
  have HP := Lib.hid HP0
  have HQ := Lib.hid HQ0
  clear hp hq HP0 HQ0
  have HS := Lib.hid hs; clear hs
  go_enter Try.func3, Try.ntmps3
  go_wp2_with (go_at_call 13; refine (awake18 _).mono ?_; rintro e w1 ⟨rfl, hU1⟩)
  have hz1 := hU1.size
  refine (pick_spec at_ pn (by omega) (by omega) _).mono ?_
  rintro e w1' ⟨rfl, rfl⟩
  rw [← HS.out]
  go_wp2_with fail
  refine (new_spec L h0 h1 _).mono ?_
  rintro e w2 ⟨rfl, hw2⟩
  have hbp : Blk w2 w1.heap.size (PS.fresh L).enc 96 := hw2 ▸ Blk.new w1 _ _
  have hU2 : Upd Non w1 w2 := hw2 ▸ (Upd.refl _ _).alloc
  have hz2 : w1.heap.size < w2.heap.size := hbp.lt
  clear hw2
  have HU2 := Lib.hid (by ((with_reducible repeat' first | exact Upd.refl _ _ | apply Upd.drew | apply Upd.drewN | apply Upd.alloc | refine Upd.setCell ?_ ?_ | refine Upd.call hU2 ?_ ?_ | refine Upd.call hU1 ?_ ?_) <;> first | (intro _ _ h; exact h) | (intro _ _ h; exact h.elim) | (intro i h1 h2; exfalso; (try simp only at h2); omega) | (left; rfl) | (right; dsimp only; omega) | (right; omega)) : Upd Non w w2)
  clear hU2 hU1
  go_wp2_with fail
  refine (new_spec L h0 h1 _).mono ?_
  rintro e w3 ⟨rfl, hw3⟩
  have hbq : Blk w3 w2.heap.size (PS.fresh L).enc 96 := hw3 ▸ Blk.new w2 _ _
  have hU3 : Upd Non w2 w3 := hw3 ▸ (Upd.refl _ _).alloc
  have hbp3 : Blk w3 w1.heap.size (PS.fresh L).enc 96 := Blk.upd hU3 hbp id
  clear hw3 hbp
  have HU3 := Lib.hid (by ((with_reducible repeat' first | exact Upd.refl _ _ | apply Upd.drew | apply Upd.drewN | apply Upd.alloc | refine Upd.setCell ?_ ?_ | refine Upd.call hU3 ?_ ?_ | refine Upd.call HU2.out ?_ ?_) <;> first | (intro _ _ h; exact h) | (intro _ _ h; exact h.elim) | (intro i h1 h2; exfalso; (try simp only at h2); omega) | (left; rfl) | (right; dsimp only; omega) | (right; omega)) : Upd Non w w3)
  clear hU3 HU2
  obtain ⟨bp, hbpe⟩ : ∃ b, b = w1.heap.size := ⟨_, rfl⟩
  obtain ⟨bq, hbqe⟩ : ∃ b, b = w2.heap.size := ⟨_, rfl⟩
  rw [← hbpe] at hbp3 ⊢
  rw [← hbqe] at hbq ⊢
  have hwp : w.heap.size ≤ bp := by omega
  have hpq : bp < bq := by omega
  clear hbpe hbqe hz1 hz2
  have HBP := Lib.hid hbp3; clear hbp3
  have HBQ := Lib.hid hbq; clear hbq
  go_wp2_with fail
  go_loopw [14] (fun i wr => ∃ (t : Nat) (sp sq : PS), t ≤ s + L ∧ i = .int .i64 t ∧ PInv L (outOf L (putP pn P) dueAt) t sp ∧ PInv L (outOf L (putQ pn P O s) dueAt) t sq ∧ Blk wr bp sp.enc 96 ∧ Blk wr bq sq.enc 96 ∧ Upd Non w wr) (fun i _ => s + L + 1 - (intOf i).toNat)
  case atStart => exact ⟨0, PS.fresh L, PS.fresh L, by omega, rfl, PInv.fresh (fun u hu => outOf_early hu), PInv.fresh (fun u hu => outOf_early hu), HBP.out, HBQ.out, HU3.out⟩
  case round =>
    obtain ⟨t, sp, sq, ht, rfl, ip, iq, hbp, hbq, hU⟩ := hrel
    clear HBP HBQ HU3
    have okp := ip.ok h0 h1
    have okq := iq.ok h0 h1
    have HBP := Lib.hid hbp; clear hbp
    have HBQ := Lib.hid hbq; clear hbq
    have HU := Lib.hid hU; clear hU
    have k7 : (t : Int) ≤ (s : Int) + L := by omega
    go_wp2_with fail
    refine (tick_out sp okp _ (ip.out h0) bp _ (by ((with_reducible repeat' first | apply Blk.drew | apply Blk.drewN | apply Blk.alloc | apply Blk.set | refine Blk.set_ne ?_ ?_) <;> first | with_reducible exact HBP.out | omega | (dsimp only; omega)))).mono ?_
    rintro e v1 ⟨rfl, hbp1, hV1⟩
    have hbq1 : Blk v1 bq sq.enc 96 := Blk.upd hV1 HBQ.out (by omega)
    have HV1 := Lib.hid (by ((with_reducible repeat' first | exact Upd.refl _ _ | apply Upd.drew | apply Upd.drewN | apply Upd.alloc | refine Upd.setCell ?_ ?_ | refine Upd.call hV1 ?_ ?_ | refine Upd.call HU.out ?_ ?_) <;> first | (intro _ _ h; exact h) | (intro _ _ h; exact h.elim) | (intro i h1 h2; exfalso; (try simp only at h2); omega) | (left; rfl) | (right; dsimp only; omega) | (right; omega)) : Upd Non w v1)
    have hy1 := hV1.size
    clear hV1
    have HBP1 := Lib.hid hbp1; clear hbp1
    have HBQ1 := Lib.hid hbq1; clear hbq1
    have hql := HBQ1.out.lt
    go_wp2_with fail
    refine (tick_out sq okq _ (iq.out h0) bq _ (by ((with_reducible repeat' first | apply Blk.drew | apply Blk.drewN | apply Blk.alloc | apply Blk.set | refine Blk.set_ne ?_ ?_) <;> first | with_reducible exact HBQ1.out | omega | (dsimp only; omega)))).mono ?_
    rintro e v2 ⟨rfl, hbq2, hV2⟩
    have HX : Blk v2 v1.heap.size #[.int .i64 (outOf L (putP pn P) dueAt t).wo, .int .u32 (outOf L (putP pn P) dueAt t).va, .int .i64 (outOf L (putP pn P) dueAt t).er] 33 := Blk.upd hV2 (by ((with_reducible repeat' first | apply Blk.new | (refine Blk.newAt ?_; (simp; done)) | apply Blk.drew | apply Blk.drewN | apply Blk.alloc | apply Blk.set | refine Blk.set_ne ?_ ?_) <;> first | omega | (dsimp only; omega))) (by omega)
    have hbp2 : Blk v2 bp sp.tick.enc 96 := Blk.upd hV2 (by ((with_reducible repeat' first | apply Blk.drew | apply Blk.drewN | apply Blk.alloc | apply Blk.set | refine Blk.set_ne ?_ ?_) <;> first | with_reducible exact HBP1.out | omega | (dsimp only; omega))) (by omega)
    have HV2 := Lib.hid (by ((with_reducible repeat' first | exact Upd.refl _ _ | apply Upd.drew | apply Upd.drewN | apply Upd.alloc | refine Upd.setCell ?_ ?_ | refine Upd.call hV2 ?_ ?_ | refine Upd.call HV1.out ?_ ?_) <;> first | (intro _ _ h; exact h) | (intro _ _ h; exact h.elim) | (intro i h1 h2; exfalso; (try simp only at h2); omega) | (left; rfl) | (right; dsimp only; omega) | (right; omega)) : Upd Non w v2)
    have hy2 := hV2.size
    simp only [World.size_alloc] at hy2
    clear hV2 HBP1 HBQ1 HBP HBQ
    have HBP2 := Lib.hid hbp2; clear hbp2
    have HBQ2 := Lib.hid hbq2; clear hbq2
    by_cases hts : t = s + L
    · obtain ⟨c, hc⟩ : ∃ c, c = if P s = true then dueAt s else PC.no := ⟨_, rfl⟩
      have e1 : outOf L (putP pn P) dueAt t = c := by subst hts; rw [outOf_late, hc]; simp [putP, hsn]
      have e2 : outOf L (putQ pn P O s) dueAt t = c := by subst hts; rw [outOf_late, hc]; simp [putQ]
      have e3 : c.is = P s := by rw [hc]; cases P s <;> rfl
      clear hc
      rw [e1] at HX ⊢
      rw [e2]
      clear e1 e2
      have x0 : (v2).cell? ⟨v1.heap.size, 0, none⟩ = some (.int .i64 c.wo) := HX.cell 0 rfl; have xf0 : (v2).frozen? ⟨v1.heap.size, 0, none⟩ = false := HX.frozen 0; have x1 : (v2).cell? ⟨v1.heap.size, 1, none⟩ = some (.int .u32 c.va) := HX.cell 1 rfl; have xf1 : (v2).frozen? ⟨v1.heap.size, 1, none⟩ = false := HX.frozen 1; have x2 : (v2).cell? ⟨v1.heap.size, 2, none⟩ = some (.int .i64 c.er) := HX.cell 2 rfl; have xf2 : (v2).frozen? ⟨v1.heap.size, 2, none⟩ = false := HX.frozen 2
      clear HX
      have cP := HP.out _ HV2 s hsn
      have pl : pb < v2.heap.size := World.block_lt_of_cell? _ _ cP
      have xl : v1.heap.size < v2.heap.size := by omega
      have k8 : ((t : Int) == (s : Int) + L) = true := by simp; omega
      clear hts
      go_wp2
      go_ret
      exact ⟨rfl, by ((with_reducible repeat' first | exact Upd.refl _ _ | apply Upd.drew | apply Upd.drewN | apply Upd.alloc | refine Upd.setCell ?_ ?_ | refine Upd.call HV2.out ?_ ?_) <;> first | (intro _ _ h; exact h) | (intro _ _ h; exact h.elim) | (intro i h1 h2; exfalso; (try simp only at h2); omega) | (left; rfl) | (right; dsimp only; omega) | (right; omega))⟩
    clear HX
    have k8 : ((t : Int) == (s : Int) + L) = false := by simp; omega
    have k9 : ((t : Int) == (s : Int)) = decide (t = s) := by rw [Bool.eq_iff_iff]; simp; omega
    have okp2 : sp.tick.ok := ⟨okp.pos, okp.le, PS.next_lt okp⟩
    have okq2 : sq.tick.ok := ⟨okq.pos, okq.le, PS.next_lt okq⟩
    by_cases htn : t < pn
    · have k10 : (t : Int) < pn := by omega
      by_cases hts2 : t = s
      · rw [decide_eq_true hts2] at k9
        have HTS := Lib.hid hts2
        have k11 : ((t : Int) != (s : Int)) = false := by simp; omega
        cases hPt : P t
        · have HPt := Lib.hid hPt; clear hPt
          clear hts2
          have cP := HP.out _ HV2 t htn
          rw [HPt.out] at cP
          have pl : pb < v2.heap.size := World.block_lt_of_cell? _ _ cP
          go_wp2_with fail
          go_roundw
          case rel => exact ⟨t + 1, sp.tick, sq.tick, by omega, by go_num, PInv.step ip h0 (by rw [outOf_late, if_neg]; simp [putP, htn, HPt.out]), PInv.step iq h0 (by rw [outOf_late, if_neg]; unfold putQ; rw [if_pos HTS.out, ← HTS.out, HPt.out]; simp), by ((with_reducible repeat' first | apply Blk.drew | apply Blk.drewN | apply Blk.alloc | apply Blk.set | refine Blk.set_ne ?_ ?_) <;> first | with_reducible exact HBP2.out | omega | (dsimp only; omega)), by ((with_reducible repeat' first | apply Blk.drew | apply Blk.drewN | apply Blk.alloc | apply Blk.set | refine Blk.set_ne ?_ ?_) <;> first | with_reducible exact HBQ2.out | omega | (dsimp only; omega)), by ((with_reducible repeat' first | exact Upd.refl _ _ | apply Upd.drew | apply Upd.drewN | apply Upd.alloc | refine Upd.setCell ?_ ?_ | refine Upd.call HV2.out ?_ ?_) <;> first | (intro _ _ h; exact h) | (intro _ _ h; exact h.elim) | (intro i h1 h2; exfalso; (try simp only at h2); omega) | (left; rfl) | (right; dsimp only; omega) | (right; omega))⟩
          case measure => simp [intOf]; omega
        · have HPt := Lib.hid hPt; clear hPt
          clear hts2
          have cP := HP.out _ HV2 t htn
          rw [HPt.out] at cP
          have pl : pb < v2.heap.size := World.block_lt_of_cell? _ _ cP
          go_wp2_with fail
          refine (due_nil (t : Int) _).mono ?_
          rintro e v3 ⟨rfl, hV3⟩
          have hb1a : Blk v3 bp sp.tick.enc 96 := Blk.upd hV3 (by ((with_reducible repeat' first | apply Blk.drew | apply Blk.drewN | apply Blk.alloc | apply Blk.set | refine Blk.set_ne ?_ ?_) <;> first | with_reducible exact HBP2.out | omega | (dsimp only; omega))) id
          have hb2a : Blk v3 bq _ 96 := Blk.upd hV3 (by ((with_reducible repeat' first | apply Blk.drew | apply Blk.drewN | apply Blk.alloc | apply Blk.set | refine Blk.set_ne ?_ ?_) <;> first | with_reducible exact HBQ2.out | omega | (dsimp only; omega))) id
          have HV3 := Lib.hid (by ((with_reducible repeat' first | exact Upd.refl _ _ | apply Upd.drew | apply Upd.drewN | apply Upd.alloc | refine Upd.setCell ?_ ?_ | refine Upd.call hV3 ?_ ?_ | refine Upd.call HV2.out ?_ ?_) <;> first | (intro _ _ h; exact h) | (intro _ _ h; exact h.elim) | (intro i h1 h2; exfalso; (try simp only at h2); omega) | (left; rfl) | (right; dsimp only; omega) | (right; omega)) : Upd Non w v3)
          clear hV3
          have HB1a := Lib.hid hb1a; clear hb1a
          have HB2a := Lib.hid hb2a; clear hb2a
          go_wp2_with fail
          refine (put_ok sp.tick okp2 rfl (PS.tick_clear sp) bp t 0 0 _ (by ((with_reducible repeat' first | apply Blk.drew | apply Blk.drewN | apply Blk.alloc | apply Blk.set | refine Blk.set_ne ?_ ?_) <;> first | with_reducible exact HB1a.out | omega | (dsimp only; omega)))).mono ?_
          rintro e v4 ⟨rfl, hb3a, hV4⟩
          have hb4a : Blk v4 bq _ 96 := Blk.upd hV4 HB2a.out (by omega)
          have HV4 := Lib.hid (by ((with_reducible repeat' first | exact Upd.refl _ _ | apply Upd.drew | apply Upd.drewN | apply Upd.alloc | refine Upd.setCell ?_ ?_ | refine Upd.call hV4 ?_ ?_ | refine Upd.call HV3.out ?_ ?_) <;> first | (intro _ _ h; exact h) | (intro _ _ h; exact h.elim) | (intro i h1 h2; exfalso; (try simp only at h2); omega) | (left; rfl) | (right; dsimp only; omega) | (right; omega)) : Upd Non w v4)
          clear hV4
          have HBP4 := Lib.hid hb3a; clear hb3a
          have HBQ4 := Lib.hid hb4a; clear hb4a
          have cP4 := HP.out _ HV4 t htn
          rw [HPt.out] at cP4
          go_wp2_with fail
          refine (due_nil (t : Int) _).mono ?_
          rintro e v5 ⟨rfl, hV5⟩
          have hb1b : Blk v5 bq sq.tick.enc 96 := Blk.upd hV5 (by ((with_reducible repeat' first | apply Blk.drew | apply Blk.drewN | apply Blk.alloc | apply Blk.set | refine Blk.set_ne ?_ ?_) <;> first | with_reducible exact HBQ4.out | omega | (dsimp only; omega))) id
          have hb2b : Blk v5 bp _ 96 := Blk.upd hV5 (by ((with_reducible repeat' first | apply Blk.drew | apply Blk.drewN | apply Blk.alloc | apply Blk.set | refine Blk.set_ne ?_ ?_) <;> first | with_reducible exact HBP4.out | omega | (dsimp only; omega))) id
          have HV5 := Lib.hid (by ((with_reducible repeat' first | exact Upd.refl _ _ | apply Upd.drew | apply Upd.drewN | apply Upd.alloc | refine Upd.setCell ?_ ?_ | refine Upd.call hV5 ?_ ?_ | refine Upd.call HV4.out ?_ ?_) <;> first | (intro _ _ h; exact h) | (intro _ _ h; exact h.elim) | (intro i h1 h2; exfalso; (try simp only at h2); omega) | (left; rfl) | (right; dsimp only; omega) | (right; omega)) : Upd Non w v5)
          clear hV5
          have HB1b := Lib.hid hb1b; clear hb1b
          have HB2b := Lib.hid hb2b; clear hb2b
          go_wp2_with fail
          refine (put_ok sq.tick okq2 rfl (PS.tick_clear sq) bq t 0 0 _ (by ((with_reducible repeat' first | apply Blk.drew | apply Blk.drewN | apply Blk.alloc | apply Blk.set | refine Blk.set_ne ?_ ?_) <;> first | with_reducible exact HB1b.out | omega | (dsimp only; omega)))).mono ?_
          rintro e v6 ⟨rfl, hb3b, hV6⟩
          have hb4b : Blk v6 bp _ 96 := Blk.upd hV6 HB2b.out (by omega)
          have HV6 := Lib.hid (by ((with_reducible repeat' first | exact Upd.refl _ _ | apply Upd.drew | apply Upd.drewN | apply Upd.alloc | refine Upd.setCell ?_ ?_ | refine Upd.call hV6 ?_ ?_ | refine Upd.call HV5.out ?_ ?_) <;> first | (intro _ _ h; exact h) | (intro _ _ h; exact h.elim) | (intro i h1 h2; exfalso; (try simp only at h2); omega) | (left; rfl) | (right; dsimp only; omega) | (right; omega)) : Upd Non w v6)
          clear hV6
          have HBQ6 := Lib.hid hb3b; clear hb3b
          have HBP6 := Lib.hid hb4b; clear hb4b
          go_wp2_with fail
          go_roundw
          case rel => exact ⟨t + 1, sp.tick.puts t 0 0, sq.tick.puts t 0 0, by omega, by go_num, PInv.step_put ip h0 (dueAt t) (by rw [outOf_late, if_pos]; simp [putP, htn, HPt.out]), PInv.step_put iq h0 (dueAt t) (by rw [outOf_late, if_pos]; unfold putQ; rw [if_pos HTS.out, ← HTS.out]; exact HPt.out), by ((with_reducible repeat' first | apply Blk.drew | apply Blk.drewN | apply Blk.alloc | apply Blk.set | refine Blk.set_ne ?_ ?_) <;> first | with_reducible exact HBP6.out | omega | (dsimp only; omega)), by ((with_reducible repeat' first | apply Blk.drew | apply Blk.drewN | apply Blk.alloc | apply Blk.set | refine Blk.set_ne ?_ ?_) <;> first | with_reducible exact HBQ6.out | omega | (dsimp only; omega)), by ((with_reducible repeat' first | exact Upd.refl _ _ | apply Upd.drew | apply Upd.drewN | apply Upd.alloc | refine Upd.setCell ?_ ?_ | refine Upd.call HV6.out ?_ ?_) <;> first | (intro _ _ h; exact h) | (intro _ _ h; exact h.elim) | (intro i h1 h2; exfalso; (try simp only at h2); omega) | (left; rfl) | (right; dsimp only; omega) | (right; omega))⟩
          case measure => simp [intOf]; omega
      · rw [decide_eq_false hts2] at k9
        have k11 : ((t : Int) != (s : Int)) = true := by rw [bne_iff_ne]; omega
        cases hPt : P t
        · have HPt := Lib.hid hPt; clear hPt
          cases hOt : O t
          · have HOt := Lib.hid hOt; clear hOt
            have cP := HP.out _ HV2 t htn
            rw [HPt.out] at cP
            have pl : pb < v2.heap.size := World.block_lt_of_cell? _ _ cP
            have cO := HQ.out _ HV2 t (by omega)
            rw [HOt.out] at cO
            have ql : qb < v2.heap.size := World.block_lt_of_cell? _ _ cO
            go_wp2_with fail
            go_roundw
            case rel => exact ⟨t + 1, sp.tick, sq.tick, by omega, by go_num, PInv.step ip h0 (by rw [outOf_late, if_neg]; simp [putP, htn, HPt.out]), PInv.step iq h0 (by rw [outOf_late, if_neg]; unfold putQ; rw [if_neg hts2]; simp [htn, HOt.out]), by ((with_reducible repeat' first | apply Blk.drew | apply Blk.drewN | apply Blk.alloc | apply Blk.set | refine Blk.set_ne ?_ ?_) <;> first | with_reducible exact HBP2.out | omega | (dsimp only; omega)), by ((with_reducible repeat' first | apply Blk.drew | apply Blk.drewN | apply Blk.alloc | apply Blk.set | refine Blk.set_ne ?_ ?_) <;> first | with_reducible exact HBQ2.out | omega | (dsimp only; omega)), by ((with_reducible repeat' first | exact Upd.refl _ _ | apply Upd.drew | apply Upd.drewN | apply Upd.alloc | refine Upd.setCell ?_ ?_ | refine Upd.call HV2.out ?_ ?_) <;> first | (intro _ _ h; exact h) | (intro _ _ h; exact h.elim) | (intro i h1 h2; exfalso; (try simp only at h2); omega) | (left; rfl) | (right; dsimp only; omega) | (right; omega))⟩
            case measure => simp [intOf]; omega
          · have HOt := Lib.hid hOt; clear hOt
            have cP := HP.out _ HV2 t htn
            rw [HPt.out] at cP
            have pl : pb < v2.heap.size := World.block_lt_of_cell? _ _ cP
            have cO := HQ.out _ HV2 t (by omega)
            rw [HOt.out] at cO
            have ql : qb < v2.heap.size := World.block_lt_of_cell? _ _ cO
            go_wp2_with fail
            refine (due_nil (t : Int) _).mono ?_
            rintro e v3 ⟨rfl, hV3⟩
            have hb1b : Blk v3 bq sq.tick.enc 96 := Blk.upd hV3 (by ((with_reducible repeat' first | apply Blk.drew | apply Blk.drewN | apply Blk.alloc | apply Blk.set | refine Blk.set_ne ?_ ?_) <;> first | with_reducible exact HBQ2.out | omega | (dsimp only; omega))) id
            have hb2b : Blk v3 bp _ 96 := Blk.upd hV3 (by ((with_reducible repeat' first | apply Blk.drew | apply Blk.drewN | apply Blk.alloc | apply Blk.set | refine Blk.set_ne ?_ ?_) <;> first | with_reducible exact HBP2.out | omega | (dsimp only; omega))) id
            have HV3 := Lib.hid (by ((with_reducible repeat' first | exact Upd.refl _ _ | apply Upd.drew | apply Upd.drewN | apply Upd.alloc | refine Upd.setCell ?_ ?_ | refine Upd.call hV3 ?_ ?_ | refine Upd.call HV2.out ?_ ?_) <;> first | (intro _ _ h; exact h) | (intro _ _ h; exact h.elim) | (intro i h1 h2; exfalso; (try simp only at h2); omega) | (left; rfl) | (right; dsimp only; omega) | (right; omega)) : Upd Non w v3)
            clear hV3
            have HB1b := Lib.hid hb1b; clear hb1b
            have HB2b := Lib.hid hb2b; clear hb2b
            go_wp2_with fail
            refine (put_ok sq.tick okq2 rfl (PS.tick_clear sq) bq t 0 0 _ (by ((with_reducible repeat' first | apply Blk.drew | apply Blk.drewN | apply Blk.alloc | apply Blk.set | refine Blk.set_ne ?_ ?_) <;> first | with_reducible exact HB1b.out | omega | (dsimp only; omega)))).mono ?_
            rintro e v4 ⟨rfl, hb3b, hV4⟩
            have hb4b : Blk v4 bp _ 96 := Blk.upd hV4 HB2b.out (by omega)
            have HV4 := Lib.hid (by ((with_reducible repeat' first | exact Upd.refl _ _ | apply Upd.drew | apply Upd.drewN | apply Upd.alloc | refine Upd.setCell ?_ ?_ | refine Upd.call hV4 ?_ ?_ | refine Upd.call HV3.out ?_ ?_) <;> first | (intro _ _ h; exact h) | (intro _ _ h; exact h.elim) | (intro i h1 h2; exfalso; (try simp only at h2); omega) | (left; rfl) | (right; dsimp only; omega) | (right; omega)) : Upd Non w v4)
            clear hV4
            have HBQ4 := Lib.hid hb3b; clear hb3b
            have HBP4 := Lib.hid hb4b; clear hb4b
            go_wp2_with fail
            go_roundw
            case rel => exact ⟨t + 1, sp.tick, sq.tick.puts t 0 0, by omega, by go_num, PInv.step ip h0 (by rw [outOf_late, if_neg]; simp [putP, htn, HPt.out]), PInv.step_put iq h0 (dueAt t) (by rw [outOf_late, if_pos]; unfold putQ; rw [if_neg hts2]; simp [htn, HOt.out]), by ((with_reducible repeat' first | apply Blk.drew | apply Blk.drewN | apply Blk.alloc | apply Blk.set | refine Blk.set_ne ?_ ?_) <;> first | with_reducible exact HBP4.out | omega | (dsimp only; omega)), by ((with_reducible repeat' first | apply Blk.drew | apply Blk.drewN | apply Blk.alloc | apply Blk.set | refine Blk.set_ne ?_ ?_) <;> first | with_reducible exact HBQ4.out | omega | (dsimp only; omega)), by ((with_reducible repeat' first | exact Upd.refl _ _ | apply Upd.drew | apply Upd.drewN | apply Upd.alloc | refine Upd.setCell ?_ ?_ | refine Upd.call HV4.out ?_ ?_) <;> first | (intro _ _ h; exact h) | (intro _ _ h; exact h.elim) | (intro i h1 h2; exfalso; (try simp only at h2); omega) | (left; rfl) | (right; dsimp only; omega) | (right; omega))⟩
            case measure => simp [intOf]; omega
        · have HPt := Lib.hid hPt; clear hPt
          cases hOt : O t
          · have HOt := Lib.hid hOt; clear hOt
            have cP := HP.out _ HV2 t htn
            rw [HPt.out] at cP
            have pl : pb < v2.heap.size := World.block_lt_of_cell? _ _ cP
            have cO := HQ.out _ HV2 t (by omega)
            rw [HOt.out] at cO
            have ql : qb < v2.heap.size := World.block_lt_of_cell? _ _ cO
            go_wp2_with fail
            refine (due_nil (t : Int) _).mono ?_
            rintro e v3 ⟨rfl, hV3⟩
            have hb1a : Blk v3 bp sp.tick.enc 96 := Blk.upd hV3 (by ((with_reducible repeat' first | apply Blk.drew | apply Blk.drewN | apply Blk.alloc | apply Blk.set | refine Blk.set_ne ?_ ?_) <;> first | with_reducible exact HBP2.out | omega | (dsimp only; omega))) id
            have hb2a : Blk v3 bq _ 96 := Blk.upd hV3 (by ((with_reducible repeat' first | apply Blk.drew | apply Blk.drewN | apply Blk.alloc | apply Blk.set | refine Blk.set_ne ?_ ?_) <;> first | with_reducible exact HBQ2.out | omega | (dsimp only; omega))) id
            have HV3 := Lib.hid (by ((with_reducible repeat' first | exact Upd.refl _ _ | apply Upd.drew | apply Upd.drewN | apply Upd.alloc | refine Upd.setCell ?_ ?_ | refine Upd.call hV3 ?_ ?_ | refine Upd.call HV2.out ?_ ?_) <;> first | (intro _ _ h; exact h) | (intro _ _ h; exact h.elim) | (intro i h1 h2; exfalso; (try simp only at h2); omega) | (left; rfl) | (right; dsimp only; omega) | (right; omega)) : Upd Non w v3)
            clear hV3
            have HB1a := Lib.hid hb1a; clear hb1a
            have HB2a := Lib.hid hb2a; clear hb2a
            go_wp2_with fail
            refine (put_ok sp.tick okp2 rfl (PS.tick_clear sp) bp t 0 0 _ (by ((with_reducible repeat' first | apply Blk.drew | apply Blk.drewN | apply Blk.alloc | apply Blk.set | refine Blk.set_ne ?_ ?_) <;> first | with_reducible exact HB1a.out | omega | (dsimp only; omega)))).mono ?_
            rintro e v4 ⟨rfl, hb3a, hV4⟩
            have hb4a : Blk v4 bq _ 96 := Blk.upd hV4 HB2a.out (by omega)
            have HV4 := Lib.hid (by ((with_reducible repeat' first | exact Upd.refl _ _ | apply Upd.drew | apply Upd.drewN | apply Upd.alloc | refine Upd.setCell ?_ ?_ | refine Upd.call hV4 ?_ ?_ | refine Upd.call HV3.out ?_ ?_) <;> first | (intro _ _ h; exact h) | (intro _ _ h; exact h.elim) | (intro i h1 h2; exfalso; (try simp only at h2); omega) | (left; rfl) | (right; dsimp only; omega) | (right; omega)) : Upd Non w v4)
            clear hV4
            have HBP4 := Lib.hid hb3a; clear hb3a
            have HBQ4 := Lib.hid hb4a; clear hb4a
            have cP4 := HP.out _ HV4 t htn
            rw [HPt.out] at cP4
            have cO4 := HQ.out _ HV4 t (by omega)
            rw [HOt.out] at cO4
            go_wp2_with fail
            go_roundw
            case rel => exact ⟨t + 1, sp.tick.puts t 0 0, sq.tick, by omega, by go_num, PInv.step_put ip h0 (dueAt t) (by rw [outOf_late, if_pos]; simp [putP, htn, HPt.out]), PInv.step iq h0 (by rw [outOf_late, if_neg]; unfold putQ; rw [if_neg hts2]; simp [htn, HOt.out]), by ((with_reducible repeat' first | apply Blk.drew | apply Blk.drewN | apply Blk.alloc | apply Blk.set | refine Blk.set_ne ?_ ?_) <;> first | with_reducible exact HBP4.out | omega | (dsimp only; omega)), by ((with_reducible repeat' first | apply Blk.drew | apply Blk.drewN | apply Blk.alloc | apply Blk.set | refine Blk.set_ne ?_ ?_) <;> first | with_reducible exact HBQ4.out | omega | (dsimp only; omega)), by ((with_reducible repeat' first | exact Upd.refl _ _ | apply Upd.drew | apply Upd.drewN | apply Upd.alloc | refine Upd.setCell ?_ ?_ | refine Upd.call HV4.out ?_ ?_) <;> first | (intro _ _ h; exact h) | (intro _ _ h; exact h.elim) | (intro i h1 h2; exfalso; (try simp only at h2); omega) | (left; rfl) | (right; dsimp only; omega) | (right; omega))⟩
            case measure => simp [intOf]; omega
          · have HOt := Lib.hid hOt; clear hOt
            have cP := HP.out _ HV2 t htn
            rw [HPt.out] at cP
            have pl : pb < v2.heap.size := World.block_lt_of_cell? _ _ cP
            have cO := HQ.out _ HV2 t (by omega)
            rw [HOt.out] at cO
            have ql : qb < v2.heap.size := World.block_lt_of_cell? _ _ cO
            go_wp2_with fail
            refine (due_nil (t : Int) _).mono ?_
            rintro e v3 ⟨rfl, hV3⟩
            have hb1a : Blk v3 bp sp.tick.enc 96 := Blk.upd hV3 (by ((with_reducible repeat' first | apply Blk.drew | apply Blk.drewN | apply Blk.alloc | apply Blk.set | refine Blk.set_ne ?_ ?_) <;> first | with_reducible exact HBP2.out | omega | (dsimp only; omega))) id
            have hb2a : Blk v3 bq _ 96 := Blk.upd hV3 (by ((with_reducible repeat' first | apply Blk.drew | apply Blk.drewN | apply Blk.alloc | apply Blk.set | refine Blk.set_ne ?_ ?_) <;> first | with_reducible exact HBQ2.out | omega | (dsimp only; omega))) id
            have HV3 := Lib.hid (by ((with_reducible repeat' first | exact Upd.refl _ _ | apply Upd.drew | apply Upd.drewN | apply Upd.alloc | refine Upd.setCell ?_ ?_ | refine Upd.call hV3 ?_ ?_ | refine Upd.call HV2.out ?_ ?_) <;> first | (intro _ _ h; exact h) | (intro _ _ h; exact h.elim) | (intro i h1 h2; exfalso; (try simp only at h2); omega) | (left; rfl) | (right; dsimp only; omega) | (right; omega)) : Upd Non w v3)
            clear hV3
            have HB1a := Lib.hid hb1a; clear hb1a
            have HB2a := Lib.hid hb2a; clear hb2a
            go_wp2_with fail
            refine (put_ok sp.tick okp2 rfl (PS.tick_clear sp) bp t 0 0 _ (by ((with_reducible repeat' first | apply Blk.drew | apply Blk.drewN | apply Blk.alloc | apply Blk.set | refine Blk.set_ne ?_ ?_) <;> first | with_reducible exact HB1a.out | omega | (dsimp only; omega)))).mono ?_
            rintro e v4 ⟨rfl, hb3a, hV4⟩
            have hb4a : Blk v4 bq _ 96 := Blk.upd hV4 HB2a.out (by omega)
            have HV4 := Lib.hid (by ((with_reducible repeat' first | exact Upd.refl _ _ | apply Upd.drew | apply Upd.drewN | apply Upd.alloc | refine Upd.setCell ?_ ?_ | refine Upd.call hV4 ?_ ?_ | refine Upd.call HV3.out ?_ ?_) <;> first | (intro _ _ h; exact h) | (intro _ _ h; exact h.elim) | (intro i h1 h2; exfalso; (try simp only at h2); omega) | (left; rfl) | (right; dsimp only; omega) | (right; omega)) : Upd Non w v4)
            clear hV4
            have HBP4 := Lib.hid hb3a; clear hb3a
            have HBQ4 := Lib.hid hb4a; clear hb4a
            have cP4 := HP.out _ HV4 t htn
            rw [HPt.out] at cP4
            have cO4 := HQ.out _ HV4 t (by omega)
            rw [HOt.out] at cO4
            go_wp2_with fail
            refine (due_nil (t : Int) _).mono ?_
            rintro e v5 ⟨rfl, hV5⟩
            have hb1b : Blk v5 bq sq.tick.enc 96 := Blk.upd hV5 (by ((with_reducible repeat' first | apply Blk.drew | apply Blk.drewN | apply Blk.alloc | apply Blk.set | refine Blk.set_ne ?_ ?_) <;> first | with_reducible exact HBQ4.out | omega | (dsimp only; omega))) id
            have hb2b : Blk v5 bp _ 96 := Blk.upd hV5 (by ((with_reducible repeat' first | apply Blk.drew | apply Blk.drewN | apply Blk.alloc | apply Blk.set | refine Blk.set_ne ?_ ?_) <;> first | with_reducible exact HBP4.out | omega | (dsimp only; omega))) id
            have HV5 := Lib.hid (by ((with_reducible repeat' first | exact Upd.refl _ _ | apply Upd.drew | apply Upd.drewN | apply Upd.alloc | refine Upd.setCell ?_ ?_ | refine Upd.call hV5 ?_ ?_ | refine Upd.call HV4.out ?_ ?_) <;> first | (intro _ _ h; exact h) | (intro _ _ h; exact h.elim) | (intro i h1 h2; exfalso; (try simp only at h2); omega) | (left; rfl) | (right; dsimp only; omega) | (right; omega)) : Upd Non w v5)
            clear hV5
            have HB1b := Lib.hid hb1b; clear hb1b
            have HB2b := Lib.hid hb2b; clear hb2b
            go_wp2_with fail
            refine (put_ok sq.tick okq2 rfl (PS.tick_clear sq) bq t 0 0 _ (by ((with_reducible repeat' first | apply Blk.drew | apply Blk.drewN | apply Blk.alloc | apply Blk.set | refine Blk.set_ne ?_ ?_) <;> first | with_reducible exact HB1b.out | omega | (dsimp only; omega)))).mono ?_
            rintro e v6 ⟨rfl, hb3b, hV6⟩
            have hb4b : Blk v6 bp _ 96 := Blk.upd hV6 HB2b.out (by omega)
            have HV6 := Lib.hid (by ((with_reducible repeat' first | exact Upd.refl _ _ | apply Upd.drew | apply Upd.drewN | apply Upd.alloc | refine Upd.setCell ?_ ?_ | refine Upd.call hV6 ?_ ?_ | refine Upd.call HV5.out ?_ ?_) <;> first | (intro _ _ h; exact h) | (intro _ _ h; exact h.elim) | (intro i h1 h2; exfalso; (try simp only at h2); omega) | (left; rfl) | (right; dsimp only; omega) | (right; omega)) : Upd Non w v6)
            clear hV6
            have HBQ6 := Lib.hid hb3b; clear hb3b
            have HBP6 := Lib.hid hb4b; clear hb4b
            go_wp2_with fail
            go_roundw
            case rel => exact ⟨t + 1, sp.tick.puts t 0 0, sq.tick.puts t 0 0, by omega, by go_num, PInv.step_put ip h0 (dueAt t) (by rw [outOf_late, if_pos]; simp [putP, htn, HPt.out]), PInv.step_put iq h0 (dueAt t) (by rw [outOf_late, if_pos]; unfold putQ; rw [if_neg hts2]; simp [htn, HOt.out]), by ((with_reducible repeat' first | apply Blk.drew | apply Blk.drewN | apply Blk.alloc | apply Blk.set | refine Blk.set_ne ?_ ?_) <;> first | with_reducible exact HBP6.out | omega | (dsimp only; omega)), by ((with_reducible repeat' first | apply Blk.drew | apply Blk.drewN | apply Blk.alloc | apply Blk.set | refine Blk.set_ne ?_ ?_) <;> first | with_reducible exact HBQ6.out | omega | (dsimp only; omega)), by ((with_reducible repeat' first | exact Upd.refl _ _ | apply Upd.drew | apply Upd.drewN | apply Upd.alloc | refine Upd.setCell ?_ ?_ | refine Upd.call HV6.out ?_ ?_) <;> first | (intro _ _ h; exact h) | (intro _ _ h; exact h.elim) | (intro i h1 h2; exfalso; (try simp only at h2); omega) | (left; rfl) | (right; dsimp only; omega) | (right; omega))⟩
            case measure => simp [intOf]; omega
    · have k10 : ¬ (t : Int) < pn := by omega
      have hts2 : ¬ t = s := by omega
      rw [decide_eq_false hts2] at k9
      have k11 : ((t : Int) != (s : Int)) = true := by rw [bne_iff_ne]; omega
      go_wp2_with fail
      go_roundw
      case rel => exact ⟨t + 1, sp.tick, sq.tick, by omega, by go_num, PInv.step ip h0 (by rw [outOf_late, if_neg]; simp [putP, htn]), PInv.step iq h0 (by rw [outOf_late, if_neg]; unfold putQ; rw [if_neg hts2]; simp [htn]), by ((with_reducible repeat' first | apply Blk.drew | apply Blk.drewN | apply Blk.alloc | apply Blk.set | refine Blk.set_ne ?_ ?_) <;> first | with_reducible exact HBP2.out | omega | (dsimp only; omega)), by ((with_reducible repeat' first | apply Blk.drew | apply Blk.drewN | apply Blk.alloc | apply Blk.set | refine Blk.set_ne ?_ ?_) <;> first | with_reducible exact HBQ2.out | omega | (dsimp only; omega)), by ((with_reducible repeat' first | exact Upd.refl _ _ | apply Upd.drew | apply Upd.drewN | apply Upd.alloc | refine Upd.setCell ?_ ?_ | refine Upd.call HV2.out ?_ ?_) <;> first | (intro _ _ h; exact h) | (intro _ _ h; exact h.elim) | (intro i h1 h2; exfalso; (try simp only at h2); omega) | (left; rfl) | (right; dsimp only; omega) | (right; omega))⟩
      case measure => simp [intOf]; omega
end Go.Proofs.Ytnmbkhofikbcjaa
