/- A mailbox's State, New and Copy. Conditions: the mailbox's blocks are known. -/
import Derived.Test.YtlpfjjhjfmcfmaaMboxFns
import Derived.Test.YtlpfjjhjfmcfmaaFifoWAll
import Derived.Test.YtlpfjjhjfmcfmaaIRowW
import Derived.Laws.Rows
import Derived.Deep.RegionWith
namespace Go.Proofs.Ytlpfjjhjfmcfmaa
open Go.RowKit Go.Shelf
attribute [local go_sem] Oper.semAt_some
section
variable {w W W' : World} {b f g bs r : Nat} {s : MS} {v : Value}
/-- What holds between two rounds of State's range. -/
structure SJ (w : World) (rec : LoopState → Option Code → Loop) (D bs : Nat) (xs : List Int) (c gc t : Nat) (W : World) : Prop where
  lp : LoopAt (rec .ready none) D W
  fc : FI W c xs 4 gc
  ti : ∃ v r, IRow W w.heap.size v (xs.take t) r ∧ Blk W bs #[v, .int .u32 0, .int .u32 0] 39 ∧ r ≠ c ∧ r ≠ gc ∧ r ≠ D ∧ r ≠ D + 1 ∧ r ≠ bs
  up : Upd Non w W
  lo : D + 2 ≤ c ∧ D + 2 ≤ gc ∧ bs < D ∧ w.heap.size ≤ bs
set_option maxRecDepth 100000 in
set_option maxHeartbeats 16000000 in
theorem state_m (w : World) (h : MB w b f g s) : Calls Try.prog 22 #[.pointer (some ⟨b, 0, none⟩)] w fun e w' => ∃ v r, e = .returned (.agg #[v, .int .u32 s.ctrl, .int .u32 s.lost]) ∧ IRow w' w.heap.size v s.xs r ∧ Upd Non w w' := by
  have H := Lib.hid h
  have hle := h.le
  have HN := Lib.hid (show s.xs.length ≤ 2000 by omega)
  clear h
  refine calls_of_wp_range Try.func22 rfl ?_
  simp only [Try.ntmps22, List.size_toArray, List.length_cons, List.length_nil, Nat.reduceAdd, Nat.reduceSub, Array.replicate_succ, Array.replicate_zero, List.push_toArray, List.append_toArray, List.nil_append, List.cons_append]
  go_upto_region 1 with fail
  obtain ⟨wa, hwa⟩ : ∃ x, x = w.alloc (.cells #[.slice none 0 0, .int .u32 0, .int .u32 0] 39) := ⟨_, rfl⟩
  obtain ⟨bs, hbs⟩ : ∃ x, x = w.heap.size := ⟨_, rfl⟩
  have HS := Lib.hid (show Blk wa bs #[.slice none 0 0, .int .u32 0, .int .u32 0] 39 by rw [hwa]; exact Blk.newAt hbs)
  have HU := Lib.hid (show Upd Non w wa by rw [hwa]; ((with_reducible repeat' first | exact Upd.refl _ _ | apply Upd.drew | apply Upd.drewN | apply Upd.alloc | refine Upd.setCell ?_ ?_) <;> first | (intro _ _ h; exact h) | (intro _ _ h; exact h.elim) | (intro i h1 h2; exfalso; (try simp only at h2); omega) | (left; rfl) | (right; dsimp only; omega) | (right; omega)))
  have HM := Lib.hid (H.out.non HU.out)
  have hbw : w.heap.size ≤ bs := by omega
  have c0 := HM.out.B.cell 0 rfl
  rw [← hwa, ← hbs]
  clear hwa hbs
  go_wp2_with fail
  refine (there_m _ HM.out).mono ?_
  rintro e w1 ⟨rfl, rfl⟩
  go_wp2_with fail
  refine (all_spec f _).mono ?_
  rintro e w4 ⟨rfl, hw4⟩
  obtain ⟨bx, hbx⟩ : ∃ x, x = wa.heap.size := ⟨_, rfl⟩
  have hX : Blk w4 bx #[.pointer (some ⟨f, 0, none⟩)] 54 := by rw [hw4]; exact Blk.newAt hbx
  have hU4 : Upd Non wa w4 := by rw [hw4]; exact (Upd.refl _ _).alloc
  have HX := Lib.hid hX
  have HS4 := Lib.hid (Blk.upd hU4 HS.out id)
  have HU4 := Lib.hid (Upd.call hU4 HU.out fun _ _ h => h)
  have hbsx : bs < bx ∧ bx < w4.heap.size := ⟨by rw [hbx]; exact HS.out.lt, hX.lt⟩
  rw [← hbx]
  clear hw4 hbx hX hU4 HS HU HM c0
  go_wp2_with fail
  refine wp_range (gf := 63) (lb := #[.pointer (some ⟨bx, 0, none⟩)]) rfl (enters_of Try.func63 (by kernel_rfl) rfl) ?_
  intro fn rec hrec W1 hL hU1 hz
  obtain ⟨D, hD⟩ : ∃ D, D = w4.heap.size := ⟨_, rfl⟩
  rw [← hD] at hrec hL hz hbsx ⊢
  have HREC := Lib.hid hrec
  have HU1 := Lib.hid (Upd.call hU1 HU4.out fun _ _ h => h)
  have hX1 : W1.cell? ⟨bx, 0, none⟩ = some (.pointer (some ⟨f, 0, none⟩)) := (Blk.upd hU1 HX.out id).cell 0 rfl
  have HS1 := Lib.hid (Blk.upd hU1 HS4.out id)
  clear hrec hD HS4 HU4
  refine Calls.mono (R := fun e W' => e = .returned (.tuple #[]) ∧ ((∃ c2 g2, SJ w rec D bs s.xs c2 g2 s.xs.length W') ∨ False)) (all_run (b := f) (m := 4) (g := g) (l := D + 1) (bx := bx) HN.out W1 hX1 (H.out.non HU1.out).F (SJ w rec D bs s.xs) (fun _ => False) ?h0 ?hFI ?hdr ?hY) ?hend
  case h0 =>
    intro c2 g2 W' U hc2 hg2 hf
    have h1 := U.size
    exact ⟨hL.upd U id id, hf, ⟨_, bx, by rw [List.take_zero]; exact IRow.nil _ (by omega) (by omega), Blk.upd U HS1.out id, by omega⟩, Upd.call U HU1.out fun _ _ h => h, by omega⟩
  case hFI => exact fun _ _ _ _ h => h.fc
  case hdr =>
    intro c2 g2 u k W' h
    obtain ⟨v7, r7', h1, h2, hs⟩ := h.ti
    exact ⟨⟨h.lp.l, h.lp.d⟩, h.fc.drewN, ⟨v7, r7', h1.non (Upd.refl _ _).drewN, h2, hs⟩, h.up.drewN, h.lo⟩
  case hY =>
    intro c2 g2 u v W' hJ hv
    refine yield_at HREC.out hJ.lp rfl ?_
    gi_wp2
    refine ⟨rfl, fun W2 hU2 hL2 => ?_⟩
    obtain ⟨v7, r7, hi7, hb7, hs⟩ := hJ.ti
    obtain ⟨GG, hGG⟩ : ∃ GG, GG = s.xs.take u := ⟨_, rfl⟩
    rw [← hGG] at hi7
    have hlo := hJ.lo
    have hfc := FI.upd hU2 hJ.fc (by omega) (by omega)
    have hb8 := Blk.upd hU2 hb7 (by omega)
    have hi8 := hi7.upd hU2 (by omega)
    have hup := Upd.call hU2 hJ.up (fun i hi h => by omega)
    have hll := hL2.lt
    have hx7 := hb8.cell 0 rfl
    have hf7 := hb8.frozen 0
    have hl8 := hb8.lt
    have hr8 := hi8.lt
    have hc2l := hfc.lt
    have hg2l := hfc.glt
    obtain ⟨A7', c7', rfl⟩ := hi8.slice
    have hlen : GG.length ≤ 5000 := by
      rw [hGG, List.length_take]
      have := HN.out
      omega
    have HH := Lib.hid (And.intro hfc (And.intro hb8 (And.intro hi8 (And.intro hL2 (And.intro hup hlen)))))
    have HV := Lib.hid hv
    have HGG := Lib.hid hGG
    have hsw : w.heap.size ≤ W2.heap.size := by omega
    have hrlo := hi8.lo
    clear hv hJ hlen hfc hi7 hb7 hb8 hi8 hL2 hup hGG hL hU1 hX1 hU2
    gi_wp2_with (gi_at_builtin; refine wpListIn_iappend rfl _ _ 35 rfl Try.underlying35 Try.info28' rfl (HH.out.2.2.1.non (by ((with_reducible repeat' first | exact Upd.refl _ _ | apply Upd.drew | apply Upd.drewN | apply Upd.alloc | refine Upd.setCell ?_ ?_) <;> first | (intro _ _ h; exact h) | (intro _ _ h; exact h.elim) | (intro i h1 h2; exfalso; (try simp only at h2); omega) | (left; rfl) | (right; dsimp only; omega) | (right; omega)))) W2.heap.size v rfl (Blk.new _ _ _) (by have := HH.out.2.2.2.2.2; omega) (by rw [World.size_alloc]; omega) ?_; intro v7'' w5 r7'' hr hi U4; obtain ⟨A', c', rfl⟩ := hi.slice; rw [List.length_append, List.length_singleton] at hi; have hx8 := (Blk.upd U4 (Blk.alloc HH.out.2.1) (by omega)).cell 0 rfl; have hf8 := (Blk.upd U4 (Blk.alloc HH.out.2.1) (by omega)).frozen 0)
    have hz5 := U4.size
    rw [World.size_alloc] at hr hz5
    have ua : Upd Non W2 (W2.alloc (.cells #[.int .u32 v] 28)) := by ((with_reducible repeat' first | exact Upd.refl _ _ | apply Upd.drew | apply Upd.drewN | apply Upd.alloc | refine Upd.setCell ?_ ?_) <;> first | (intro _ _ h; exact h) | (intro _ _ h; exact h.elim) | (intro i h1 h2; exfalso; (try simp only at h2); omega) | (left; rfl) | (right; dsimp only; omega) | (right; omega))
    have uc : Upd (fun i => i = bs) w5 (w5.setCell ⟨bs, 0, none⟩ (.slice A' (GG.length + 1) c')) := by ((with_reducible repeat' first | exact Upd.refl _ _ | apply Upd.drew | apply Upd.drewN | apply Upd.alloc | refine Upd.setCell ?_ ?_) <;> first | (intro _ _ h; exact h) | (intro _ _ h; exact h.elim) | (intro i h1 h2; exfalso; (try simp only at h2); omega) | (left; rfl) | (right; dsimp only; omega) | (right; omega))
    have hbk : Blk (w5.setCell ⟨bs, 0, none⟩ (.slice A' (GG.length + 1) c')) bs #[.slice A' (GG.length + 1) c', .int .u32 0, .int .u32 0] 39 := Blk.set (Blk.upd U4 (Blk.alloc HH.out.2.1) (by omega))
    have hir := hi.upd uc (by omega)
    have hfin : LoopAt (rec .busy none) D (w5.setCell ⟨bs, 0, none⟩ (.slice A' (GG.length + 1) c')) :=
      LoopAt.upd uc (LoopAt.upd U4 (LoopAt.upd ua HH.out.2.2.2.1 id id) (by omega) (by omega)) (by omega) (by omega)
    have hfcn : FI (w5.setCell ⟨bs, 0, none⟩ (.slice A' (GG.length + 1) c')) c2 s.xs 4 g2 := FI.upd uc (FI.upd U4 (FI.non ua HH.out.1) (by omega) (by omega)) (by omega) (by omega)
    have hupn : Upd Non w (w5.setCell ⟨bs, 0, none⟩ (.slice A' (GG.length + 1) c')) := Upd.call uc (Upd.call U4 (Upd.call ua HH.out.2.2.2.2.1 fun _ _ h => h) fun i hi h => by omega) fun i hi h => by omega
    refine ⟨hfin, fun W4 hU4 hL4 => ⟨rfl, hL4, FI.upd hU4 hfcn (by omega) (by omega), ⟨.slice A' (GG.length + 1) c', r7'', ?_, Blk.upd hU4 hbk (by omega), by omega⟩, Upd.call hU4 hupn (fun i hi h => by omega), hlo⟩⟩
    have hGn : s.xs.take (u + 1) = GG ++ [v] := by rw [HGG.out, List.take_add_one, HV.out]; rfl
    rw [hGn]
    exact hir.upd hU4 (by omega)
  case hend =>
    rintro e W' ⟨rfl, ⟨c2, g2, hJ⟩ | h⟩
    · refine ⟨⟨_, rfl⟩, .inl ⟨hJ.lp, fun W4 hU4 hd4 => ?_⟩⟩
      obtain ⟨v7, r7, hi7, hb7, hs⟩ := hJ.ti
      rw [List.take_length] at hi7
      have hlo := hJ.lo
      have hi8 := hi7.upd hU4 (by omega)
      have hb8 := Blk.upd hU4 hb7 (by omega)
      have hup := Upd.call hU4 hJ.up (fun i hi h => by omega)
      have hbl8 := hb8.lt
      obtain ⟨A7, c7, rfl⟩ := hi8.slice
      have HI := Lib.hid hi8
      have HB8 := Lib.hid hb8
      have HUP := Lib.hid hup
      have HK := Lib.hid hd4
      have HM4 := Lib.hid (H.out.non hup)
      have c1 := HM4.out.B.cell 1 rfl
      have c2 := HM4.out.B.cell 2 rfl
      have x1 := hb8.cell 1 rfl
      have x2 := hb8.cell 2 rfl
      have f1 := hb8.frozen 1
      have f2 := hb8.frozen 2
      have hbb : b ≠ bs := by have := H.out.B.lt; omega
      have hbb2 : bs ≠ b := hbb.symm
      clear hd4 hL hU1 hX1 hJ hi7 hb7 hi8 hb8 hup
      go_wp2_with fail
      go_region_with (fail)
      all_goals
        obtain ⟨w8, hw8⟩ : ∃ x, x = ((W4.setCell ⟨bs, 1, none⟩ (.int .u32 s.ctrl)).setCell ⟨bs, 2, none⟩ (.int .u32 s.lost)).drew := ⟨_, rfl⟩
        have hu8 : Upd (fun i => i = bs) W4 w8 := by rw [hw8]; ((with_reducible repeat' first | exact Upd.refl _ _ | apply Upd.drew | apply Upd.drewN | apply Upd.alloc | refine Upd.setCell ?_ ?_) <;> first | (intro _ _ h; exact h) | (intro _ _ h; exact h.elim) | (intro i h1 h2; exfalso; (try simp only at h2); omega) | (left; rfl) | (right; dsimp only; omega) | (right; omega))
        have hb9 : Blk w8 bs #[.slice A7 s.xs.length c7, .int .u32 s.ctrl, .int .u32 s.lost] 39 := by rw [hw8]; exact Blk.drew (Blk.set (Blk.set HB8.out))
        rw [← hw8]
        clear hw8 c1 c2 x1 x2 f1 f2
        have y0 := hb9.cell 0 rfl
        have y1 := hb9.cell 1 rfl
        have y2 := hb9.cell 2 rfl
        have g0 := hb9.frozen 0
        have g1 := hb9.frozen 1
        have g2 := hb9.frozen 2
        have HB9 := Lib.hid hb9
        have HU8 := Lib.hid hu8
        clear hb9 hu8
        go_wp2_with fail
        have hb10 : Blk (((w8.setCell ⟨bs, 0, none⟩ (.slice A7 s.xs.length c7)).setCell ⟨bs, 1, none⟩ (.int .u32 s.ctrl)).setCell ⟨bs, 2, none⟩ (.int .u32 s.lost)) bs #[.slice A7 s.xs.length c7, .int .u32 s.ctrl, .int .u32 s.lost] 39 := Blk.set (Blk.set (Blk.set HB9.out))
        have hu10 : Upd (fun i => i = bs) W4 (((w8.setCell ⟨bs, 0, none⟩ (.slice A7 s.xs.length c7)).setCell ⟨bs, 1, none⟩ (.int .u32 s.ctrl)).setCell ⟨bs, 2, none⟩ (.int .u32 s.lost)) := by have h := HU8.out; ((with_reducible repeat' first | exact Upd.refl _ _ | apply Upd.drew | apply Upd.drewN | apply Upd.alloc | refine Upd.setCell ?_ ?_ | refine Upd.call h ?_ ?_) <;> first | (intro _ _ h; exact h) | (intro _ _ h; exact h.elim) | (intro i h1 h2; exfalso; (try simp only at h2); omega) | (left; rfl) | (right; dsimp only; omega) | (right; omega))
        have hkl := (Array.getElem?_eq_some_iff.1 HK.out).1
        refine postM_ret1 (v := .agg #[.slice A7 s.xs.length c7, .int .u32 s.ctrl, .int .u32 s.lost]) (D := D) (fun w' hu => ?_) rfl ((hu10.block D hkl (by omega)).trans HK.out) ?_
        · exact results_cell_row rfl _ w' bs 39 _ (0, 0) _ rfl (Blk.upd hu hb10 (by omega)) Try.underlying39 rfl (by kernel_rfl)
        · intro w' hu
          exact ⟨_, r7, rfl, (HI.out.upd hu10 (by omega)).upd hu (by omega), Upd.call hu (Upd.call hu10 HUP.out fun i hi h => by omega) fun i hi h => by omega⟩
    · exact h.elim
end
end Go.Proofs.Ytlpfjjhjfmcfmaa
