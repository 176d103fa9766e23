/- RotorDoes: the law's walk. Conditions: the argument's cells read as numbers. -/
import Derived.Test.YtnmbkhofikbcjaaRotorAny
import Derived.Test.YtnmbkhofikbcjaaPick
namespace Go.Proofs.Ytnmbkhofikbcjaa
open Go.RowKit Flt

theorem wrapU_range (z : Int) : 0 ≤ IntKind.u32.wrap z ∧ IntKind.u32.wrap z ≤ 4294967295 := by
  simp [IntKind.wrap, IntKind.signed, IntKind.bits]; omega
theorem bits_range (op : BinOp) (x y : Int) : 0 ≤ bits op .u32 x y ∧ bits op .u32 x y ≤ 4294967295 := wrapU_range _

/-- What is held over the law's comparisons. -/
def Held (w0 w : World) (br bs : Nat) (v n : Int) : Prop := RBlk w br v n ∧ SBlk w bs v n ∧ Upd Non w0 w
theorem Held.keep {w0 a b : World} {br bs : Nat} {v n : Int} (u : Upd Non a b) (h : Hid (Held w0 a br bs v n)) : Hid (Held w0 b br bs v n) :=
  Lib.hid ⟨RBlk.upd u h.out.1, Blk.upd u h.out.2.1 id, Upd.call u h.out.2.2 (fun _ _ h => h)⟩
theorem Held.drew {w0 a : World} {br bs : Nat} {v n : Int} (h : Hid (Held w0 a br bs v n)) : Hid (Held w0 a.drew br bs v n) := Lib.hid ⟨h.out.1, h.out.2.1, h.out.2.2.drew⟩
/-- .. with the cells that the comparisons load. -/
def HeldC (w0 w : World) (br bs : Nat) (v n : Int) : Prop := w.cell? ⟨bs, 0, none⟩ = some (.int .u32 v) ∧ w.cell? ⟨bs, 1, none⟩ = some (.int .u32 n) ∧ Hid (Held w0 w br bs v n)
theorem SC_drew {w0 a : World} {br bs : Nat} {v n : Int} (h : (a.cell? ⟨bs, 0, none⟩ = some (.int .u32 v) ∧ a.cell? ⟨bs, 1, none⟩ = some (.int .u32 n) ∧ Hid (Held w0 a br bs v n))) : (a.drew.cell? ⟨bs, 0, none⟩ = some (.int .u32 v) ∧ a.drew.cell? ⟨bs, 1, none⟩ = some (.int .u32 n) ∧ Hid (Held w0 a.drew br bs v n)) := ⟨h.1, h.2.1, Held.drew h.2.2⟩
theorem SC_upd {w0 a b : World} {br bs : Nat} {v n : Int} (u : Upd Non a b) (h : (a.cell? ⟨bs, 0, none⟩ = some (.int .u32 v) ∧ a.cell? ⟨bs, 1, none⟩ = some (.int .u32 n) ∧ Hid (Held w0 a br bs v n))) : (b.cell? ⟨bs, 0, none⟩ = some (.int .u32 v) ∧ b.cell? ⟨bs, 1, none⟩ = some (.int .u32 n) ∧ Hid (Held w0 b br bs v n)) := ⟨u.cell_eq id h.1, u.cell_eq id h.2.1, Held.keep u h.2.2⟩
theorem read_held {w0 w : World} {br bs : Nat} {v n : Int} (h : w.cell? ⟨bs, 0, none⟩ = some (.int .u32 v) ∧ w.cell? ⟨bs, 1, none⟩ = some (.int .u32 n) ∧ Hid (Held w0 w br bs v n)) (hv : 0 ≤ v ∧ v ≤ 4294967295) (reg : Int) :
    Calls Try.prog 41 #[.pointer (some ⟨br, 0, none⟩), .int .i64 reg] w fun e w' => e = .returned (.int .u32 (rd reg v n)) ∧ Upd Non w w' := read_spec br v n reg hv w h.2.2.out.1
theorem refRead_held {w0 w : World} {br bs : Nat} {v n : Int} (h : w.cell? ⟨bs, 0, none⟩ = some (.int .u32 v) ∧ w.cell? ⟨bs, 1, none⟩ = some (.int .u32 n) ∧ Hid (Held w0 w br bs v n)) (reg : Int) :
    Calls Try.prog 42 #[.pointer (some ⟨bs, 0, none⟩), .int .i64 reg] w fun e w' => e = .returned (.int .u32 (rd reg v n)) ∧ Upd Non w w' :=
  (refRead_spec bs v n reg w h.2.2.out.2.1).mono fun _ _ ⟨h1, h2⟩ => ⟨h1, h2 ▸ Upd.refl _ _⟩

theorem does_none (A : Option Addr) (n c : Nat) (h : 300 < n) (w : World) :
    Calls Try.prog 11 #[.slice A n c] w fun e w' => e = .returned (.bool true) ∧ Upd Non w w' := by
  have h3 : (300 : Int) < n := by omega
  clear h
  go_enter Try.func11, Try.ntmps11
  go_wp2_with fail
  refine (awake_spec _).mono ?_
  rintro e w1 ⟨rfl, U1⟩
  go_wp2_with fail
  go_ret
  exact ⟨rfl, U1⟩

set_option maxRecDepth 100000 in
set_option maxHeartbeats 16000000 in
theorem does_some (A : Option Addr) (N c : Nat) (R V : Nat → Int) (h : N ≤ 300) (w : World)
    (hc : 0 < N → ∃ b o, A = some ⟨b, o, none⟩ ∧ ∀ j, j < N → w.cell? ⟨b, o + j * 2, none⟩ = some (.int .i64 (R j)) ∧ w.cell? ⟨b, o + j * 2 + 1, none⟩ = some (.int .u32 (V j)) ∧ 0 ≤ V j ∧ V j ≤ 4294967295) :
    Calls Try.prog 11 #[.slice A N c] w fun e w' => e = .returned (.bool true) ∧ Upd Non w w' := by
  have k0 : ¬ (300 : Int) < N := by omega
  have HC := Lib.hid hc
  clear hc
  go_enter Try.func11, Try.ntmps11
  go_wp2_with fail
  refine (rotorNew_spec _).mono ?_
  rintro e w1 ⟨rfl, U1, hr⟩
  have hr0 := hr.lt
  obtain ⟨br, hbr⟩ : ∃ b, b = w.heap.size := ⟨_, rfl⟩
  rw [← hbr] at hr hr0 ⊢
  have HR := Lib.hid hr
  have HU := Lib.hid U1
  clear hr U1
  go_wp2_with fail
  obtain ⟨bs, hbs⟩ : ∃ b, b = w1.heap.size := ⟨_, rfl⟩
  have hs : SBlk (w1.alloc (.cells #[.int .u32 0, .int .u32 0] 75)) bs 0 0 := hbs ▸ Blk.new w1 _ _
  have HS := Lib.hid hs
  have hR' : RBlk (w1.alloc (.cells #[.int .u32 0, .int .u32 0] 75)) br 0 0 := Blk.alloc HR.out
  have HR' := Lib.hid hR'
  have hU' : Upd Non w (w1.alloc (.cells #[.int .u32 0, .int .u32 0] 75)) := Upd.alloc HU.out
  have HU' := Lib.hid hU'
  clear hs hR' hU'
  rw [← hbs]
  have hbrs : br ≠ bs := by omega
  have hbw : w.heap.size ≤ br := by omega
  have hsw : w.heap.size ≤ bs := by omega
  have HBR := Lib.hid hbr
  clear hbr hbs hr0
  go_loopw [3, 5] (fun r i wr => ∃ (t br : Nat) (v n : Int), t ≤ N ∧ i = .int .i64 t ∧ r = .pointer (some ⟨br, 0, none⟩) ∧ (0 ≤ v ∧ v ≤ 4294967295) ∧ w.heap.size ≤ br ∧ br ≠ bs ∧ RBlk wr br v n ∧ SBlk wr bs v n ∧ Upd Non w wr) (fun _ i _ => N - (intOf i).toNat)
  case atStart => exact ⟨0, br, 0, 0, by omega, rfl, by rw [HBR.out], by decide, hbw, hbrs, HR'.out, HS.out, HU'.out⟩
  case round =>
    clear HR HS HR' HU HU' hbrs hbw HBR
    obtain ⟨t, br, v, n, ht, rfl, rfl, hv, hbw, hbrs, hr, hs, hu⟩ := hrel
    have HR := Lib.hid hr
    have HS := Lib.hid hs
    have HU := Lib.hid hu
    have HV := Lib.hid hv
    clear hr hs hu hv
    by_cases hlt : t < N
    case neg =>
      have k1 : ¬ (t : Int) < N := by omega
      go_wp2_with fail
      refine (awake_spec _).mono ?_
      rintro e w2 ⟨rfl, U2⟩
      go_wp2_with fail
      go_ret
      exact ⟨rfl, by ((with_reducible repeat' first | exact Upd.refl _ _ | apply Upd.drew | apply Upd.drewN | apply Upd.alloc | refine Upd.setCell ?_ ?_ | refine Upd.call U2 ?_ ?_ | refine Upd.call HU.out ?_ ?_) <;> first | (intro _ _ h; exact h) | (intro _ _ h; exact h.elim) | (intro i h1 h2; exfalso; (try simp only at h2); omega) | (left; rfl) | (right; dsimp only; omega) | (right; omega))⟩
    have k1 : (t : Int) < N := by omega
    obtain ⟨b, o, rfl, hcells⟩ := HC.out (by omega)
    obtain ⟨ce1, ce2, ce3⟩ := hcells t hlt
    have hbl : b < w.heap.size := World.block_lt_of_cell? _ _ ce1
    have CE1 := Lib.hid ce1
    have CE2 := Lib.hid ce2
    have CE3 := Lib.hid ce3
    clear hcells ce1 ce2 ce3
    go_wp2_with fail
    go_loopw [3, 6] (fun r i wr => ∃ (q br : Nat) (v n : Int), q ≤ 2 ∧ i = .int .i64 q ∧ r = .pointer (some ⟨br, 0, none⟩) ∧ (0 ≤ v ∧ v ≤ 4294967295) ∧ w.heap.size ≤ br ∧ br ≠ bs ∧ RBlk wr br v n ∧ SBlk wr bs v n ∧ Upd Non w wr) (fun _ i _ => 2 - (intOf i).toNat)
    case atStart => exact ⟨0, br, v, n, by omega, rfl, rfl, HV.out, hbw, hbrs, HR.out, HS.out, HU.out⟩
    case round =>
      clear HR HS HU HV hbrs hbw
      obtain ⟨q, br, v, n, hq, rfl, rfl, hv, hbw, hbrs, hr, hs, hu⟩ := hrel
      have HR := Lib.hid hr
      have HS := Lib.hid hs
      have HU := Lib.hid hu
      have HV := Lib.hid hv
      clear hr hs hu hv
      by_cases hq2 : q < 2
      case neg =>
        have : q = 2 := by omega
        subst this
        go_wp2_with fail
        go_roundw
        case rel => exact ⟨t + 1, br, v, n, by omega, by go_num, rfl, HV.out, hbw, hbrs, HR.out, HS.out, HU.out⟩
        case measure => simp [intOf]; omega
      have hrl := HR.out.lt
      have hsl := HS.out.lt
      have ce1 := HU.out.cell_eq id CE1.out
      have ce2 := HU.out.cell_eq id CE2.out
      rcases (show q = 0 ∨ q = 1 by omega) with rfl | rfl

      · have k2 := hq2
        clear k2
        go_wp2_with fail
        generalize hrg : R t = rg at *
        clear hrg
        refine (write_any br v n (V t) rg CE3.out _ HR.out).mono ?_
        rintro e w2 ⟨rfl, hr2, U2⟩
        have HR2 := Lib.hid hr2
        have HS2 := Lib.hid (show SBlk w2 bs v n from Blk.upd U2 HS.out (Ne.symm hbrs))
        have HU2 := Lib.hid (by ((with_reducible repeat' first | exact Upd.refl _ _ | apply Upd.drew | apply Upd.drewN | apply Upd.alloc | refine Upd.setCell ?_ ?_ | refine Upd.call U2 ?_ ?_ | refine Upd.call HU.out ?_ ?_) <;> first | (intro _ _ h; exact h) | (intro _ _ h; exact h.elim) | (intro i h1 h2; exfalso; (try simp only at h2); omega) | (left; rfl) | (right; dsimp only; omega) | (right; omega)) : Upd Non w w2)
        have ce3 := HU2.out.cell_eq id CE2.out
        clear hr2 U2
        go_wp2_with fail
        refine (refWrite_any bs v n (V t) rg HV.out CE3.out _ HS2.out).mono ?_
        rintro e w3 ⟨rfl, hs3, U3⟩
        have HS3 := Lib.hid hs3
        have HR3 := Lib.hid (show RBlk w3 br _ _ from Blk.upd U3 HR2.out hbrs)
        have HU3 := Lib.hid (by ((with_reducible repeat' first | exact Upd.refl _ _ | apply Upd.drew | apply Upd.drewN | apply Upd.alloc | refine Upd.setCell ?_ ?_ | refine Upd.call U3 ?_ ?_ | refine Upd.call HU2.out ?_ ?_) <;> first | (intro _ _ h; exact h) | (intro _ _ h; exact h.elim) | (intro i h1 h2; exfalso; (try simp only at h2); omega) | (left; rfl) | (right; dsimp only; omega) | (right; omega)) : Upd Non w w3)
        clear hs3 U3
        have HV3 := Lib.hid (wV_range rg v (V t) HV.out CE3.out)
        generalize wV rg v (V t) = v' at *
        generalize wN rg n = n' at *
        go_wp2_with fail
        refine (state_spec br v' n' HV3.out _ HR3.out).mono ?_
        rintro e w4 ⟨rfl, U4⟩
        have HR4 := RBlk.upd U4 HR3.out
        have HS4 : SBlk w4 bs v' n' := Blk.upd U4 HS3.out id
        have HU4 : Upd Non w w4 := by ((with_reducible repeat' first | exact Upd.refl _ _ | apply Upd.drew | apply Upd.drewN | apply Upd.alloc | refine Upd.setCell ?_ ?_ | refine Upd.call U4 ?_ ?_ | refine Upd.call HU3.out ?_ ?_) <;> first | (intro _ _ h; exact h) | (intro _ _ h; exact h.elim) | (intro i h1 h2; exfalso; (try simp only at h2); omega) | (left; rfl) | (right; dsimp only; omega) | (right; omega))
        clear U4
        have d0 : w4.cell? ⟨bs, 0, none⟩ = some (.int .u32 v') := HS4.cell 0 rfl
        have d1 : w4.cell? ⟨bs, 1, none⟩ = some (.int .u32 n') := HS4.cell 1 rfl
        have H4 : Hid (Held w w4 br bs v' n') := Lib.hid ⟨HR4, HS4, HU4⟩
        clear HR4 HS4 HU4
        go_wp2_with fail
        have hrd0 : rd 0 v' n' = v' := rfl
        have hrd4 : rd 4 v' n' = n' := rfl
        go_region_held3 (fun w' => w'.cell? ⟨bs, 0, none⟩ = some (.int .u32 v') ∧ w'.cell? ⟨bs, 1, none⟩ = some (.int .u32 n') ∧ Hid (Held w w' br bs v' n')) (first | exact SC_drew ⟨d0, d1, H4⟩ | exact SC_upd (by assumption) (by assumption) | exact SC_drew (by assumption) | exact SC_upd (by assumption) ⟨d0, d1, H4⟩) (first | (go_at_call 42; refine Calls.mono (refRead_held (w0 := w) (br := br) (v := v') (n := n') ?hh _) ?_; (case hh => assumption); rintro e w5 ⟨rfl, U5⟩) | (go_at_call 41; refine Calls.mono (read_held (w0 := w) (bs := bs) (v := v') (n := n') ?hh HV3.out _) ?_; (case hh => assumption); rintro e w5 ⟨rfl, U5⟩))
        rename_i hS
        have HH5 := Lib.hid hS.2.2.out
        clear hS
        have hb5 := HH5.out.1.lt
        have hs5 := HH5.out.2.1.lt
        have hU5 : Upd Non w w5 := HH5.out.2.2
        have hw5 := hU5.size
        go_wp2_with fail
        refine (copy_spec br v' n' _ HH5.out.1).mono ?_
        rintro e w6 ⟨rfl, hr6, U6⟩
        obtain ⟨bc, hbc⟩ : ∃ x, x = w5.heap.size := ⟨_, rfl⟩
        rw [← hbc] at hr6 ⊢
        have hcr : ¬ bc = br := by omega
        have hcs : bc ≠ bs := by omega
        have hcw : w.heap.size ≤ bc := by omega
        clear hbc
        have HC6 := Lib.hid hr6
        have HR6 := Lib.hid (RBlk.upd U6 HH5.out.1)
        have HS6 := Lib.hid (show SBlk w6 bs v' n' from Blk.upd U6 HH5.out.2.1 id)
        have HU6 := Lib.hid (by ((with_reducible repeat' first | exact Upd.refl _ _ | apply Upd.drew | apply Upd.drewN | apply Upd.alloc | refine Upd.setCell ?_ ?_ | refine Upd.call U6 ?_ ?_ | refine Upd.call hU5 ?_ ?_) <;> first | (intro _ _ h; exact h) | (intro _ _ h; exact h.elim) | (intro i h1 h2; exfalso; (try simp only at h2); omega) | (left; rfl) | (right; dsimp only; omega) | (right; omega)) : Upd Non w w6)
        have ce6 := HU6.out.cell_eq id CE2.out
        clear hr6 U6
        go_wp2_with fail
        refine Calls.mono (write_any br v' n' _ 1 (bits_range _ _ _) _ HR6.out) ?_
        rintro e w7 ⟨rfl, hr7, U7⟩
        have HR7 := Lib.hid hr7
        have HC7 := Lib.hid (show RBlk w7 bc v' n' from Blk.upd U7 HC6.out hcr)
        have HS7 := Lib.hid (show SBlk w7 bs v' n' from Blk.upd U7 HS6.out (Ne.symm hbrs))
        have HU7 := Lib.hid (by ((with_reducible repeat' first | exact Upd.refl _ _ | apply Upd.drew | apply Upd.drewN | apply Upd.alloc | refine Upd.setCell ?_ ?_ | refine Upd.call U7 ?_ ?_ | refine Upd.call HU6.out ?_ ?_) <;> first | (intro _ _ h; exact h) | (intro _ _ h; exact h.elim) | (intro i h1 h2; exfalso; (try simp only at h2); omega) | (left; rfl) | (right; dsimp only; omega) | (right; omega)) : Upd Non w w7)
        have d7 : w7.cell? ⟨bs, 0, none⟩ = some (.int .u32 v') := HS7.out.cell 0 rfl
        clear hr7 U7
        go_wp2_with fail
        refine Calls.mono (write_any br _ _ _ 0 ?hx _ HR7.out) ?_
        case hx =>
          first | exact bits_range _ _ _ | exact wrapU_range _ | (have := HV3.out; omega)
        rintro e w8 ⟨rfl, hr8, U8⟩
        have HC8 := Lib.hid (show RBlk w8 bc v' n' from Blk.upd U8 HC7.out hcr)
        have HS8 := Lib.hid (show SBlk w8 bs v' n' from Blk.upd U8 HS7.out (Ne.symm hbrs))
        have HU8 := Lib.hid (by ((with_reducible repeat' first | exact Upd.refl _ _ | apply Upd.drew | apply Upd.drewN | apply Upd.alloc | refine Upd.setCell ?_ ?_ | refine Upd.call U8 ?_ ?_ | refine Upd.call HU7.out ?_ ?_) <;> first | (intro _ _ h; exact h) | (intro _ _ h; exact h.elim) | (intro i h1 h2; exfalso; (try simp only at h2); omega) | (left; rfl) | (right; dsimp only; omega) | (right; omega)) : Upd Non w w8)
        clear hr8 U8
        go_wp2_with fail
        go_roundw
        case rel => exact ⟨1, bc, v', n', by omega, by go_num, rfl, HV3.out, hcw, hcs, HC8.out, HS8.out, HU8.out⟩
        case measure => simp [intOf]
      · have k2 := hq2
        clear k2
        go_wp2_with fail
        refine (pick_spec (R t) 6 (by decide) (by decide) _).mono ?_
        rintro e w2 ⟨rfl, rfl⟩
        go_wp2_with fail
        generalize hrg : R t % 6 = rg at *
        clear hrg
        refine (write_any br v n (V t) rg CE3.out _ HR.out).mono ?_
        rintro e w2 ⟨rfl, hr2, U2⟩
        have HR2 := Lib.hid hr2
        have HS2 := Lib.hid (show SBlk w2 bs v n from Blk.upd U2 HS.out (Ne.symm hbrs))
        have HU2 := Lib.hid (by ((with_reducible repeat' first | exact Upd.refl _ _ | apply Upd.drew | apply Upd.drewN | apply Upd.alloc | refine Upd.setCell ?_ ?_ | refine Upd.call U2 ?_ ?_ | refine Upd.call HU.out ?_ ?_) <;> first | (intro _ _ h; exact h) | (intro _ _ h; exact h.elim) | (intro i h1 h2; exfalso; (try simp only at h2); omega) | (left; rfl) | (right; dsimp only; omega) | (right; omega)) : Upd Non w w2)
        have ce3 := HU2.out.cell_eq id CE2.out
        clear hr2 U2
        go_wp2_with fail
        refine (refWrite_any bs v n (V t) rg HV.out CE3.out _ HS2.out).mono ?_
        rintro e w3 ⟨rfl, hs3, U3⟩
        have HS3 := Lib.hid hs3
        have HR3 := Lib.hid (show RBlk w3 br _ _ from Blk.upd U3 HR2.out hbrs)
        have HU3 := Lib.hid (by ((with_reducible repeat' first | exact Upd.refl _ _ | apply Upd.drew | apply Upd.drewN | apply Upd.alloc | refine Upd.setCell ?_ ?_ | refine Upd.call U3 ?_ ?_ | refine Upd.call HU2.out ?_ ?_) <;> first | (intro _ _ h; exact h) | (intro _ _ h; exact h.elim) | (intro i h1 h2; exfalso; (try simp only at h2); omega) | (left; rfl) | (right; dsimp only; omega) | (right; omega)) : Upd Non w w3)
        clear hs3 U3
        have HV3 := Lib.hid (wV_range rg v (V t) HV.out CE3.out)
        generalize wV rg v (V t) = v' at *
        generalize wN rg n = n' at *
        go_wp2_with fail
        refine (state_spec br v' n' HV3.out _ HR3.out).mono ?_
        rintro e w4 ⟨rfl, U4⟩
        have HR4 := RBlk.upd U4 HR3.out
        have HS4 : SBlk w4 bs v' n' := Blk.upd U4 HS3.out id
        have HU4 : Upd Non w w4 := by ((with_reducible repeat' first | exact Upd.refl _ _ | apply Upd.drew | apply Upd.drewN | apply Upd.alloc | refine Upd.setCell ?_ ?_ | refine Upd.call U4 ?_ ?_ | refine Upd.call HU3.out ?_ ?_) <;> first | (intro _ _ h; exact h) | (intro _ _ h; exact h.elim) | (intro i h1 h2; exfalso; (try simp only at h2); omega) | (left; rfl) | (right; dsimp only; omega) | (right; omega))
        clear U4
        have d0 : w4.cell? ⟨bs, 0, none⟩ = some (.int .u32 v') := HS4.cell 0 rfl
        have d1 : w4.cell? ⟨bs, 1, none⟩ = some (.int .u32 n') := HS4.cell 1 rfl
        have H4 : Hid (Held w w4 br bs v' n') := Lib.hid ⟨HR4, HS4, HU4⟩
        clear HR4 HS4 HU4
        go_wp2_with fail
        have hrd0 : rd 0 v' n' = v' := rfl
        have hrd4 : rd 4 v' n' = n' := rfl
        go_region_held3 (fun w' => w'.cell? ⟨bs, 0, none⟩ = some (.int .u32 v') ∧ w'.cell? ⟨bs, 1, none⟩ = some (.int .u32 n') ∧ Hid (Held w w' br bs v' n')) (first | exact SC_drew ⟨d0, d1, H4⟩ | exact SC_upd (by assumption) (by assumption) | exact SC_drew (by assumption) | exact SC_upd (by assumption) ⟨d0, d1, H4⟩) (first | (go_at_call 42; refine Calls.mono (refRead_held (w0 := w) (br := br) (v := v') (n := n') ?hh _) ?_; (case hh => assumption); rintro e w5 ⟨rfl, U5⟩) | (go_at_call 41; refine Calls.mono (read_held (w0 := w) (bs := bs) (v := v') (n := n') ?hh HV3.out _) ?_; (case hh => assumption); rintro e w5 ⟨rfl, U5⟩))
        rename_i hS
        have HH5 := Lib.hid hS.2.2.out
        clear hS
        have hb5 := HH5.out.1.lt
        have hs5 := HH5.out.2.1.lt
        have hU5 : Upd Non w w5 := HH5.out.2.2
        have hw5 := hU5.size
        go_wp2_with fail
        refine (copy_spec br v' n' _ HH5.out.1).mono ?_
        rintro e w6 ⟨rfl, hr6, U6⟩
        obtain ⟨bc, hbc⟩ : ∃ x, x = w5.heap.size := ⟨_, rfl⟩
        rw [← hbc] at hr6 ⊢
        have hcr : ¬ bc = br := by omega
        have hcs : bc ≠ bs := by omega
        have hcw : w.heap.size ≤ bc := by omega
        clear hbc
        have HC6 := Lib.hid hr6
        have HR6 := Lib.hid (RBlk.upd U6 HH5.out.1)
        have HS6 := Lib.hid (show SBlk w6 bs v' n' from Blk.upd U6 HH5.out.2.1 id)
        have HU6 := Lib.hid (by ((with_reducible repeat' first | exact Upd.refl _ _ | apply Upd.drew | apply Upd.drewN | apply Upd.alloc | refine Upd.setCell ?_ ?_ | refine Upd.call U6 ?_ ?_ | refine Upd.call hU5 ?_ ?_) <;> first | (intro _ _ h; exact h) | (intro _ _ h; exact h.elim) | (intro i h1 h2; exfalso; (try simp only at h2); omega) | (left; rfl) | (right; dsimp only; omega) | (right; omega)) : Upd Non w w6)
        have ce6 := HU6.out.cell_eq id CE2.out
        clear hr6 U6
        go_wp2_with fail
        refine Calls.mono (write_any br v' n' _ 1 (bits_range _ _ _) _ HR6.out) ?_
        rintro e w7 ⟨rfl, hr7, U7⟩
        have HR7 := Lib.hid hr7
        have HC7 := Lib.hid (show RBlk w7 bc v' n' from Blk.upd U7 HC6.out hcr)
        have HS7 := Lib.hid (show SBlk w7 bs v' n' from Blk.upd U7 HS6.out (Ne.symm hbrs))
        have HU7 := Lib.hid (by ((with_reducible repeat' first | exact Upd.refl _ _ | apply Upd.drew | apply Upd.drewN | apply Upd.alloc | refine Upd.setCell ?_ ?_ | refine Upd.call U7 ?_ ?_ | refine Upd.call HU6.out ?_ ?_) <;> first | (intro _ _ h; exact h) | (intro _ _ h; exact h.elim) | (intro i h1 h2; exfalso; (try simp only at h2); omega) | (left; rfl) | (right; dsimp only; omega) | (right; omega)) : Upd Non w w7)
        have d7 : w7.cell? ⟨bs, 0, none⟩ = some (.int .u32 v') := HS7.out.cell 0 rfl
        clear hr7 U7
        go_wp2_with fail
        refine Calls.mono (write_any br _ _ _ 0 ?hx _ HR7.out) ?_
        case hx =>
          first | exact bits_range _ _ _ | exact wrapU_range _ | (have := HV3.out; omega)
        rintro e w8 ⟨rfl, hr8, U8⟩
        have HC8 := Lib.hid (show RBlk w8 bc v' n' from Blk.upd U8 HC7.out hcr)
        have HS8 := Lib.hid (show SBlk w8 bs v' n' from Blk.upd U8 HS7.out (Ne.symm hbrs))
        have HU8 := Lib.hid (by ((with_reducible repeat' first | exact Upd.refl _ _ | apply Upd.drew | apply Upd.drewN | apply Upd.alloc | refine Upd.setCell ?_ ?_ | refine Upd.call U8 ?_ ?_ | refine Upd.call HU7.out ?_ ?_) <;> first | (intro _ _ h; exact h) | (intro _ _ h; exact h.elim) | (intro i h1 h2; exfalso; (try simp only at h2); omega) | (left; rfl) | (right; dsimp only; omega) | (right; omega)) : Upd Non w w8)
        clear hr8 U8
        go_wp2_with fail
        go_roundw
        case rel => exact ⟨2, bc, v', n', by omega, by go_num, rfl, HV3.out, hcw, hcs, HC8.out, HS8.out, HU8.out⟩
        case measure => simp [intOf]
end Go.Proofs.Ytnmbkhofikbcjaa
