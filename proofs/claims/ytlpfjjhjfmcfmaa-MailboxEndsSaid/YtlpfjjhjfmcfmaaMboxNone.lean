/- No mailbox: nil, and one that New did not make; rows of deeds that a law makes. No condition. -/
import Derived.Test.YtlpfjjhjfmcfmaaMboxDoesLaw
import Derived.Deep.AppendLies
namespace Go.Proofs.Ytlpfjjhjfmcfmaa
open Go.RowKit Go.Shelf
/-- Nil, or a mailbox that New did not make. -/
def DeadM (w : World) (p : Option Addr) : Prop := p = none ∨ ∃ b, p = some ⟨b, 0, none⟩ ∧ w.cell? ⟨b, 0, none⟩ = some (.pointer none)
theorem DeadM.upd {w w' : World} {p : Option Addr} (h : DeadM w p) (u : Upd Non w w') : DeadM w' p := by
  rcases h with rfl | ⟨b, rfl, hc⟩
  · exact .inl rfl
  · exact .inr ⟨b, rfl, u.cell_eq id hc⟩
theorem there_dead {p : Option Addr} (w : World) (h : DeadM w p) : Calls Try.prog 46 #[.pointer p] w fun e w' => e = .returned (.bool false) ∧ w = w' := by
  rcases h with rfl | ⟨b, rfl, hc⟩
  · go_enter Try.func46, Try.ntmps46
    go_wp2
    go_ret
    exact ⟨rfl, rfl⟩
  · go_enter Try.func46, Try.ntmps46
    go_wp2
    go_ret
    exact ⟨rfl, rfl⟩
theorem line_dead {p : Option Addr} (w : World) (h : DeadM w p) : Calls Try.prog 21 #[.pointer p] w fun e w' => e = .returned (.bool false) ∧ w = w' := by
  have H := Lib.hid h
  clear h
  go_enter Try.func21, Try.ntmps21
  go_wp2_with fail
  refine (there_dead _ H.out).mono ?_
  rintro e w1 ⟨rfl, rfl⟩
  go_wp2_with fail
  go_ret
  exact ⟨rfl, rfl⟩
theorem copy_dead {p : Option Addr} (w : World) (h : DeadM w p) : Calls Try.prog 24 #[.pointer p] w fun e w' => e = .returned (.pointer none) ∧ w = w' := by
  have H := Lib.hid h
  clear h
  go_enter Try.func24, Try.ntmps24
  go_wp2_with fail
  refine (there_dead _ H.out).mono ?_
  rintro e w1 ⟨rfl, rfl⟩
  go_wp2_with fail
  go_ret
  exact ⟨rfl, rfl⟩
set_option maxRecDepth 100000 in
theorem read_dead {p : Option Addr} (r : Int) (w : World) (h : DeadM w p) : Calls Try.prog 20 #[.pointer p, .int .i64 r] w fun e w' => e = .returned (.int .u32 0) ∧ Upd Non w w' := by
  have H := Lib.hid h
  clear h
  go_enter Try.func20, Try.ntmps20
  go_upto_region 2 with (refine wpList_store_row rfl 74 _ _ rfl w.heap.size #[.func (.func 47) #[] #[], .func (.func 48) #[] #[], .func (.func 49) #[] #[], .func (.func 50) #[] #[]] rfl rfl 74 #[.nilFunc, .nilFunc, .nilFunc, .nilFunc] (heap_alloc_new w _) (by kernel_rfl) rfl (by simp [Value.oneCell']) ?_; rw [World.setRow_alloc_new])
  obtain ⟨wa, hwa⟩ : ∃ x, x = w.alloc (.cells #[.func (.func 47) #[] #[], .func (.func 48) #[] #[], .func (.func 49) #[] #[], .func (.func 50) #[] #[]] 74) := ⟨_, rfl⟩
  have HU := Lib.hid (show Upd Non w wa by rw [hwa]; ((with_reducible repeat' first | exact Upd.refl _ _ | apply Upd.drew | apply Upd.drewN | apply Upd.alloc | refine Upd.setCell ?_ ?_) <;> first | (intro _ _ h; exact h) | (intro _ _ h; exact h.elim) | (intro i h1 h2; exfalso; (try simp only at h2); omega) | (left; rfl) | (right; dsimp only; omega) | (right; omega)))
  rw [← hwa]
  clear hwa
  go_wp2_with fail
  refine (there_dead _ (H.out.upd HU.out)).mono ?_
  rintro e w1 ⟨rfl, rfl⟩
  go_wp2_with fail
  go_ret
  exact ⟨rfl, HU.out⟩
set_option maxRecDepth 100000 in
theorem write_dead {p : Option Addr} (r v : Int) (w : World) (h : DeadM w p) : Calls Try.prog 19 #[.pointer p, .int .i64 r, .int .u32 v] w fun e w' => e = .returned (.tuple #[]) ∧ Upd Non w w' := by
  have H := Lib.hid h
  clear h
  go_enter Try.func19, Try.ntmps19
  go_upto_region 1 with (refine wpList_store_row rfl 72 _ _ rfl w.heap.size #[.func (.func 42) #[] #[], .func (.func 43) #[] #[], .func (.func 44) #[] #[], .func (.func 45) #[] #[]] rfl rfl 72 #[.nilFunc, .nilFunc, .nilFunc, .nilFunc] (heap_alloc_new w _) (by kernel_rfl) rfl (by simp [Value.oneCell']) ?_; rw [World.setRow_alloc_new])
  obtain ⟨wa, hwa⟩ : ∃ x, x = w.alloc (.cells #[.func (.func 42) #[] #[], .func (.func 43) #[] #[], .func (.func 44) #[] #[], .func (.func 45) #[] #[]] 72) := ⟨_, rfl⟩
  have HU := Lib.hid (show Upd Non w wa by rw [hwa]; ((with_reducible repeat' first | exact Upd.refl _ _ | apply Upd.drew | apply Upd.drewN | apply Upd.alloc | refine Upd.setCell ?_ ?_) <;> first | (intro _ _ h; exact h) | (intro _ _ h; exact h.elim) | (intro i h1 h2; exfalso; (try simp only at h2); omega) | (left; rfl) | (right; dsimp only; omega) | (right; omega)))
  rw [← hwa]
  clear hwa
  go_wp2_with fail
  refine (there_dead _ (H.out.upd HU.out)).mono ?_
  rintro e w1 ⟨rfl, rfl⟩
  go_wp2_with fail
  go_end0
  exact ⟨rfl, HU.out⟩
set_option maxRecDepth 100000 in
theorem state_dead {p : Option Addr} (w : World) (h : DeadM w p) : Calls Try.prog 22 #[.pointer p] w fun e w' => e = .returned (.agg #[.slice none 0 0, .int .u32 0, .int .u32 0]) ∧ Upd Non w w' := by
  have H := Lib.hid h
  clear h
  refine calls_of_wp_range Try.func22 rfl ?_
  simp only [Try.ntmps22, List.size_toArray, List.length_cons, List.length_nil, Nat.reduceAdd, Nat.reduceSub, Array.replicate_succ, Array.replicate_zero, List.push_toArray, List.append_toArray, List.nil_append, List.cons_append]
  go_upto_region 1 with fail
  obtain ⟨wa, hwa⟩ : ∃ x, x = w.alloc (.cells #[.slice none 0 0, .int .u32 0, .int .u32 0] 39) := ⟨_, rfl⟩
  obtain ⟨bs, hbs⟩ : ∃ x, x = w.heap.size := ⟨_, rfl⟩
  have hS : Blk wa bs #[.slice none 0 0, .int .u32 0, .int .u32 0] 39 := by rw [hwa]; exact Blk.newAt hbs
  have HS := Lib.hid hS
  have HU := Lib.hid (show Upd Non w wa by rw [hwa]; ((with_reducible repeat' first | exact Upd.refl _ _ | apply Upd.drew | apply Upd.drewN | apply Upd.alloc | refine Upd.setCell ?_ ?_) <;> first | (intro _ _ h; exact h) | (intro _ _ h; exact h.elim) | (intro i h1 h2; exfalso; (try simp only at h2); omega) | (left; rfl) | (right; dsimp only; omega) | (right; omega)))
  have hbw : w.heap.size ≤ bs := by omega
  have y0 := hS.cell 0 rfl
  have y1 := hS.cell 1 rfl
  have y2 := hS.cell 2 rfl
  have g0 := hS.frozen 0
  have g1 := hS.frozen 1
  have g2 := hS.frozen 2
  rw [← hwa, ← hbs]
  clear hwa hbs hS
  go_wp2_with fail
  refine (there_dead _ (H.out.upd HU.out)).mono ?_
  rintro e w1 ⟨rfl, rfl⟩
  go_wp2_with fail
  have hb10 : Blk (((wa.setCell ⟨bs, 0, none⟩ (.slice none 0 0)).setCell ⟨bs, 1, none⟩ (.int .u32 0)).setCell ⟨bs, 2, none⟩ (.int .u32 0)) bs #[.slice none 0 0, .int .u32 0, .int .u32 0] 39 := Blk.set (Blk.set (Blk.set HS.out))
  have hu10 : Upd Non w (((wa.setCell ⟨bs, 0, none⟩ (.slice none 0 0)).setCell ⟨bs, 1, none⟩ (.int .u32 0)).setCell ⟨bs, 2, none⟩ (.int .u32 0)) := by have h := HU.out; ((with_reducible repeat' first | exact Upd.refl _ _ | apply Upd.drew | apply Upd.drewN | apply Upd.alloc | refine Upd.setCell ?_ ?_ | refine Upd.call h ?_ ?_) <;> first | (intro _ _ h; exact h) | (intro _ _ h; exact h.elim) | (intro i h1 h2; exfalso; (try simp only at h2); omega) | (left; rfl) | (right; dsimp only; omega) | (right; omega))
  refine postM_ret0 (v := .agg #[.slice none 0 0, .int .u32 0, .int .u32 0]) ?_ rfl ⟨rfl, hu10⟩
  exact results_cell_row rfl _ _ bs 39 _ (0, 0) _ rfl hb10 Try.underlying39 rfl (by kernel_rfl)
/-- A deed, as cells. -/
structure DT where
  H : Int
  R : Int
  V : Int
def DT.enc (d : DT) : List Value := [.int .i64 d.H, .int .i64 d.R, .int .u32 d.V]
def dtL : List DT → List Value
  | [] => []
  | x :: l => x.enc ++ dtL l
theorem dtL_length : ∀ l, (dtL l).length = l.length * 3
  | [] => rfl
  | x :: l => by rw [dtL, List.length_append, dtL_length l, List.length_cons]; show 3 + _ = _; omega
theorem dtL_append : ∀ l m, dtL (l ++ m) = dtL l ++ dtL m
  | [], m => rfl
  | x :: l, m => by rw [List.cons_append, dtL, dtL_append l m, dtL, List.append_assoc]
theorem dtL_one : ∀ l, (dtL l).all (fun u => u.oneCell') = true
  | [] => rfl
  | x :: l => by rw [dtL, List.all_append, dtL_one l]; rfl
theorem dtL_at : ∀ (l : List DT) (i : Nat) (x : DT), l[i]? = some x → ∀ k, k < 3 → (dtL l)[i * 3 + k]? = x.enc[k]?
  | [], i, x, h, k, hk => by simp at h
  | y :: l, 0, x, h, k, hk => by
    simp at h
    subst h
    rw [dtL, List.getElem?_append_left (by show _ < 3; omega)]
    simp
  | y :: l, i + 1, x, h, k, hk => by
    rw [List.getElem?_cons_succ] at h
    rw [dtL, List.getElem?_append_right (by show 3 ≤ _; omega), show (i + 1) * 3 + k - y.enc.length = i * 3 + k by show _ - 3 = _; omega]
    exact dtL_at l i x h k hk
def DT.ok (d : DT) : Prop := 0 ≤ d.V ∧ d.V < 4294967296
theorem does_row {w : World} {base m c : Nat} {A : Option Addr} {l : List DT} (hm : m = l.length) (ho : w.ownsRow base 48 3 (.slice A m c) m (dtL l)) (hl : ∀ x ∈ l, x.ok) : Calls Try.prog 7 #[.slice A m c] w fun e w' => e = .returned (.bool true) ∧ Upd Non w w' := by
  subst hm
  have hx : ∀ i, i < l.length → l[i]? = some (l.getD i ⟨0, 0, 0⟩) := fun i hi => by rw [List.getD_eq_getElem?_getD, List.getElem?_eq_getElem hi]; rfl
  refine does_m A l.length c (fun i => (l.getD i ⟨0, 0, 0⟩).H) (fun i => (l.getD i ⟨0, 0, 0⟩).R) (fun i => (l.getD i ⟨0, 0, 0⟩).V) w ⟨fun hp => ?_, fun i hi => hl _ (List.mem_of_getElem? (hx i hi))⟩
  obtain ⟨A', c', e, hc⟩ := own_cells ho
  obtain ⟨g, rfl, _, _, _, h8⟩ := hc hp
  cases e
  refine ⟨g, 0, rfl, fun i hi => ?_⟩
  have key : ∀ k u, k < 3 → (l.getD i ⟨0, 0, 0⟩).enc[k]? = some u → w.cell? ⟨g, 0 + i * 3 + k, none⟩ = some u := fun k u hk hu => by
    rw [Nat.zero_add]
    exact h8 _ u ((dtL_at l i _ (hx i hi) k hk).trans hu)
  exact ⟨key 0 _ (by decide) rfl, key 1 _ (by decide) rfl, key 2 _ (by decide) rfl⟩
theorem Try.info48 : (Try.prog.info? 48).map (fun i => (i.zero, i.size, i.bytes)) = some (some (.agg #[.int .i64 0, .int .i64 0, .int .u32 0]), 3, 24) := by kernel_rfl
theorem u32_wrap (x : Int) : 0 ≤ IntKind.u32.wrap x ∧ IntKind.u32.wrap x < 4294967296 := by rw [IntKind.wrap_u32]; omega
end Go.Proofs.Ytlpfjjhjfmcfmaa
