/- A mailbox, and rows of what was put, of what was taken. No condition. -/
import Derived.Test.YtlpfjjhjfmcfmaaMboxApartLaw
import Derived.Test.YtlpfjjhjfmcfmaaGRow
import Derived.Deep.Cut
import Derived.Deep.CutBlock
namespace Go.Proofs.Ytlpfjjhjfmcfmaa
open Go.RowKit
theorem Try.info28w : (Try.prog.info? 28).map (fun i => (i.zero, i.size, i.bytes)) = some (some (.int .u32 0), 1, 4) := by kernel_rfl
/-- A row of words of the call's own. -/
abbrev WRow (w : World) (base : Nat) (v : Value) (xs : List Int) : Prop := w.ownsRow base 28 1 v xs.length (xs.map (Value.int .u32))
theorem wrow_nil (w : World) (base : Nat) : WRow w base (.slice none 0 0) [] := World.ownsRow_nil _ _ _ _
theorem wrow_at {w : World} {base c : Nat} {A : Option Addr} {xs : List Int} (h : WRow w base (.slice A xs.length c) xs) : 0 < xs.length → ∃ b o, A = some ⟨b, o, none⟩ ∧ b < w.heap.size ∧ ∀ j, j < xs.length → w.cell? ⟨b, o + j, none⟩ = some (.int .u32 (xs.getD j 0)) := by
  intro hn
  obtain ⟨A', c', e, hc⟩ := own_cells h
  obtain ⟨g, rfl, _, hl, _, h8⟩ := hc hn
  cases e
  refine ⟨g, 0, rfl, hl, fun j hj => ?_⟩
  rw [Nat.zero_add]
  refine h8 j _ ?_
  rw [List.getElem?_map, List.getD_eq_getElem?_getD, List.getElem?_eq_getElem hj]
  rfl
theorem app_nil (t e sz : Nat) (ht : Try.prog.underlying t = some (.slice e)) (hi : (Try.prog.info? e).map (·.size) = some sz) (c : Nat) (W : World) :
    (Builtin.append_ #[t, t] t #[.slice none 0 0, .slice none 0 c]).run Try.prog W = .ok (.slice none 0 0) W := by
  obtain ⟨i, hi1, hi2⟩ := Option.map_eq_some_iff.1 hi
  have hs : (sizeOf e).run Try.prog W = .ok sz W := by simp [sizeOf, typeInfo, hi1, hi2]
  simp [Builtin.append_, run_underlying ht, hs, Builtin.firstCells, Builtin.lenOf, Result.andThen]
theorem app_none (t e sz : Nat) (ht : Try.prog.underlying t = some (.slice e)) (hi : (Try.prog.info? e).map (·.size) = some sz) (g n0 cap c : Nat) (h : n0 ≤ cap) (W : World) :
    (Builtin.append_ #[t, t] t #[.slice (some ⟨g, 0, none⟩) n0 cap, .slice none 0 c]).run Try.prog W = .ok (.slice (some ⟨g, 0, none⟩) n0 cap) W := by
  obtain ⟨i, hi1, hi2⟩ := Option.map_eq_some_iff.1 hi
  have hs : (sizeOf e).run Try.prog W = .ok sz W := by simp [sizeOf, typeInfo, hi1, hi2]
  simp [Builtin.append_, run_underlying ht, hs, Builtin.firstCells, Builtin.lenOf, storeCells, h, Result.andThen]
/-- append(v, x...), both any. -/
theorem wrow_app {W : World} {base c : Nat} {v : Value} {A : Option Addr} {xs ys : List Int} (hv : WRow W base v xs) (hA : 0 < ys.length → ∃ b o, A = some ⟨b, o, none⟩ ∧ ∀ j, j < ys.length → W.cell? ⟨b, o + j, none⟩ = some (.int .u32 (ys.getD j 0))) (hA0 : A = none → ys = [])
    (hn : xs.length + ys.length ≤ 100000) (hb : base ≤ W.heap.size) :
    ∃ v' w', (Builtin.append_ #[35, 35] 35 #[v, .slice A ys.length c]).run Try.prog W = .ok v' w' ∧ WRow w' base v' (xs ++ ys) ∧ W.grownBy w' v.ownBlock := by
  obtain ⟨i, hi, hz0, hz1, hz2⟩ := info_parts Try.info28w
  cases A with
  | none =>
    obtain rfl := hA0 rfl
    rcases hv.2 with ⟨rfl, h0⟩ | ⟨g, cap, cur, rfl, h1, h2, h3, h4⟩
    · have : xs = [] := List.eq_nil_of_length_eq_zero h0
      subst this
      exact ⟨_, W, app_nil 35 28 1 Try.underlying35 (by rw [hi]; simp [hz1]) c W, wrow_nil _ _, ⟨rfl, rfl, rfl, Nat.le_refl _, fun _ _ _ => rfl⟩⟩
    · exact ⟨_, W, app_none 35 28 1 Try.underlying35 (by rw [hi]; simp [hz1]) g _ cap c h3 W, by rw [List.append_nil]; exact hv, ⟨rfl, rfl, rfl, Nat.le_refl _, fun _ _ _ => rfl⟩⟩
  | some a =>
    have hc : ∀ j u, (ys.map (Value.int .u32))[j]? = some u → W.cell? (a.add j) = some u := by
      intro j u hj
      have hjl : j < ys.length := by have := (List.getElem?_eq_some_iff.1 hj).1; simpa using this
      obtain ⟨b, o, e, h⟩ := hA (by omega)
      cases e
      rw [show (⟨b, o, none⟩ : Addr).add j = ⟨b, o + j, none⟩ by unfold Addr.add; split <;> simp_all]
      rw [h j hjl]
      rw [List.getElem?_map, List.getElem?_eq_getElem hjl] at hj
      rw [List.getD_eq_getElem?_getD, List.getElem?_eq_getElem hjl]
      simpa using hj
    obtain ⟨v', w', hr, h2, h3, h4, h5⟩ := run_append_own_at (P := Try.prog) W base 35 35 28 i _ 1 4 Try.underlying35 hi hz0 hz1 hz2 rfl (by decide) v xs.length _ hv a ys.length c (ys.map (Value.int .u32)) (by simp) hc
      (fun u hu => by obtain ⟨z, _, rfl⟩ := List.mem_map.1 hu; rfl) (by unfold maxLen; omega) (by omega) hb
    exact ⟨v', w', hr, by show w'.ownsRow base 28 1 v' (xs ++ ys).length ((xs ++ ys).map _); rw [List.length_append, List.map_append]; exact h2, h3⟩
/-- A mailbox, and what was put, what was taken. -/
structure OX (w W : World) (b f g : Nat) (s : MS) (pv : Value) (P : List Int) (gv : Value) (G : List Int) : Prop where
  x : MX w W b f g s
  p : WRow W w.heap.size pv P
  q : WRow W w.heap.size gv G
  fp : ∀ k, pv.ownBlock = some k → k ≠ b ∧ k ≠ f ∧ k ≠ g
  fq : ∀ k, gv.ownBlock = some k → k ≠ b ∧ k ≠ f ∧ k ≠ g
  pq : Far pv gv
section
variable {w W W' : World} {b f g : Nat} {s s' : MS} {pv gv v' : Value} {P G : List Int}
theorem OX.non (h : OX w W b f g s pv P gv G) (u : Upd Non W W') : OX w W' b f g s pv P gv G := ⟨h.x.non u, own_upd u h.p (fun _ _ => id), own_upd u h.q (fun _ _ => id), h.fp, h.fq, h.pq⟩
theorem OX.mw (h : OX w W b f g s pv P gv G) (m : MW W W' b f g s') : ∃ g', OX w W' b f g' s' pv P gv G := by
  obtain ⟨g', hg, hx⟩ := h.x.mw m
  have nf : ∀ {v : Value} {xs : List Int}, WRow W w.heap.size v xs → (∀ k, v.ownBlock = some k → k ≠ b ∧ k ≠ f ∧ k ≠ g) → ∀ k, v.ownBlock = some k → k ≠ b ∧ k ≠ f ∧ k ≠ g' := fun hv hf k hk => by
    have h1 := hf k hk
    have h2 := (own_block hv k hk).2
    refine ⟨h1.1, h1.2.1, ?_⟩
    rcases hg with e | e
    · rw [e]; exact h1.2.2
    · omega
  exact ⟨g', hx, own_upd m.u h.p (fun k hk e => by have := h.fp k hk; rcases e with e | e | e <;> omega), own_upd m.u h.q (fun k hk e => by have := h.fq k hk; rcases e with e | e | e <;> omega), nf h.p h.fp, nf h.q h.fq, h.pq⟩
theorem OX.grow_up (h : OX w W b f g s pv P gv G) {u : Value} {xs : List Int} (hu : WRow W w.heap.size u xs) (hg : W.grownBy W' u.ownBlock) (hf : ∀ k, u.ownBlock = some k → k ≠ b ∧ k ≠ f ∧ k ≠ g) : MX w W' b f g s := by
  have uu : Upd (fun i => u.ownBlock = some i) W W' := Upd.grown hg (Upd.refl _ _) (fun r hr => .inl hr)
  exact ⟨h.x.m.upd uu (fun e => (hf _ e).1 rfl) (fun e => (hf _ e).2.1 rfl) (fun e => (hf _ e).2.2 rfl), Upd.call uu h.x.up (fun i hi e => by have := (own_block hu i e).1; omega), h.x.lo⟩
theorem OX.put (h : OX w W b f g s pv P gv G) {y : Int} (hv : WRow W' w.heap.size v' (P ++ [y])) (hg : W.grownBy W' pv.ownBlock) (hb : v'.ownBlock = pv.ownBlock ∨ v'.ownBlock = some W.heap.size) : OX w W' b f g s v' (P ++ [y]) gv G := by
  have hl := h.x.lt
  refine ⟨h.grow_up h.p hg h.fp, hv, own_grown hg h.q (fun k hk e => h.pq k e hk), fun k hk => ?_, h.fq, Far.grow h.pq hb h.q⟩
  rcases hb with e | e
  · exact h.fp k (e ▸ hk)
  · rw [e] at hk; cases hk; omega
theorem OX.got (h : OX w W b f g s pv P gv G) {y : Int} (hv : WRow W' w.heap.size v' (G ++ [y])) (hg : W.grownBy W' gv.ownBlock) (hb : v'.ownBlock = gv.ownBlock ∨ v'.ownBlock = some W.heap.size) : OX w W' b f g s pv P v' (G ++ [y]) := by
  have hl := h.x.lt
  refine ⟨h.grow_up h.q hg h.fq, own_grown hg h.p (fun k hk e => h.pq k hk e), hv, h.fp, fun k hk => ?_, (Far.grow h.pq.symm hb h.p).symm⟩
  rcases hb with e | e
  · exact h.fq k (e ▸ hk)
  · rw [e] at hk; cases hk; omega
end
end Go.Proofs.Ytlpfjjhjfmcfmaa
