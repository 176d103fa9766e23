/- IrqApart, plain: two boards that agree on all that one world has. No condition. -/
import Derived.Test.YtkhhmkcpbefadaaIrqTurn
namespace Go.Proofs.Ytkhhmkcpbefadaa
open Go.RowKit
/-- Two boards agree on the devices' owners and lines, and on what world k has. -/
structure Rel (p q : List WR × WS) (k : Nat) : Prop where
  len : p.1.length = q.1.length
  at' : ∀ (i : Nat) (x y : WR), p.1[i]? = some x → q.1[i]? = some y → x.ow = y.ow ∧ x.ln = y.ln ∧ (x.ow = k → x.hi = y.hi)
  wt : p.2.wt k = q.2.wt k
  le : p.2.le k = q.2.le k
def ows (l : List WR) : List Int := l.map WR.ow
theorem ows_at {l : List WR} {i : Nat} {x : WR} (h : l[i]? = some x) : (ows l)[i]? = some x.ow := by unfold ows; rw [List.getElem?_map, h]; rfl
theorem Rel.refl (p : List WR × WS) (k : Nat) : Rel p p k := ⟨rfl, fun i x y h1 h2 => by rw [h1] at h2; cases h2; exact ⟨rfl, rfl, fun _ => rfl⟩, rfl, rfl⟩
theorem Rel.put {p q : List WR × WS} {k n : Nat} {x y : WR} (h : Rel p q k) (e1 : x.ow = y.ow) (e2 : x.ln = y.ln) (e3 : x.ow = k → x.hi = y.hi) : Rel (p.1.set n x, p.2) (q.1.set n y, q.2) k := by
  refine ⟨by simp [h.len], fun i a b h1 h2 => ?_, h.wt, h.le⟩
  simp only [List.getElem?_set] at h1 h2
  split at h1
  · rename_i e
    subst e
    rw [if_pos rfl] at h2
    split at h1
    · split at h2
      · cases h1; cases h2; exact ⟨e1, e2, e3⟩
      · cases h2
    · cases h1
  · rename_i e
    rw [if_neg e] at h2
    exact h.at' i a b h1 h2
theorem Rel.get {p q : List WR × WS} {k n : Nat} {x : WR} (h : Rel p q k) (hx : p.1[n]? = some x) : ∃ y, q.1[n]? = some y ∧ x.ow = y.ow ∧ x.ln = y.ln ∧ (x.ow = k → x.hi = y.hi) := by
  have hn : n < q.1.length := by have := (List.getElem?_eq_some_iff.1 hx).1; rw [← h.len]; exact this
  exact ⟨_, List.getElem?_eq_getElem hn, h.at' n x _ hx (List.getElem?_eq_getElem hn)⟩
theorem lstep_none {p : List WR × WS} {t : Nat} (hx : p.1[t]? = none) (hh : Bool) : lstep p t hh = p := by simp only [lstep, hx]
theorem lstep_ows (p : List WR × WS) (t : Nat) (h : Bool) : ows (lstep p t h).1 = ows p.1 := by
  unfold lstep
  split
  · rfl
  · rename_i x hx
    split
    · unfold ows
      rw [List.map_set]
      refine List.ext_getElem? fun i => ?_
      rw [List.getElem?_set]
      split
      · rename_i e
        subst e
        have hl : t < p.1.length := (List.getElem?_eq_some_iff.1 hx).1
        rw [List.length_map, if_pos hl, List.getElem?_map, hx]; rfl
      · rfl
    · rfl
theorem lookR_ows (LV : Nat → Bool) (p : List WR × WS) : ∀ t, ows (lookR LV p t).1 = ows p.1
  | 0 => rfl
  | t + 1 => (lstep_ows _ _ _).trans (lookR_ows LV p t)
theorem Rel.lstep {p q : List WR × WS} {k t : Nat} {a b : Bool} (h : Rel p q k) (hf : Fit p.1 p.2) (hab : ∀ x, p.1[t]? = some x → x.ow = k → a = b) : Rel (lstep p t a) (lstep q t b) k := by
  cases hx : p.1[t]? with
  | none =>
    have hy : q.1[t]? = none := by
      rw [List.getElem?_eq_none_iff, ← h.len]
      exact List.getElem?_eq_none_iff.1 hx
    rw [lstep_none hx, lstep_none hy]
    exact h
  | some x =>
    obtain ⟨y, hy, e1, e2, e3⟩ := h.get hx
    by_cases hc : 0 ≤ x.ow ∧ 0 ≤ x.ln
    · rw [lstep_in hx hc.1 hc.2, lstep_in hy (by omega) (by omega)]
      have hp := h.put (n := t) (x := { x with hi := a }) (y := { y with hi := b }) e1 e2 (fun e => hab x hx e)
      refine ⟨hp.len, hp.at', ?_, ?_⟩
      · have hb := (hf.wire t x hx).2.1
        by_cases hk : x.ow = k
        · have ea := hab x hx hk
          have eh := e3 hk
          subst ea
          show (if a && !x.hi then _ else _ : WS).wt k = (if a && !y.hi then _ else _ : WS).wt k
          rw [← eh, ← e1, ← e2]
          split
          · show (if k = x.ow.toNat then _ else _) = (if k = x.ow.toNat then _ else _)
            rw [show x.ow.toNat = k by omega, if_pos rfl, if_pos rfl, h.wt]
          · exact h.wt
        · have key : ∀ (s : WS) (c : Bool) (z : WR) (v : Nat), z.ow = x.ow → (if c then s.setW z.ow.toNat v else s).wt k = s.wt k := by
            intro s c z v hz
            cases c
            · rfl
            · show (if k = z.ow.toNat then v else s.wt k) = s.wt k
              rw [if_neg (by omega)]
          exact (key _ _ x _ rfl).trans (h.wt.trans (key _ _ y _ e1.symm).symm)
      · have key : ∀ (s : WS) (c : Bool) (j v : Nat), (if c then s.setW j v else s).le k = s.le k := fun s c j v => by cases c <;> rfl
        exact (key _ _ _ _).trans (h.le.trans (key _ _ _ _).symm)
    · rw [lstep_out hx (by omega), lstep_out hy (by omega)]
      exact h
/-- The levels of the others turned. -/
def flip (LV : Nat → Bool) (os : List Int) (k : Nat) (i : Nat) : Bool := LV i != decide (os.getD i 0 ≠ (k : Int))
theorem Rel.look {p q : List WR × WS} {k : Nat} (LV LW : Nat → Bool) (h : Rel p q k) (hf : Fit p.1 p.2) : ∀ t, (∀ i, i < t → LW i = flip LV (ows p.1) k i) → Rel (lookR LV p t) (lookR LW q t) k
  | 0, _ => h
  | t + 1, hl => by
    refine Rel.lstep (Rel.look LV LW h hf t fun i hi => hl i (by omega)) (lookR_fit LV hf t) fun x hx hk => ?_
    have h1 := ows_at hx
    rw [lookR_ows] at h1
    rw [hl t (by omega), flip, List.getD_eq_getElem?_getD, h1]
    simp [hk]
theorem Rel.drop {p q : List WR × WS} {k : Nat} (h : Rel p q k) (n : Int) : Rel (dropW p.1 n, p.2) (dropW q.1 n, q.2) k ∧ dropR p.1 n = dropR q.1 n := by
  unfold dropW dropR
  rw [h.len]
  refine ⟨?_, rfl⟩
  by_cases hn : n < 0 ∨ (q.1.length : Int) ≤ n
  · rw [if_pos hn, if_pos hn]; exact h
  · rw [if_neg hn, if_neg hn]; exact h.put rfl rfl fun _ => rfl
theorem Rel.own {p q : List WR × WS} {k : Nat} (h : Rel p q k) (n v : Int) : Rel (ownW p.1 n v, p.2) (ownW q.1 n v, q.2) k ∧ ownR p.1 n v = ownR q.1 n v := by
  unfold ownW ownR
  rw [h.len]
  refine ⟨?_, rfl⟩
  by_cases hv : badW v
  · rw [if_pos hv, if_pos hv]; exact h
  · rw [if_neg hv, if_neg hv]
    cases hx : p.1[n.toNat]? with
    | none =>
      have hy : q.1[n.toNat]? = none := by
        rw [List.getElem?_eq_none_iff, ← h.len]
        exact List.getElem?_eq_none_iff.1 hx
      rw [hy]; exact h
    | some x =>
      obtain ⟨y, hy, e1, e2, e3⟩ := h.get hx
      rw [hy]
      by_cases hn : n < 0
      · simp only [if_pos hn]; exact h
      · simp only [if_neg hn]; exact h.put rfl e2 fun _ => rfl
theorem Rel.route {p q : List WR × WS} {k : Nat} (h : Rel p q k) (n v : Int) : Rel (routeW p.1 n v, p.2) (routeW q.1 n v, q.2) k := by
  unfold routeW
  by_cases hv : mayL v
  · rw [if_pos hv, if_pos hv]
    cases hx : p.1[n.toNat]? with
    | none =>
      have hy : q.1[n.toNat]? = none := by
        rw [List.getElem?_eq_none_iff, ← h.len]
        exact List.getElem?_eq_none_iff.1 hx
      rw [hy]; exact h
    | some x =>
      obtain ⟨y, hy, e1, e2, e3⟩ := h.get hx
      rw [hy]
      by_cases hn : n < 0
      · simp only [if_pos hn]; exact h
      · simp only [if_neg hn]; exact h.put e1 rfl fun _ => rfl
  · rw [if_neg hv, if_neg hv]; exact h
theorem route_out {l : List WR} {n v : Int} (h : n < 0 ∨ (l.length : Int) ≤ n) : routeW l n v = l := by
  unfold routeW
  split
  · cases hx : l[n.toNat]? with
    | none => rfl
    | some x =>
      have := (List.getElem?_eq_some_iff.1 hx).1
      exact if_pos (by omega)
  · rfl
theorem route_at {l : List WR} {n : Nat} {v : Int} {x : WR} (hx : l[n]? = some x) : routeW l n v = if mayL v then l.set n ⟨x.ow, v, false⟩ else l := by
  unfold routeW
  rw [Int.toNat_natCast, hx]
  by_cases hv : mayL v
  · rw [if_pos hv, if_pos hv]; exact if_neg (by omega)
  · rw [if_neg hv, if_neg hv]
theorem lineR_at {l : List WR} {n : Nat} {x : WR} (hx : l[n]? = some x) : lineR l n = x.ln := by
  unfold lineR
  rw [if_neg (by omega), Int.toNat_natCast, hx]
theorem Rel.left {p q : List WR × WS} {k n : Nat} {x z : WR} (h : Rel p q k) (hx : p.1[n]? = some x) (hk : x.ow ≠ k) (e1 : z.ow = x.ow) (e2 : z.ln = x.ln) : Rel (p.1.set n z, p.2) q k := by
  have h2 : q.1 = q.1.set n (q.1.getD n ⟨0, 0, false⟩) := by
    refine List.ext_getElem? fun i => ?_
    rw [List.getElem?_set]
    split
    · rename_i e
      subst e
      split
      · rename_i hl
        rw [List.getD_eq_getElem?_getD, List.getElem?_eq_getElem hl]; rfl
      · rename_i hl
        exact List.getElem?_eq_none_iff.2 (by omega)
    · rfl
  obtain ⟨y, hy, a1, a2, _⟩ := h.get hx
  have h3 : q.1.getD n ⟨0, 0, false⟩ = y := by rw [List.getD_eq_getElem?_getD, hy]; rfl
  have h4 := h.put (n := n) (x := z) (y := y) (by omega) (by omega) (fun e => absurd (e1.symm.trans e) hk)
  rw [h3] at h2
  rw [← h2] at h4
  exact h4
/-- What the third deed leaves on the first board, where a device is another's. -/
theorem Rel.other {p q : List WR × WS} {k n : Nat} {x : WR} (h : Rel p q k) (hf : Fit q.1 q.2) (hx : p.1[n]? = some x) (hk : x.ow ≠ k) (v : Int) :
    (lineR (routeW p.1 n v) n = lineR q.1 n → Rel (routeW p.1 n v, p.2) q k) ∧ (lineR (routeW p.1 n v) n ≠ lineR q.1 n → Rel (routeW (routeW p.1 n v) n (lineR q.1 n), p.2) q k) := by
  obtain ⟨y, hy, a1, a2, _⟩ := h.get hx
  have hw := hf.wire n y hy
  rw [lineR_at hy]
  have hm : mayL y.ln := ⟨hw.2.2.1, hw.2.2.2⟩
  by_cases hv : mayL v
  · have e := route_at (v := v) hx
    rw [if_pos hv] at e
    have hs := set_at hx ⟨x.ow, v, false⟩
    rw [e, lineR_at hs, route_at hs, if_pos hm, List.set_set]
    exact ⟨fun e => h.left hx hk rfl (by show v = x.ln; simp only at e; omega), fun _ => h.left hx hk rfl a2.symm⟩
  · have e := route_at (v := v) hx
    rw [if_neg hv] at e
    rw [e, lineR_at hx]
    exact ⟨fun _ => h, fun e => absurd a2 e⟩
theorem Rel.mask {p q : List WR × WS} {k : Nat} (h : Rel p q k) (m : Nat) : Rel (p.1, p.2.setL k m) (q.1, q.2.setL k m) k :=
  ⟨h.len, h.at', h.wt, by show (if k = k then m else _) = (if k = k then m else _); rw [if_pos rfl, if_pos rfl]⟩
theorem Rel.maskO {p q : List WR × WS} {k j : Nat} (h : Rel p q k) (hj : j ≠ k) (m : Nat) : Rel (p.1, p.2.setL j m) q k :=
  ⟨h.len, h.at', h.wt, by show (if k = j then m else p.2.le k) = _; rw [if_neg (fun e => hj e.symm)]; exact h.le⟩
theorem Rel.call {p q : List WR × WS} {k : Nat} (h : Rel p q k) : Rel (p.1, callS p.2 k) (q.1, callS q.2 k) k ∧ callR p.2 k = callR q.2 k := by
  unfold callS callR
  rw [h.wt, h.le]
  by_cases h0 : q.2.wt k &&& q.2.le k = 0
  · rw [if_pos h0, if_pos h0]; exact ⟨h, rfl⟩
  · rw [if_neg h0, if_neg h0]
    refine ⟨⟨h.len, h.at', ?_, h.le⟩, rfl⟩
    show (if k = k then _ else _) = (if k = k then _ else _)
    rw [if_pos rfl, if_pos rfl]
theorem Rel.callO {p q : List WR × WS} {k j : Nat} (h : Rel p q k) (hj : j ≠ k) : Rel (p.1, callS p.2 j) q k := by
  unfold callS
  split
  · exact h
  · exact ⟨h.len, h.at', by show (if k = j then _ else p.2.wt k) = _; rw [if_neg (fun e => hj e.symm)]; exact h.wt, h.le⟩
theorem dropW_ows (l : List WR) (n : Int) : ows (dropW l n) = if n < 0 ∨ (l.length : Int) ≤ n then ows l else (ows l).set n.toNat (-1) := by
  unfold dropW
  split
  · rfl
  · unfold ows; rw [List.map_set]
theorem set_same {l : List WR} {n : Nat} {x : WR} (hx : l[n]? = some x) (z : WR) (hz : z.ow = x.ow) : ows (l.set n z) = ows l := by
  unfold ows
  rw [List.map_set, hz]
  refine List.ext_getElem? fun i => ?_
  rw [List.getElem?_set]
  split
  · rename_i e
    subst e
    have hl : n < l.length := (List.getElem?_eq_some_iff.1 hx).1
    rw [List.length_map, if_pos hl, List.getElem?_map, hx]; rfl
  · rfl
theorem routeW_ows (l : List WR) (n v : Int) : ows (routeW l n v) = ows l := by
  unfold routeW
  split
  · cases hx : l[n.toNat]? with
    | none => rfl
    | some x =>
      by_cases hn : n < 0
      · simp only [if_pos hn]
      · simp only [if_neg hn]; exact set_same hx _ rfl
  · rfl
theorem ownW_ows (l : List WR) (n v : Int) : ows (ownW l n v) = if ownR l n v = 0 then (ows l).set n.toNat v else ows l := by
  unfold ownW ownR
  by_cases hv : badW v
  · rw [if_pos hv, if_pos hv, if_neg (by decide)]
  · rw [if_neg hv, if_neg hv]
    cases hx : l[n.toNat]? with
    | none =>
      have := List.getElem?_eq_none_iff.1 hx
      have h2 : (if n < 0 ∨ (l.length : Int) ≤ n then (6 : Int) else 0) = 6 ∨ n < 0 := by
        by_cases h : n < 0
        · exact .inr h
        · exact .inl (if_pos (by omega))
      have h3 : n < 0 ∨ (l.length : Int) ≤ n := by omega
      rw [if_pos h3, if_neg (by decide)]
    | some x =>
      have := (List.getElem?_eq_some_iff.1 hx).1
      by_cases hn : n < 0
      · have h6 : (if n < 0 ∨ (l.length : Int) ≤ n then (6 : Int) else 0) = 6 := if_pos (Or.inl hn)
        rw [h6, if_neg (by decide)]
        show ows (if n < 0 then l else l.set n.toNat ⟨v, x.ln, false⟩) = _
        rw [if_pos hn]
      · simp only [if_neg hn]
        rw [if_neg (by omega : ¬ (n < 0 ∨ (l.length : Int) ≤ n)), if_pos rfl]
        unfold ows
        rw [List.map_set]
theorem Fit.dropped {p : List WR × WS} (h : Fit p.1 p.2) (n : Int) : Fit (dropW p.1 n) p.2 := by
  unfold dropW
  split
  · exact h
  · exact h.put (by decide)
theorem Fit.owned {p : List WR × WS} (h : Fit p.1 p.2) (n v : Int) : Fit (ownW p.1 n v) p.2 := by
  unfold ownW
  split
  · exact h
  · rename_i hv
    cases hx : p.1[n.toNat]? with
    | none => exact h
    | some x =>
      have hw := h.wire _ x hx
      by_cases hn : n < 0
      · simp only [if_pos hn]; exact h
      · simp only [if_neg hn]
        refine h.put ⟨?_, ?_, hw.2.2.1, hw.2.2.2⟩
        · show -1 ≤ v; unfold badW at hv; omega
        · show v < 8; unfold badW at hv; omega
theorem Fit.routed {p : List WR × WS} (h : Fit p.1 p.2) (n v : Int) : Fit (routeW p.1 n v) p.2 := by
  unfold routeW
  split
  · rename_i hv
    cases hx : p.1[n.toNat]? with
    | none => exact h
    | some x =>
      have hw := h.wire _ x hx
      by_cases hn : n < 0
      · simp only [if_pos hn]; exact h
      · simp only [if_neg hn]
        exact h.put ⟨hw.1, hw.2.1, hv.1, hv.2⟩
  · exact h
theorem dropW_length (l : List WR) (n : Int) : (dropW l n).length = l.length := by unfold dropW; split; rfl; exact List.length_set
theorem routeW_length (l : List WR) (n v : Int) : (routeW l n v).length = l.length := by have := congrArg List.length (routeW_ows l n v); simpa [ows] using this
theorem ownW_length (l : List WR) (n v : Int) : (ownW l n v).length = l.length := by
  have := congrArg List.length (ownW_ows l n v)
  split at this
  · simpa [ows] using this
  · simpa [ows] using this
end Go.Proofs.Ytkhhmkcpbefadaa
