/- IrqDoes: the law's walk. Conditions: the devices' and deeds' cells are known. -/
import Derived.Test.YtkhhmkcpbefadaaIrqOne1
namespace Go.Proofs.Ytkhhmkcpbefadaa
open Go.RowKit
theorem LentD.upd {S : Nat → Prop} {w W W' : World} {D : Nat → Dev} {n g cap : Nat} (h : LentD w W D n g cap) (u : Upd S W W') (hs : ¬ S g) : LentD w W' D n g cap :=
  ⟨own_upd u h.own fun k hk => by cases hk; exact hs⟩
/-- A lent row's devices. -/
theorem LentD.devs {w W : World} {D : Nat → Dev} {n g cap : Nat} (h : LentD w W D n g cap) (i : Nat) (hi : i < n) : DevAt W g 0 i (D i).o (D i).l := by
  obtain ⟨A, c, e, hc⟩ := own_cells h.own
  obtain ⟨g', rfl, _, _, _, h8⟩ := hc (by omega)
  simp only [Value.slice.injEq, Option.some.injEq, Addr.mk.injEq, and_true, true_and] at e
  obtain ⟨rfl, rfl⟩ := e
  have key : ∀ k u, k < 5 → (D i).enc[k]? = some u → W.cell? ⟨g, i * 5 + k, none⟩ = some u := fun k u hk hu => by
    refine h8 _ u ?_
    rw [List.getElem?_append_left (by rw [devL_length]; omega), devL_at D n i hi k hk]; exact hu
  refine ⟨(D i).k, (D i).a, (D i).z, ?_, ?_, ?_, ?_, ?_⟩
  · have := key 0 _ (by decide) rfl; rw [Nat.zero_add]; exact this
  · have := key 1 _ (by decide) rfl; rw [Nat.zero_add]; exact this
  · have := key 2 _ (by decide) rfl; rw [Nat.zero_add]; exact this
  · have := key 3 _ (by decide) rfl; rw [Nat.zero_add]; exact this
  · have := key 4 _ (by decide) rfl; rw [Nat.zero_add]; exact this
theorem DevAt.non {w W : World} {b o i : Nat} {O N : Int} (u : Upd Non w W) (h : DevAt w b o i O N) : DevAt W b o i O N := by
  obtain ⟨c0, c1, c2, e0, e1, e2, e3, e4⟩ := h
  exact ⟨c0, c1, c2, u.cell_eq id e0, u.cell_eq id e1, u.cell_eq id e2, u.cell_eq id e3, u.cell_eq id e4⟩
/-- The first board: behind New, and its pointer's cell. -/
structure D1 (w W : World) (pc b r g : Nat) (ws : List WR) : Prop where
  P : Blk W pc #[.pointer (some ⟨b, 0, none⟩)] 24
  B : BI W b r ws WS.fresh
  up : Upd Non w W
  lp : w.heap.size ≤ pc
  lb : w.heap.size ≤ b
  lr : w.heap.size ≤ r
  ne : pc ≠ b ∧ pc ≠ r
  lg : w.heap.size ≤ g
  gl : g < b ∧ g < r ∧ g < pc
theorem D1.non {w W W' : World} {pc b r g : Nat} {ws : List WR} (h : D1 w W pc b r g ws) (u : Upd Non W W') : D1 w W' pc b r g ws :=
  ⟨Blk.upd u h.P id, h.B.non u, Upd.call u h.up fun _ _ h => h, h.lp, h.lb, h.lr, h.ne, h.lg, h.gl⟩
theorem DS.ext {w W W' : World} {pc b r c q g : Nat} {p : List WR × WS} {f : Nat → Bool} (h : DS w W pc b r c q p f) (u : Upd (fun i => i = g) W W') (hg : g < b ∧ g < r ∧ g < pc ∧ g < c ∧ g < q) (hl : w.heap.size ≤ g) : DS w W' pc b r c q p f :=
  ⟨Blk.upd u h.P (by omega), h.B.upd u (by omega) (by omega), h.R.upd u (by omega) (by omega), h.bt, h.fit, Upd.call u h.up (fun i hi e => by omega), h.lp, h.lb, h.lr, h.lc, h.lq, h.ne⟩
set_option maxRecDepth 100000 in
set_option maxHeartbeats 16000000 in
theorem does_law (A : Option Addr) (n cc : Nat) (O N : Nat → Int) (D : Option Addr) (dc : Nat) (d : Deeds) (hn : n ≤ 2 ^ 48) (w : World) (hdev : DevsAt w A n O N) (hdeed : DeedsAt w D d) :
    Calls Try.prog 6 #[.slice A n cc, .slice D d.m dc] w fun e w' => e = .returned (.bool true) ∧ Upd Non w w' := by
  obtain ⟨E, hE, hc⟩ := devs_all hdev
  have HE := Lib.hid (show ∀ i, i < n → ∀ b o, DevAt w b o i (O i) (N i) → DevAt w b o i (E i).o (E i).l from fun i hi b o h => by rw [(hE i hi).1, (hE i hi).2]; exact h)
  have HV := Lib.hid hdev
  have HD := Lib.hid hdeed
  have HC := Lib.hid hc
  have HS := Lib.hid (size_of (A := A) (cc := cc) (D := D) (dc := dc) (d := d) hn (w := w) hdeed)
  clear hdev hdeed hE hc
  go_enter Try.func6, Try.ntmps6
  go_wp2_with fail
  refine HS.out.mono ?_
  rintro e w2 ⟨z, rfl, hz, rfl⟩
  have HZ := Lib.hid hz
  clear HS hz
  by_cases q : z ≤ 400
  case neg =>
    have q' : 400 < z := by omega
    go_wp2_with fail
    refine (awake_ok _).mono ?_
    rintro e w3 ⟨rfl, hU⟩
    have HU := Lib.hid hU
    clear hU
    go_wp2_with fail
    go_ret
    exact ⟨rfl, HU.out⟩
  obtain ⟨hn4, hm4, hl4⟩ := HZ.out q
  have HL4 := Lib.hid hl4
  have z1 : ¬ 400 < z := by omega
  clear hl4 HZ
  go_wp2_with fail
  refine (lentD_is A n cc E (by omega) w HC.out).mono ?_
  rintro e w3 ⟨g, cap, rfl, hL, hU⟩
  have HL := Lib.hid hL
  have HU3 := Lib.hid hU
  have hg3 : w.heap.size ≤ g ∧ g < w3.heap.size := (own_cap hL.own).2
  clear hL hU
  go_wp2_with fail
  refine (new_is (some ⟨g, 0, none⟩) n cap (fun i => (E i).o) (fun i => (E i).l) (by omega) w3 (fun _ => ⟨g, 0, rfl, fun i hi => HL.out.devs i hi⟩)).mono ?_
  rintro e w4 ⟨hN, hU⟩
  have HU4 := Lib.hid (Upd.call hU HU3.out fun _ _ h => h)
  have HL4' := Lib.hid (HL.out.upd hU id)
  have hs34 := hU.size
  have HR := Lib.hid (fun (W : World) (hu : Upd Non w W) => rnew_is A n cc (fun i => (E i).o) (fun i => (E i).l) (by omega) W fun hp => by
    obtain ⟨b, o, e, hc⟩ := HV.out hp
    exact ⟨b, o, e, fun i hi => (HE.out i hi b o (hc i hi)).non hu⟩)
  have HK := Lib.hid (fun (W : World) (hu : Upd Non w W) (hL : LentD w W E n g cap) => keptD_is A n cc g cap E (by omega) w W hL fun hp => by
    obtain ⟨b, o, e, hc⟩ := HC.out hp
    exact ⟨b, o, e, fun j u hj => hu.cell_eq id (hc j u hj)⟩)
  clear HL HU3
  rcases hN with ⟨hG, h16, rfl, hB⟩ | ⟨hbad, rfl⟩
  case inr =>
    clear hU
    go_wp2_with fail
    obtain ⟨pc, hpc⟩ : ∃ x, x = w4.heap.size := ⟨_, rfl⟩
    have HP := Lib.hid (show Blk (w4.alloc (.cells #[.pointer none] 24)) pc #[.pointer none] 24 from Blk.newAt hpc)
    have HUa := Lib.hid (show Upd Non w (w4.alloc (.cells #[.pointer none] 24)) from HU4.out.alloc)
    have HLa := Lib.hid (HL4'.out.upd (S := Non) (Upd.refl _ _).alloc id : LentD w (w4.alloc (.cells #[.pointer none] 24)) E n g cap)
    rw [← hpc]
    clear hpc HL4' HU4 hs34
    generalize w4.alloc (.cells #[.pointer none] 24) = wa at *
    refine (HR.out _ HUa.out).mono ?_
    rintro e w5 ⟨hN, hU5⟩
    rcases hN with ⟨hG, h16, _, _⟩ | ⟨_, rfl⟩
    · exact absurd ⟨hG, h16⟩ hbad
    have HP5 := Lib.hid (Blk.upd hU5 HP.out id)
    have HU5 := Lib.hid (Upd.call hU5 HUa.out fun _ _ h => h)
    have HL5 := Lib.hid (HLa.out.upd hU5 id)
    clear hU5 hbad HP HUa HLa HR
    go_wp2_with fail
    refine (HK.out _ HU5.out HL5.out).mono ?_
    rintro e w6 ⟨rfl, hU6⟩
    have c6 : w6.cell? ⟨pc, 0, none⟩ = some (.pointer none) := (Blk.upd hU6 HP5.out id).cell 0 rfl
    have HU6 := Lib.hid (Upd.call hU6 HU5.out fun _ _ h => h)
    clear hU6 HK HU5 HL5 HP5
    go_wp2_with fail
    refine (awake_ok _).mono ?_
    rintro e w7 ⟨rfl, hU7⟩
    have HU7 := Lib.hid (Upd.call hU7 HU6.out fun _ _ h => h)
    clear hU7 c6 HU6
    go_wp2_with fail
    go_ret
    exact ⟨rfl, HU7.out⟩
  obtain ⟨r, hB, hr⟩ := hB
  obtain ⟨ws, hws⟩ : ∃ x, x = wiresOf (fun i => (E i).o) (fun i => (E i).l) n := ⟨_, rfl⟩
  have hlen : ws.length = n := by rw [hws]; exact wiresOf_length _ _ _
  have hfit : Fit ws WS.fresh := by rw [hws]; exact wiresOf_fit _ _ _ hG
  rw [← hws] at hB
  obtain ⟨b, hb⟩ : ∃ x, x = w3.heap.size := ⟨_, rfl⟩
  rw [← hb] at hB hr ⊢
  have hbl : b < w4.heap.size := hB.ltb
  have hrl : r < w4.heap.size := hB.lt
  have HB := Lib.hid hB
  have HG := Lib.hid hG
  have HW := Lib.hid hws
  have HF := Lib.hid hfit
  have hb2 : w3.heap.size ≤ b := by omega
  clear hB hG hU hws hfit hb
  go_wp2_with fail
  obtain ⟨pc, hpc⟩ : ∃ x, x = w4.heap.size := ⟨_, rfl⟩
  have H1 := Lib.hid (show D1 w (w4.alloc (.cells #[.pointer (some ⟨b, 0, none⟩)] 24)) pc b r g ws from
    ⟨Blk.newAt hpc, HB.out.non (Upd.refl _ _).alloc, HU4.out.alloc, by omega, by omega, by omega, by omega, by omega, by omega⟩)
  have HLa := Lib.hid (HL4'.out.upd (S := Non) (Upd.refl _ _).alloc id : LentD w (w4.alloc (.cells #[.pointer (some ⟨b, 0, none⟩)] 24)) E n g cap)
  have hpl : pc < (w4.alloc (.cells #[.pointer (some ⟨b, 0, none⟩)] 24)).heap.size := by rw [World.size_alloc]; omega
  rw [← hpc]
  have hlow : w.heap.size ≤ pc ∧ b < pc ∧ r < pc ∧ g < pc := by omega
  clear hpc HL4' HU4 hs34 HB hbl hrl hb2 hr
  generalize w4.alloc (.cells #[.pointer (some ⟨b, 0, none⟩)] 24) = wa at *
  refine (HR.out _ H1.out.up).mono ?_
  rintro e w5 ⟨hN, hU5⟩
  rcases hN with ⟨_, _, rfl, q, hR, hq⟩ | ⟨hbad, _⟩
  case inr => exact absurd ⟨HG.out, h16⟩ hbad
  rw [← HW.out] at hR
  obtain ⟨c, hc⟩ : ∃ x, x = wa.heap.size := ⟨_, rfl⟩
  rw [← hc] at hR hq ⊢
  have h1 := H1.out.non hU5
  have hcl : c < w5.heap.size := hR.ltb
  have hql : q < w5.heap.size := hR.lt
  have HS5 := Lib.hid (show DS w w5 pc b r c q (ws, WS.fresh) (fun _ => false) from
    ⟨h1.P, h1.B, hR, Bt.fresh, HF.out, h1.up, h1.lp, h1.lb, h1.lr, by omega, by omega, by have := h1.ne; omega⟩)
  have HL5 := Lib.hid (HLa.out.upd hU5 id)
  have hgg : g < b ∧ g < r ∧ g < pc ∧ g < c ∧ g < q := ⟨h1.gl.1, h1.gl.2.1, h1.gl.2.2, by omega, by omega⟩
  have hg0 : w.heap.size ≤ g := h1.lg
  have HGG := Lib.hid hgg
  clear h1 H1 hU5 hR hc hq hcl hql hpl HLa HG HW HF HR hlow hgg
  go_wp2_with fail
  refine (HK.out _ HS5.out.up HL5.out).mono ?_
  rintro e w6 ⟨rfl, hU6⟩
  have HS6 := Lib.hid (HS5.out.non hU6)
  have HL6 := Lib.hid (HL5.out.upd hU6 id)
  clear hU6 HK HS5 HL5
  go_wp2_with fail
  refine (overD_is n g cap E (by omega) w _ HL6.out).mono ?_
  rintro e w7 ⟨rfl, hU7⟩
  have HS7 := Lib.hid (HS6.out.ext hU7 HGG.out hg0)
  clear hU7 HS6 HL6 HGG hg0 hg3
  go_wp2_with fail
  go_loopw [10] (fun i wr => ∃ (t b r : Nat) (p : List WR × WS) (f : Nat → Bool), t ≤ d.m ∧ i = .int .i64 t ∧ p.1.length = n ∧ DS w wr pc b r c q p f) (fun i _ => d.m - (intOf i).toNat)
  case atStart => exact ⟨0, b, r, _, _, Nat.zero_le _, rfl, hlen, HS7.out⟩
  case round =>
    clear HS7 hlen
    obtain ⟨t, b, r, p, f, ht, rfl, hp, hS⟩ := hrel
    have HS := Lib.hid hS
    clear hS
    by_cases hlt : t < d.m
    case neg =>
      have k1 : ¬ (t : Int) < d.m := by omega
      have c6 : wr.cell? ⟨pc, 0, none⟩ = some (.pointer (some ⟨b, 0, none⟩)) := HS.out.P.cell 0 rfl
      go_wp2_with fail
      refine (same_is (by omega) _ HS.out.B HS.out.R HS.out.bt HS.out.fit).mono ?_
      rintro e w8 ⟨rfl, hU8⟩
      have HU8 := Lib.hid (Upd.call hU8 HS.out.up fun _ _ h => h)
      clear hU8 c6 HS
      go_wp2_with fail
      refine (awake_ok _).mono ?_
      rintro e w9 ⟨rfl, hU9⟩
      have HU9 := Lib.hid (Upd.call hU9 HU8.out fun _ _ h => h)
      clear hU9 HU8
      go_wp2_with fail
      go_ret
      exact ⟨rfl, HU9.out⟩
    have k1 : (t : Int) < d.m := by omega
    obtain ⟨bd, od, rfl, hde⟩ := HD.out.at' (by omega)
    have hdj := hde t hlt
    have hlv := HD.out.lv t hlt
    have hln := HL4.out t hlt
    obtain ⟨hh, ehh⟩ : ∃ x, x = d.H t := ⟨_, rfl⟩
    obtain ⟨nn, enn⟩ : ∃ x, x = d.N t := ⟨_, rfl⟩
    obtain ⟨kk, ekk⟩ : ∃ x, x = d.K t := ⟨_, rfl⟩
    obtain ⟨LA, eLA⟩ : ∃ x, x = d.LA t := ⟨_, rfl⟩
    obtain ⟨ln, eln⟩ : ∃ x, x = d.LN t := ⟨_, rfl⟩
    obtain ⟨lc, elc⟩ : ∃ x, x = d.LC t := ⟨_, rfl⟩
    obtain ⟨LV, eLV⟩ : ∃ x, x = d.LV t := ⟨_, rfl⟩
    rw [← ehh, ← enn, ← ekk, ← eLA, ← eln, ← elc] at hdj
    rw [← eLA, ← eln, ← eLV] at hlv
    rw [← eln] at hln
    have HLV := Lib.hid hlv
    have e0 := HS.out.up.cell_eq id hdj.h0
    have e1 := HS.out.up.cell_eq id hdj.h1
    have e2 := HS.out.up.cell_eq id hdj.h2
    have e3 := HS.out.up.cell_eq id hdj.h3
    clear hde hdj hlv ehh enn ekk eLA eln elc eLV
    go_wp2_with fail
    refine (one1_is hh nn kk LA ln lc LV (by omega) hln HLV.out HS.out).mono ?_
    rintro e w8 ⟨rfl, b2, r2, p2, f2, hp2, hS2⟩
    have HS2 := Lib.hid hS2
    have c6 : w8.cell? ⟨pc, 0, none⟩ = some (.pointer (some ⟨b2, 0, none⟩)) := hS2.P.cell 0 rfl
    clear hS2 e0 e1 e2 e3 HS
    go_wp2_with fail
    refine (same_is (by omega) _ HS2.out.B HS2.out.R HS2.out.bt HS2.out.fit).mono ?_
    rintro e w9 ⟨rfl, hU9⟩
    have HS3 := Lib.hid (HS2.out.non hU9)
    clear hU9 c6 HS2
    go_wp2_with fail
    exact ⟨⟨t + 1, b2, r2, p2, f2, by omega, rfl, by omega, HS3.out⟩, by simp only [intOf]; omega⟩
end Go.Proofs.Ytkhhmkcpbefadaa
