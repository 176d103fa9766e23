/- IrqApart's deed: levels are looked at. Conditions: the boards, the owners and the deed are known. -/
import Derived.Test.YtkhhmkcpbefadaaIrqBlk
namespace Go.Proofs.Ytkhhmkcpbefadaa
open Go.RowKit
set_option maxRecDepth 100000 in
set_option maxHeartbeats 16000000 in
theorem blk_look {u1 u3 u4 u5 u6 u8 u10 u12 u13 u16 u17 u18 u19 u20 u21 u22 u23 u24 u25 u26 u27 u28 u29 u30 u31 u32 u33 u34 u35 u36 u37 u38 u39 u40 u41 u42 u43 u44 u45 u46 u47 u48 u49 u50 u51 u52 u53 u54 u55 u56 u57 u58 u59 u60 u61 u62 u63 u64 u65 u66 u67 u68 u69 u70 u71 u72 u73 u74 u75 u76 u77 u78 u79 u80 u81 u82 u83 u84 u85 u86 u87 u88 u89 u90 u91 u92 u93 u94 u95 u96 u97 u98 u99 u100 u101 u102 u103 u105 u106 u107 u108 u109 u110 u111 u112 u113 u114 u115 u116 u117 u118 u119 u120 u121 u122 u123 u124 u125 u126 u127 u128 u129 u130 u131 u132 u133 u134 u135 u136 u137 u138 u139 u140 u141 u142 u143 u144 u145 u146 u147 u148 u149 u150 u151 u152 u153 u154 u155 u156 u157 u158 u159 u160 u161 u162 u163 u164 u165 u166 u167 u168 u169 u170 u171 u172 u173 u174 u175 u176 u177 u178 u179 u180 u181 u182 u183 u184 u185 u186 u187 u188 u189 u190 u191 u192 u193 u194 u195 u196 u197 u198 u199 u200 u201 u202 u203 u204 u205 u206 u207 u208 u209 u210 u211 u212 u213 u214 u215 u216 u217 u218 u219 u220 u221 u222 u223 u224 u225 u226 u227 u228 u229 u230 u231 u232 u233 u234 u235 u236 u237 u238 u239 u240 u241 u242 u243 u244 u245 u246 u247 u248 u249 u250 u251 u252 u253 u254 u255 u256 u257 u258 u259 u260 u261 u262 u263 u264 u265 u266 u267 u268 u269 u270 u271 u272 u273 u274 u275 u276 u277 u278 u279 u280 u281 u282 u283 u284 u285 u286 u287 u288 u289 u290 u291 u292 u293 u294 u295 u296 u297 u298 u299 u300 u301 u302 u303 u304 u305 u306 u307 u308 u309 u310 u311 u312 u313 u314 u315 u316 u317 u318 u319 u320 u321 u322 u323 u324 u325 u326 u327 u328 u329 u330 : Value} (K : Act → World → Prop) (Z : Exit → World → Prop) {w wa : World} {A LA : Option Addr} {n cc b r c q g k dd ln lc : Nat} {nn kk : Int} {own : Bool} {LV : Nat → Bool} {p s : List WR × WS} (_hk8 : k < 8) (_hn16 : n ≤ 16) (_hln : ln ≤ 400)
    (hA : AR w wa b r c q g n k p s) (hD : Blk wa dd #[.int .i64 0, .int .i64 nn, .int .i64 kk, .slice LA ln lc] 45) (_hdw : w.heap.size ≤ dd) (hdn : dd ≠ b ∧ dd ≠ r ∧ dd ≠ c ∧ dd ≠ q ∧ dd ≠ g) (hLV : BoolsAt w LA ln LV)
    (hQ : ∀ (v16 v17 v18 v19 v20 v21 v22 v105 v106 v107 v108 v109 v110 v111 v112 v113 v114 v115 v116 v117 v118 v119 v120 v121 v122 v123 v124 v125 v126 v127 v128 v129 v130 v131 v132 v133 v134 v135 v136 v137 v138 v139 v140 v141 v142 v143 v144 v145 v146 v147 v148 v149 v150 v151 v152 v153 v154 v155 v156 v157 v158 v159 v160 v161 v162 v163 v164 v165 v166 v167 v168 v169 v170 v171 v172 v173 v174 v175 v176 v177 v178 v179 v180 v181 v182 v183 v184 v185 v186 v187 v188 v189 v190 v191 v192 v193 v194 v195 v196 v197 v198 v199 v200 v201 v202 v203 v204 v205 v206 v207 v208 v209 v210 v211 v212 v213 v214 v215 v216 v217 v218 v219 v220 v221 v222 v223 v224 v225 v226 v227 v228 v229 v230 v231 v232 v233 v234 v235 v236 v237 v238 v239 v240 v241 v242 v243 v244 v245 v246 v247 v248 v249 v250 v251 v252 v253 v254 v255 v256 v257 v258 v259 v260 v261 v262 v263 v264 v265 v266 v267 v268 v269 v270 v271 v272 v273 v274 v275 v276 v277 v278 v279 v280 v281 v282 v283 v284 v285 v286 v287 v288 v289 v290 v291 v292 v293 v294 v295 v296 v297 v298 v299 v300 v301 v302 v303 v304 v305 v306 v307 v308 v309 v310 v311 v312 v313 v314 : Value) (w' : World), (∃ p2 s2, AR w w' b r c q g n k p2 s2) → K ⟨List.toArray (.slice A n cc :: u1 :: .int .i64 (k : Int) :: u3 :: u4 :: u5 :: u6 :: .pointer (some ⟨b, 0, none⟩) :: u8 :: .pointer (some ⟨c, 0, none⟩) :: u10 :: .slice (some ⟨g, 0, none⟩) n n :: u12 :: u13 :: .pointer (some ⟨dd, 0, none⟩) :: .bool own :: v16 :: v17 :: v18 :: v19 :: v20 :: v21 :: v22 :: u23 :: u24 :: u25 :: u26 :: u27 :: u28 :: u29 :: u30 :: u31 :: u32 :: u33 :: u34 :: u35 :: u36 :: u37 :: u38 :: u39 :: u40 :: u41 :: u42 :: u43 :: u44 :: u45 :: u46 :: u47 :: u48 :: u49 :: u50 :: u51 :: u52 :: u53 :: u54 :: u55 :: u56 :: u57 :: u58 :: u59 :: u60 :: u61 :: u62 :: u63 :: u64 :: u65 :: u66 :: u67 :: u68 :: u69 :: u70 :: u71 :: u72 :: u73 :: u74 :: u75 :: u76 :: u77 :: u78 :: u79 :: u80 :: u81 :: u82 :: u83 :: u84 :: u85 :: u86 :: u87 :: u88 :: u89 :: u90 :: u91 :: u92 :: u93 :: u94 :: u95 :: u96 :: u97 :: u98 :: u99 :: u100 :: u101 :: u102 :: u103 :: .int .i64 0 :: v105 :: v106 :: v107 :: v108 :: v109 :: v110 :: v111 :: v112 :: v113 :: v114 :: v115 :: v116 :: v117 :: v118 :: v119 :: v120 :: v121 :: v122 :: v123 :: v124 :: v125 :: v126 :: v127 :: v128 :: v129 :: v130 :: v131 :: v132 :: v133 :: v134 :: v135 :: v136 :: v137 :: v138 :: v139 :: v140 :: v141 :: v142 :: v143 :: v144 :: v145 :: v146 :: v147 :: v148 :: v149 :: v150 :: v151 :: v152 :: v153 :: v154 :: v155 :: v156 :: v157 :: v158 :: v159 :: v160 :: v161 :: v162 :: v163 :: v164 :: v165 :: v166 :: v167 :: v168 :: v169 :: v170 :: v171 :: v172 :: v173 :: v174 :: v175 :: v176 :: v177 :: v178 :: v179 :: v180 :: v181 :: v182 :: v183 :: v184 :: v185 :: v186 :: v187 :: v188 :: v189 :: v190 :: v191 :: v192 :: v193 :: v194 :: v195 :: v196 :: v197 :: v198 :: v199 :: v200 :: v201 :: v202 :: v203 :: v204 :: v205 :: v206 :: v207 :: v208 :: v209 :: v210 :: v211 :: v212 :: v213 :: v214 :: v215 :: v216 :: v217 :: v218 :: v219 :: v220 :: v221 :: v222 :: v223 :: v224 :: v225 :: v226 :: v227 :: v228 :: v229 :: v230 :: v231 :: v232 :: v233 :: v234 :: v235 :: v236 :: v237 :: v238 :: v239 :: v240 :: v241 :: v242 :: v243 :: v244 :: v245 :: v246 :: v247 :: v248 :: v249 :: v250 :: v251 :: v252 :: v253 :: v254 :: v255 :: v256 :: v257 :: v258 :: v259 :: v260 :: v261 :: v262 :: v263 :: v264 :: v265 :: v266 :: v267 :: v268 :: v269 :: v270 :: v271 :: v272 :: v273 :: v274 :: v275 :: v276 :: v277 :: v278 :: v279 :: v280 :: v281 :: v282 :: v283 :: v284 :: v285 :: v286 :: v287 :: v288 :: v289 :: v290 :: v291 :: v292 :: v293 :: v294 :: v295 :: v296 :: v297 :: v298 :: v299 :: v300 :: v301 :: v302 :: v303 :: v304 :: v305 :: v306 :: v307 :: v308 :: v309 :: v310 :: v311 :: v312 :: v313 :: v314 :: u315 :: u316 :: u317 :: u318 :: u319 :: u320 :: u321 :: u322 :: u323 :: u324 :: u325 :: u326 :: u327 :: u328 :: u329 :: u330 :: []), []⟩ w') :
    blk4.wp Try.prog (Exit.then K fun e _ w => Z e w) ⟨List.toArray (.slice A n cc :: u1 :: .int .i64 (k : Int) :: u3 :: u4 :: u5 :: u6 :: .pointer (some ⟨b, 0, none⟩) :: u8 :: .pointer (some ⟨c, 0, none⟩) :: u10 :: .slice (some ⟨g, 0, none⟩) n n :: u12 :: u13 :: .pointer (some ⟨dd, 0, none⟩) :: .bool own :: u16 :: u17 :: u18 :: u19 :: u20 :: u21 :: u22 :: u23 :: u24 :: u25 :: u26 :: u27 :: u28 :: u29 :: u30 :: u31 :: u32 :: u33 :: u34 :: u35 :: u36 :: u37 :: u38 :: u39 :: u40 :: u41 :: u42 :: u43 :: u44 :: u45 :: u46 :: u47 :: u48 :: u49 :: u50 :: u51 :: u52 :: u53 :: u54 :: u55 :: u56 :: u57 :: u58 :: u59 :: u60 :: u61 :: u62 :: u63 :: u64 :: u65 :: u66 :: u67 :: u68 :: u69 :: u70 :: u71 :: u72 :: u73 :: u74 :: u75 :: u76 :: u77 :: u78 :: u79 :: u80 :: u81 :: u82 :: u83 :: u84 :: u85 :: u86 :: u87 :: u88 :: u89 :: u90 :: u91 :: u92 :: u93 :: u94 :: u95 :: u96 :: u97 :: u98 :: u99 :: u100 :: u101 :: u102 :: u103 :: .int .i64 0 :: u105 :: u106 :: u107 :: u108 :: u109 :: u110 :: u111 :: u112 :: u113 :: u114 :: u115 :: u116 :: u117 :: u118 :: u119 :: u120 :: u121 :: u122 :: u123 :: u124 :: u125 :: u126 :: u127 :: u128 :: u129 :: u130 :: u131 :: u132 :: u133 :: u134 :: u135 :: u136 :: u137 :: u138 :: u139 :: u140 :: u141 :: u142 :: u143 :: u144 :: u145 :: u146 :: u147 :: u148 :: u149 :: u150 :: u151 :: u152 :: u153 :: u154 :: u155 :: u156 :: u157 :: u158 :: u159 :: u160 :: u161 :: u162 :: u163 :: u164 :: u165 :: u166 :: u167 :: u168 :: u169 :: u170 :: u171 :: u172 :: u173 :: u174 :: u175 :: u176 :: u177 :: u178 :: u179 :: u180 :: u181 :: u182 :: u183 :: u184 :: u185 :: u186 :: u187 :: u188 :: u189 :: u190 :: u191 :: u192 :: u193 :: u194 :: u195 :: u196 :: u197 :: u198 :: u199 :: u200 :: u201 :: u202 :: u203 :: u204 :: u205 :: u206 :: u207 :: u208 :: u209 :: u210 :: u211 :: u212 :: u213 :: u214 :: u215 :: u216 :: u217 :: u218 :: u219 :: u220 :: u221 :: u222 :: u223 :: u224 :: u225 :: u226 :: u227 :: u228 :: u229 :: u230 :: u231 :: u232 :: u233 :: u234 :: u235 :: u236 :: u237 :: u238 :: u239 :: u240 :: u241 :: u242 :: u243 :: u244 :: u245 :: u246 :: u247 :: u248 :: u249 :: u250 :: u251 :: u252 :: u253 :: u254 :: u255 :: u256 :: u257 :: u258 :: u259 :: u260 :: u261 :: u262 :: u263 :: u264 :: u265 :: u266 :: u267 :: u268 :: u269 :: u270 :: u271 :: u272 :: u273 :: u274 :: u275 :: u276 :: u277 :: u278 :: u279 :: u280 :: u281 :: u282 :: u283 :: u284 :: u285 :: u286 :: u287 :: u288 :: u289 :: u290 :: u291 :: u292 :: u293 :: u294 :: u295 :: u296 :: u297 :: u298 :: u299 :: u300 :: u301 :: u302 :: u303 :: u304 :: u305 :: u306 :: u307 :: u308 :: u309 :: u310 :: u311 :: u312 :: u313 :: u314 :: u315 :: u316 :: u317 :: u318 :: u319 :: u320 :: u321 :: u322 :: u323 :: u324 :: u325 :: u326 :: u327 :: u328 :: u329 :: u330 :: []), []⟩ wa := by
  have HA1 := Lib.hid hA
  have HD1 := Lib.hid hD
  have HN := Lib.hid hdn
  have HLV := Lib.hid hLV
  have HQQ := Lib.hid hQ
  have hk8 := _hk8
  have hn16 := _hn16
  have hln := _hln
  have hdw := _hdw
  have hp5 : p.1.length = n := hA.L
  clear hA hD hdn hLV hQ
  have f0 : wa.cell? ⟨dd, 0, none⟩ = some (.int .i64 0) := HD1.out.cell 0 rfl
  have f1 : wa.cell? ⟨dd, 1, none⟩ = some (.int .i64 nn) := HD1.out.cell 1 rfl
  have f2 : wa.cell? ⟨dd, 2, none⟩ = some (.int .i64 kk) := HD1.out.cell 2 rfl
  have f3 : wa.cell? ⟨dd, 3, none⟩ = some (.slice LA ln lc) := HD1.out.cell 3 rfl
  have X := Lib.hid (fun (W : World) (u : Upd (fun i => i = b ∨ i = r ∨ i = c ∨ i = q) wa W) => (show Blk W dd #[.int .i64 0, .int .i64 nn, .int .i64 kk, .slice LA ln lc] 45 from Blk.upd u HD1.out (fun e => by have := HN.out; omega)))
  conv => arg 2; whnf
  have HC := Lib.hid (copy_is LA ln lc LV (by omega) wa fun hp => by
    obtain ⟨a, o, e, hc⟩ := HLV.out hp
    exact ⟨a, o, e, fun i hi => HA1.out.Q.B.up.cell_eq id (hc i hi)⟩)
  go_wp2_with (go_at_call 16; refine HC.out.mono ?_; rintro e w5 ⟨vc, rfl, hrow, hu5⟩)
  obtain ⟨AC, cC, rfl, hcc⟩ := own_cells hrow
  obtain ⟨ba5, hba5⟩ : ∃ x, x = wa.heap.size := ⟨_, rfl⟩
  have hb1 : b < ba5 := by rw [hba5]; exact HA1.out.Q.B.ltb
  have hb2 : r < ba5 := by rw [hba5]; exact HA1.out.Q.B.ltr
  have hb3 : c < ba5 := by rw [hba5]; exact HA1.out.Q.C.ltb
  have hb4 : q < ba5 := by rw [hba5]; exact HA1.out.Q.C.ltr
  have hb5 : g < ba5 := by rw [hba5]; exact HA1.out.Q.O.lt
  have hb6 : dd < ba5 := by rw [hba5]; exact HD1.out.lt
  rw [← hba5] at hrow hcc
  have HR0 := Lib.hid (show w5.ownsRow ba5 4 1 (.slice AC ln cC) ln (bools (fun j => if j < 0 then flip LV (ows p.1) k j else LV j) ln) by rw [bools_congr (LW := LV) (fun j _ => if_neg (by omega))]; exact hrow)
  have HQ5 := Lib.hid (HA1.out.Q.non hu5)
  have HX5 := Lib.hid (show Upd (fun i => ba5 ≤ i) wa w5 from hu5.mono fun _ _ h => h.elim)
  have HCC := Lib.hid (show 0 < ln → ∃ gl, AC = some ⟨gl, 0, none⟩ ∧ ba5 ≤ gl from fun hp => (hcc hp).imp fun _ h => ⟨h.1, h.2.1⟩)
  clear hrow hcc hu5 HC hba5
  go_wp2_with fail
  go_loopw [17] (fun i wy => ∃ u : Nat, u ≤ ln ∧ u ≤ n ∧ i = .int .i64 u ∧ AQ w wy b r c q g p s (ows p.1) ∧ wy.ownsRow ba5 4 1 (.slice AC ln cC) ln (bools (fun j => if j < u then flip LV (ows p.1) k j else LV j) ln) ∧ Upd (fun i => ba5 ≤ i) wa wy) (fun i _ => ln - (intOf i).toNat)
  case atStart => exact ⟨0, Nat.zero_le _, Nat.zero_le _, rfl, HQ5.out, HR0.out, HX5.out⟩
  case round =>
    clear HQ5 HR0 HX5
    obtain ⟨u, hu1, hu2, rfl, hQ, hR, hX⟩ := hrel
    have HQ := Lib.hid hQ
    have HR := Lib.hid hR
    have HX2 := Lib.hid hX
    clear hQ hR hX
    by_cases hlt2 : u < ln ∧ u < n
    case pos =>
      obtain ⟨hl1, hl2⟩ := hlt2
      have k4 : (u : Int) < ln := by omega
      have k5 : (u : Int) < n := by omega
      obtain ⟨gl, rfl, hgl5⟩ := HCC.out (by omega)
      obtain ⟨A7, c7, e7, h7⟩ := own_cells HR.out
      obtain ⟨g7, rfl, _, _, _, h8⟩ := h7 (by omega)
      simp only [Value.slice.injEq, Option.some.injEq, Addr.mk.injEq, and_true, true_and] at e7
      obtain ⟨rfl, rfl⟩ := e7
      have c1 := h8 u _ (bools_at _ hl1)
      rw [if_neg (Nat.lt_irrefl u)] at c1
      have c1f := own_frz HR.out u
      obtain ⟨y, hy⟩ : ∃ y, p.1[u]? = some y := ⟨_, List.getElem?_eq_getElem (by omega)⟩
      have c2 := HQ.out.cell (ows_at hy)
      have hfl : flip LV (ows p.1) k u = (LV u != (y.ow != (k : Int))) := by
        unfold flip
        rw [List.getD_eq_getElem?_getD, ows_at hy]
        congr 1
        rw [Option.getD_some, Bool.eq_iff_iff]
        simp
      have HF := Lib.hid hfl
      clear h7 h8 hfl hy
      go_wp2_with fail
      go_region
      all_goals
        go_wp2_with fail
        refine ⟨⟨u + 1, by omega, by omega, rfl, ?_, ?_, ?_⟩, by simp only [intOf]; omega⟩
        · exact HQ.out.far (W' := _) (x := gl) (by ((with_reducible repeat' first | exact Upd.refl _ _ | apply Upd.drew | apply Upd.drewN | apply Upd.alloc | refine Upd.setCell ?_ ?_) <;> first | (intro _ _ h; exact h) | (intro _ _ h; exact h.elim) | (intro i h1 h2; exfalso; (try simp only at h2); omega) | (left; rfl) | (right; dsimp only; omega) | (right; omega))) (by omega) (by omega) (by omega) (by omega) (by omega) (Nat.le_trans (Nat.le_trans hdw (Nat.le_of_lt hb6)) hgl5)
        · have h9 := own_put HR.out u (.bool (LV u != (y.ow != (k : Int))))
          rw [bools_set] at h9
          rw [bools_congr (LW := fun j => if j = u then (LV u != (y.ow != (k : Int))) else if j < u then flip LV (ows p.1) k j else LV j) (fun j _ => ?_)]
          · first | exact h9 | exact own_drew h9
          · by_cases e : j = u
            · rw [if_pos e, if_pos (by omega), e]; exact HF.out
            · rw [if_neg e]
              by_cases e2 : j < u
              · rw [if_pos e2, if_pos (by omega)]
              · rw [if_neg e2, if_neg (by omega)]
        · first
            | exact (HX2.out.setCell (.inl hgl5)).drew
            | exact HX2.out.drew.setCell (.inl hgl5)
            | exact HX2.out.setCell (.inl hgl5)
    have HXd := Lib.hid (show Blk wr dd #[.int .i64 0, .int .i64 nn, .int .i64 kk, .slice LA ln lc] 45 from Blk.upd HX2.out HD1.out (by omega))
    have f3' : wr.cell? ⟨dd, 3, none⟩ = some (.slice LA ln lc) := HXd.out.cell 3 rfl
    have HL1 := Lib.hid (aq_look HQ.out (n := ln) (by omega) LA lc LV (fun hp => by
      obtain ⟨a, o, e, hc⟩ := HLV.out hp
      have ha : a < w.heap.size := World.block_lt_of_cell? _ _ (hc 0 hp)
      have := HQ.out.B.lb
      have := HQ.out.B.lr
      exact ⟨a, o, e, by omega, by omega, fun i hi => HQ.out.B.up.cell_eq id (hc i hi)⟩))
    have HL2 := Lib.hid (fun (W : World) (hq : AQ w W b r c q g (lookP p LV ln) s (ows p.1)) (hu : Upd (fun i => i = b ∨ i = r) wr W) => aq_look hq.swap (n := ln) (by omega) AC cC (fun j => if j < u then flip LV (ows p.1) k j else LV j) (fun hp => by
      obtain ⟨gl, e, hgl5⟩ := HCC.out hp
      subst e
      obtain ⟨A7, c7, e7, h7⟩ := own_cells HR.out
      obtain ⟨g7, rfl, _, _, _, h8⟩ := h7 (by omega)
      simp only [Value.slice.injEq, Option.some.injEq, Addr.mk.injEq, and_true, true_and] at e7
      obtain ⟨rfl, rfl⟩ := e7
      exact ⟨gl, 0, rfl, by omega, by omega, fun i hi => by rw [Nat.zero_add]; exact hu.cell_eq (by intro e; rcases e with e | e <;> (dsimp only at e; omega)) (h8 i _ (bools_at _ hi))⟩))
    have hz : lookZ s ln = lookZ p ln := by unfold lookZ; rw [HA1.out.R.len]
    have HZ := Lib.hid hz
    clear f0 f1 f2 f3 HXd hz
    have hex : (∃ e1 : ¬ (u : Int) < ln, True) ∨ ((u : Int) < ln ∧ ¬ (u : Int) < n) := by
      by_cases h : (u : Int) < ln
      · exact .inr ⟨h, by omega⟩
      · exact .inl ⟨h, trivial⟩
    rcases hex with ⟨k4, _⟩ | ⟨k4, k5⟩
    all_goals
      go_wp2_with (first
        | (go_at_call_of 12 (Value.pointer (some ⟨b, 0, none⟩)); refine HL1.out.mono ?_; rintro e w6 ⟨rfl, hB, hu6⟩; have HB6 := Lib.hid hB; have HL3 := Lib.hid (HL2.out _ hB hu6); clear hB hu6)
        | (go_at_call_of 12 (Value.pointer (some ⟨c, 0, none⟩)); refine HL3.out.mono ?_; rintro e w7 ⟨rfl, hC, hu7⟩; rw [HZ.out]; have HC7 := Lib.hid hC; clear hC hu7))
      try simp only [Exit.inBlock, Exit.then]
      apply HQQ.out
      refine ⟨_, _, HC7.out.swap.lookd, ?_, ?_⟩
      · unfold lookP
        by_cases hl : ln = p.1.length
        · rw [if_pos hl, if_pos (hl.trans HA1.out.R.len)]
          exact Rel.look LV _ HA1.out.R HA1.out.Q.B.fit ln fun i hi => if_pos (by omega)
        · rw [if_neg hl, if_neg (by rw [← HA1.out.R.len]; exact hl)]
          exact HA1.out.R
      · unfold lookP
        split
        · rw [lookR_length]; exact HA1.out.L
        · exact HA1.out.L
end Go.Proofs.Ytkhhmkcpbefadaa
