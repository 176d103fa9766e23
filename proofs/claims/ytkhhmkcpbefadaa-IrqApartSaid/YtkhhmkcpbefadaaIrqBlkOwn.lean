/- IrqApart's deed: a device is given to a world, or taken. Conditions: the boards, the owners and the deed are known. -/
import Derived.Test.YtkhhmkcpbefadaaIrqBlk
namespace Go.Proofs.Ytkhhmkcpbefadaa
open Go.RowKit
set_option maxRecDepth 100000 in
set_option maxHeartbeats 16000000 in
theorem blk_own_in {u1 u3 u4 u5 u6 u8 u10 u12 u13 u16 u17 u18 u19 u20 u21 u22 u23 u24 u25 u26 u27 u28 u29 u30 u31 u32 u33 u34 u35 u36 u37 u38 u39 u40 u41 u42 u43 u44 u45 u46 u47 u48 u49 u50 u51 u52 u53 u54 u55 u56 u57 u58 u59 u60 u61 u62 u63 u64 u65 u66 u67 u68 u69 u70 u71 u72 u73 u74 u75 u76 u77 u78 u79 u80 u81 u82 u83 u84 u85 u86 u87 u88 u89 u90 u91 u92 u93 u94 u95 u96 u97 u98 u99 u100 u101 u102 u103 u105 u106 u107 u108 u109 u110 u111 u112 u113 u114 u115 u116 u117 u118 u119 u120 u121 u122 u123 u124 u125 u126 u127 u128 u129 u130 u131 u132 u133 u134 u135 u136 u137 u138 u139 u140 u141 u142 u143 u144 u145 u146 u147 u148 u149 u150 u151 u152 u153 u154 u155 u156 u157 u158 u159 u160 u161 u162 u163 u164 u165 u166 u167 u168 u169 u170 u171 u172 u173 u174 u175 u176 u177 u178 u179 u180 u181 u182 u183 u184 u185 u186 u187 u188 u189 u190 u191 u192 u193 u194 u195 u196 u197 u198 u199 u200 u201 u202 u203 u204 u205 u206 u207 u208 u209 u210 u211 u212 u213 u214 u215 u216 u217 u218 u219 u220 u221 u222 u223 u224 u225 u226 u227 u228 u229 u230 u231 u232 u233 u234 u235 u236 u237 u238 u239 u240 u241 u242 u243 u244 u245 u246 u247 u248 u249 u250 u251 u252 u253 u254 u255 u256 u257 u258 u259 u260 u261 u262 u263 u264 u265 u266 u267 u268 u269 u270 u271 u272 u273 u274 u275 u276 u277 u278 u279 u280 u281 u282 u283 u284 u285 u286 u287 u288 u289 u290 u291 u292 u293 u294 u295 u296 u297 u298 u299 u300 u301 u302 u303 u304 u305 u306 u307 u308 u309 u310 u311 u312 u313 u314 u315 u316 u317 u318 u319 u320 u321 u322 u323 u324 u325 u326 u327 u328 u329 u330 : Value} (K : Act → World → Prop) (Z : Exit → World → Prop) {w wa : World} {A LA : Option Addr} {n cc b r c q g k dd ln lc i : Nat} {kk : Int} {own : Bool} {LV : Nat → Bool} {p s : List WR × WS} {x : WR} (_hk8 : k < 8) (_hn16 : n ≤ 16) (_hln : ln ≤ 400)
    (hA : AR w wa b r c q g n k p s) (hD : Blk wa dd #[.int .i64 1, .int .i64 (i : Int), .int .i64 kk, .slice LA ln lc] 45) (_hdw : w.heap.size ≤ dd) (hdn : dd ≠ b ∧ dd ≠ r ∧ dd ≠ c ∧ dd ≠ q ∧ dd ≠ g) (hLV : BoolsAt w LA ln LV) (hx : p.1[i]? = some x)
    (hQ : ∀ (v16 v17 v18 v19 v20 v21 v22 v105 v106 v107 v108 v109 v110 v111 v112 v113 v114 v115 v116 v117 v118 v119 v120 v121 v122 v123 v124 v125 v126 v127 v128 v129 v130 v131 v132 v133 v134 v135 v136 v137 v138 v139 v140 v141 v142 v143 v144 v145 v146 v147 v148 v149 v150 v151 v152 v153 v154 v155 v156 v157 v158 v159 v160 v161 v162 v163 v164 v165 v166 v167 v168 v169 v170 v171 v172 v173 v174 v175 v176 v177 v178 v179 v180 v181 v182 v183 v184 v185 v186 v187 v188 v189 v190 v191 v192 v193 v194 v195 v196 v197 v198 v199 v200 v201 v202 v203 v204 v205 v206 v207 v208 v209 v210 v211 v212 v213 v214 v215 v216 v217 v218 v219 v220 v221 v222 v223 v224 v225 v226 v227 v228 v229 v230 v231 v232 v233 v234 v235 v236 v237 v238 v239 v240 v241 v242 v243 v244 v245 v246 v247 v248 v249 v250 v251 v252 v253 v254 v255 v256 v257 v258 v259 v260 v261 v262 v263 v264 v265 v266 v267 v268 v269 v270 v271 v272 v273 v274 v275 v276 v277 v278 v279 v280 v281 v282 v283 v284 v285 v286 v287 v288 v289 v290 v291 v292 v293 v294 v295 v296 v297 v298 v299 v300 v301 v302 v303 v304 v305 v306 v307 v308 v309 v310 v311 v312 v313 v314 : Value) (w' : World), (∃ p2 s2, AR w w' b r c q g n k p2 s2) → K ⟨List.toArray (.slice A n cc :: u1 :: .int .i64 (k : Int) :: u3 :: u4 :: u5 :: u6 :: .pointer (some ⟨b, 0, none⟩) :: u8 :: .pointer (some ⟨c, 0, none⟩) :: u10 :: .slice (some ⟨g, 0, none⟩) n n :: u12 :: u13 :: .pointer (some ⟨dd, 0, none⟩) :: .bool own :: v16 :: v17 :: v18 :: v19 :: v20 :: v21 :: v22 :: u23 :: u24 :: u25 :: u26 :: u27 :: u28 :: u29 :: u30 :: u31 :: u32 :: u33 :: u34 :: u35 :: u36 :: u37 :: u38 :: u39 :: u40 :: u41 :: u42 :: u43 :: u44 :: u45 :: u46 :: u47 :: u48 :: u49 :: u50 :: u51 :: u52 :: u53 :: u54 :: u55 :: u56 :: u57 :: u58 :: u59 :: u60 :: u61 :: u62 :: u63 :: u64 :: u65 :: u66 :: u67 :: u68 :: u69 :: u70 :: u71 :: u72 :: u73 :: u74 :: u75 :: u76 :: u77 :: u78 :: u79 :: u80 :: u81 :: u82 :: u83 :: u84 :: u85 :: u86 :: u87 :: u88 :: u89 :: u90 :: u91 :: u92 :: u93 :: u94 :: u95 :: u96 :: u97 :: u98 :: u99 :: u100 :: u101 :: u102 :: u103 :: .int .i64 1 :: v105 :: v106 :: v107 :: v108 :: v109 :: v110 :: v111 :: v112 :: v113 :: v114 :: v115 :: v116 :: v117 :: v118 :: v119 :: v120 :: v121 :: v122 :: v123 :: v124 :: v125 :: v126 :: v127 :: v128 :: v129 :: v130 :: v131 :: v132 :: v133 :: v134 :: v135 :: v136 :: v137 :: v138 :: v139 :: v140 :: v141 :: v142 :: v143 :: v144 :: v145 :: v146 :: v147 :: v148 :: v149 :: v150 :: v151 :: v152 :: v153 :: v154 :: v155 :: v156 :: v157 :: v158 :: v159 :: v160 :: v161 :: v162 :: v163 :: v164 :: v165 :: v166 :: v167 :: v168 :: v169 :: v170 :: v171 :: v172 :: v173 :: v174 :: v175 :: v176 :: v177 :: v178 :: v179 :: v180 :: v181 :: v182 :: v183 :: v184 :: v185 :: v186 :: v187 :: v188 :: v189 :: v190 :: v191 :: v192 :: v193 :: v194 :: v195 :: v196 :: v197 :: v198 :: v199 :: v200 :: v201 :: v202 :: v203 :: v204 :: v205 :: v206 :: v207 :: v208 :: v209 :: v210 :: v211 :: v212 :: v213 :: v214 :: v215 :: v216 :: v217 :: v218 :: v219 :: v220 :: v221 :: v222 :: v223 :: v224 :: v225 :: v226 :: v227 :: v228 :: v229 :: v230 :: v231 :: v232 :: v233 :: v234 :: v235 :: v236 :: v237 :: v238 :: v239 :: v240 :: v241 :: v242 :: v243 :: v244 :: v245 :: v246 :: v247 :: v248 :: v249 :: v250 :: v251 :: v252 :: v253 :: v254 :: v255 :: v256 :: v257 :: v258 :: v259 :: v260 :: v261 :: v262 :: v263 :: v264 :: v265 :: v266 :: v267 :: v268 :: v269 :: v270 :: v271 :: v272 :: v273 :: v274 :: v275 :: v276 :: v277 :: v278 :: v279 :: v280 :: v281 :: v282 :: v283 :: v284 :: v285 :: v286 :: v287 :: v288 :: v289 :: v290 :: v291 :: v292 :: v293 :: v294 :: v295 :: v296 :: v297 :: v298 :: v299 :: v300 :: v301 :: v302 :: v303 :: v304 :: v305 :: v306 :: v307 :: v308 :: v309 :: v310 :: v311 :: v312 :: v313 :: v314 :: u315 :: u316 :: u317 :: u318 :: u319 :: u320 :: u321 :: u322 :: u323 :: u324 :: u325 :: u326 :: u327 :: u328 :: u329 :: u330 :: []), []⟩ w') :
    blk4.wp Try.prog (Exit.then K fun e _ w => Z e w) ⟨List.toArray (.slice A n cc :: u1 :: .int .i64 (k : Int) :: u3 :: u4 :: u5 :: u6 :: .pointer (some ⟨b, 0, none⟩) :: u8 :: .pointer (some ⟨c, 0, none⟩) :: u10 :: .slice (some ⟨g, 0, none⟩) n n :: u12 :: u13 :: .pointer (some ⟨dd, 0, none⟩) :: .bool own :: u16 :: u17 :: u18 :: u19 :: u20 :: u21 :: u22 :: u23 :: u24 :: u25 :: u26 :: u27 :: u28 :: u29 :: u30 :: u31 :: u32 :: u33 :: u34 :: u35 :: u36 :: u37 :: u38 :: u39 :: u40 :: u41 :: u42 :: u43 :: u44 :: u45 :: u46 :: u47 :: u48 :: u49 :: u50 :: u51 :: u52 :: u53 :: u54 :: u55 :: u56 :: u57 :: u58 :: u59 :: u60 :: u61 :: u62 :: u63 :: u64 :: u65 :: u66 :: u67 :: u68 :: u69 :: u70 :: u71 :: u72 :: u73 :: u74 :: u75 :: u76 :: u77 :: u78 :: u79 :: u80 :: u81 :: u82 :: u83 :: u84 :: u85 :: u86 :: u87 :: u88 :: u89 :: u90 :: u91 :: u92 :: u93 :: u94 :: u95 :: u96 :: u97 :: u98 :: u99 :: u100 :: u101 :: u102 :: u103 :: .int .i64 1 :: u105 :: u106 :: u107 :: u108 :: u109 :: u110 :: u111 :: u112 :: u113 :: u114 :: u115 :: u116 :: u117 :: u118 :: u119 :: u120 :: u121 :: u122 :: u123 :: u124 :: u125 :: u126 :: u127 :: u128 :: u129 :: u130 :: u131 :: u132 :: u133 :: u134 :: u135 :: u136 :: u137 :: u138 :: u139 :: u140 :: u141 :: u142 :: u143 :: u144 :: u145 :: u146 :: u147 :: u148 :: u149 :: u150 :: u151 :: u152 :: u153 :: u154 :: u155 :: u156 :: u157 :: u158 :: u159 :: u160 :: u161 :: u162 :: u163 :: u164 :: u165 :: u166 :: u167 :: u168 :: u169 :: u170 :: u171 :: u172 :: u173 :: u174 :: u175 :: u176 :: u177 :: u178 :: u179 :: u180 :: u181 :: u182 :: u183 :: u184 :: u185 :: u186 :: u187 :: u188 :: u189 :: u190 :: u191 :: u192 :: u193 :: u194 :: u195 :: u196 :: u197 :: u198 :: u199 :: u200 :: u201 :: u202 :: u203 :: u204 :: u205 :: u206 :: u207 :: u208 :: u209 :: u210 :: u211 :: u212 :: u213 :: u214 :: u215 :: u216 :: u217 :: u218 :: u219 :: u220 :: u221 :: u222 :: u223 :: u224 :: u225 :: u226 :: u227 :: u228 :: u229 :: u230 :: u231 :: u232 :: u233 :: u234 :: u235 :: u236 :: u237 :: u238 :: u239 :: u240 :: u241 :: u242 :: u243 :: u244 :: u245 :: u246 :: u247 :: u248 :: u249 :: u250 :: u251 :: u252 :: u253 :: u254 :: u255 :: u256 :: u257 :: u258 :: u259 :: u260 :: u261 :: u262 :: u263 :: u264 :: u265 :: u266 :: u267 :: u268 :: u269 :: u270 :: u271 :: u272 :: u273 :: u274 :: u275 :: u276 :: u277 :: u278 :: u279 :: u280 :: u281 :: u282 :: u283 :: u284 :: u285 :: u286 :: u287 :: u288 :: u289 :: u290 :: u291 :: u292 :: u293 :: u294 :: u295 :: u296 :: u297 :: u298 :: u299 :: u300 :: u301 :: u302 :: u303 :: u304 :: u305 :: u306 :: u307 :: u308 :: u309 :: u310 :: u311 :: u312 :: u313 :: u314 :: u315 :: u316 :: u317 :: u318 :: u319 :: u320 :: u321 :: u322 :: u323 :: u324 :: u325 :: u326 :: u327 :: u328 :: u329 :: u330 :: []), []⟩ wa := by
  have HA1 := Lib.hid hA
  have HD1 := Lib.hid hD
  have HN := Lib.hid hdn
  have HLV := Lib.hid hLV
  have HQQ := Lib.hid hQ
  have hk8 := _hk8
  have hn16 := _hn16
  have hln := _hln
  have hdw := _hdw
  have hp5 : p.1.length = n := hA.L
  clear hA hD hdn hLV hQ
  have f0 : wa.cell? ⟨dd, 0, none⟩ = some (.int .i64 1) := HD1.out.cell 0 rfl
  have f1 : wa.cell? ⟨dd, 1, none⟩ = some (.int .i64 (i : Int)) := HD1.out.cell 1 rfl
  have f2 : wa.cell? ⟨dd, 2, none⟩ = some (.int .i64 kk) := HD1.out.cell 2 rfl
  have f3 : wa.cell? ⟨dd, 3, none⟩ = some (.slice LA ln lc) := HD1.out.cell 3 rfl
  have X := Lib.hid (fun (W : World) (u : Upd (fun i => i = b ∨ i = r ∨ i = c ∨ i = q) wa W) => (show Blk W dd #[.int .i64 1, .int .i64 (i : Int), .int .i64 kk, .slice LA ln lc] 45 from Blk.upd u HD1.out (fun e => by have := HN.out; omega)))
  conv => arg 2; whnf
  have HX := Lib.hid hx
  have hi : i < n := by have := (List.getElem?_eq_some_iff.1 hx).1; omega
  have k2 : (0 : Int) ≤ i := by omega
  have k3 : (i : Int) < n := by omega
  clear hx
  have HRO := Lib.hid (HA1.out.R.own (i : Int) kk)
  go_wp2_with fail
  refine (aq_own HA1.out.Q (i : Int) kk).mono ?_
  rintro e w5 ⟨rfl, hB, hu⟩
  have hu := hu.mono (T := fun i => i = b ∨ i = r ∨ i = c ∨ i = q) fun _ _ h => h.elim (fun h => .inl h) fun h => .inr (.inl h)
  have HU5 := Lib.hid hu
  have HB := Lib.hid hB
  have f1' : w5.cell? ⟨dd, 1, none⟩ = some (.int .i64 (i : Int)) := (X.out _ hu).cell 1 rfl
  have f2' : w5.cell? ⟨dd, 2, none⟩ = some (.int .i64 kk) := (X.out _ hu).cell 2 rfl
  clear hB hu f0 f1 f2 f3
  go_wp2_with fail
  refine (aq_own HB.out.swap (i : Int) kk).mono ?_
  rintro e w6 ⟨rfl, hC, hu⟩
  have hu := Upd.call hu HU5.out fun _ _ h => h.elim (fun h => .inr (.inr (.inl h))) fun h => .inr (.inr (.inr h))
  have f1'' : w6.cell? ⟨dd, 1, none⟩ = some (.int .i64 (i : Int)) := (X.out _ hu).cell 1 rfl
  have f2'' : w6.cell? ⟨dd, 2, none⟩ = some (.int .i64 kk) := (X.out _ hu).cell 2 rfl
  have HC6 := Lib.hid hC.swap
  rw [← HRO.out.2]
  clear hC hu HB f1' f2' HU5
  obtain ⟨R, hR⟩ : ∃ R, R = ownR p.1 (i : Int) kk := ⟨_, rfl⟩
  rw [← hR]
  rcases ownR_or p.1 (i : Int) kk with ⟨hrr, hr1, hr2⟩ | hrr
  · rw [hrr] at hR
    subst hR
    have c0 := HC6.out.cell (ows_at HX.out)
    have c0f := HC6.out.O.frozen i
    go_wp2_with fail
    try simp only [Exit.inBlock, Exit.then]
    apply HQQ.out
    have h9 := HC6.out.own i kk
    rw [show (ows p.1).set i kk = ows (ownW p.1 (i : Int) kk) by rw [ownW_ows, if_pos hrr]; rfl] at h9
    exact ⟨_, _, h9, HRO.out.1, by rw [ownW_length]; exact HA1.out.L⟩
  · have hR6 := hR.trans hrr
    clear hR
    subst hR6
    go_wp2_with fail
    try simp only [Exit.inBlock, Exit.then]
    apply HQQ.out
    have h9 := HC6.out
    rw [show ows p.1 = ows (ownW p.1 (i : Int) kk) by rw [ownW_ows, if_neg (by rw [hrr]; decide)]] at h9
    exact ⟨_, _, h9, HRO.out.1, by rw [ownW_length]; exact HA1.out.L⟩
set_option maxRecDepth 100000 in
set_option maxHeartbeats 16000000 in
theorem blk_own_out {u1 u3 u4 u5 u6 u8 u10 u12 u13 u16 u17 u18 u19 u20 u21 u22 u23 u24 u25 u26 u27 u28 u29 u30 u31 u32 u33 u34 u35 u36 u37 u38 u39 u40 u41 u42 u43 u44 u45 u46 u47 u48 u49 u50 u51 u52 u53 u54 u55 u56 u57 u58 u59 u60 u61 u62 u63 u64 u65 u66 u67 u68 u69 u70 u71 u72 u73 u74 u75 u76 u77 u78 u79 u80 u81 u82 u83 u84 u85 u86 u87 u88 u89 u90 u91 u92 u93 u94 u95 u96 u97 u98 u99 u100 u101 u102 u103 u105 u106 u107 u108 u109 u110 u111 u112 u113 u114 u115 u116 u117 u118 u119 u120 u121 u122 u123 u124 u125 u126 u127 u128 u129 u130 u131 u132 u133 u134 u135 u136 u137 u138 u139 u140 u141 u142 u143 u144 u145 u146 u147 u148 u149 u150 u151 u152 u153 u154 u155 u156 u157 u158 u159 u160 u161 u162 u163 u164 u165 u166 u167 u168 u169 u170 u171 u172 u173 u174 u175 u176 u177 u178 u179 u180 u181 u182 u183 u184 u185 u186 u187 u188 u189 u190 u191 u192 u193 u194 u195 u196 u197 u198 u199 u200 u201 u202 u203 u204 u205 u206 u207 u208 u209 u210 u211 u212 u213 u214 u215 u216 u217 u218 u219 u220 u221 u222 u223 u224 u225 u226 u227 u228 u229 u230 u231 u232 u233 u234 u235 u236 u237 u238 u239 u240 u241 u242 u243 u244 u245 u246 u247 u248 u249 u250 u251 u252 u253 u254 u255 u256 u257 u258 u259 u260 u261 u262 u263 u264 u265 u266 u267 u268 u269 u270 u271 u272 u273 u274 u275 u276 u277 u278 u279 u280 u281 u282 u283 u284 u285 u286 u287 u288 u289 u290 u291 u292 u293 u294 u295 u296 u297 u298 u299 u300 u301 u302 u303 u304 u305 u306 u307 u308 u309 u310 u311 u312 u313 u314 u315 u316 u317 u318 u319 u320 u321 u322 u323 u324 u325 u326 u327 u328 u329 u330 : Value} (K : Act → World → Prop) (Z : Exit → World → Prop) {w wa : World} {A LA : Option Addr} {n cc b r c q g k dd ln lc : Nat} {nn kk : Int} {own : Bool} {LV : Nat → Bool} {p s : List WR × WS} (_hk8 : k < 8) (_hn16 : n ≤ 16) (_hln : ln ≤ 400)
    (hA : AR w wa b r c q g n k p s) (hD : Blk wa dd #[.int .i64 1, .int .i64 nn, .int .i64 kk, .slice LA ln lc] 45) (_hdw : w.heap.size ≤ dd) (hdn : dd ≠ b ∧ dd ≠ r ∧ dd ≠ c ∧ dd ≠ q ∧ dd ≠ g) (hLV : BoolsAt w LA ln LV) (hout : nn < 0 ∨ (n : Int) ≤ nn)
    (hQ : ∀ (v16 v17 v18 v19 v20 v21 v22 v105 v106 v107 v108 v109 v110 v111 v112 v113 v114 v115 v116 v117 v118 v119 v120 v121 v122 v123 v124 v125 v126 v127 v128 v129 v130 v131 v132 v133 v134 v135 v136 v137 v138 v139 v140 v141 v142 v143 v144 v145 v146 v147 v148 v149 v150 v151 v152 v153 v154 v155 v156 v157 v158 v159 v160 v161 v162 v163 v164 v165 v166 v167 v168 v169 v170 v171 v172 v173 v174 v175 v176 v177 v178 v179 v180 v181 v182 v183 v184 v185 v186 v187 v188 v189 v190 v191 v192 v193 v194 v195 v196 v197 v198 v199 v200 v201 v202 v203 v204 v205 v206 v207 v208 v209 v210 v211 v212 v213 v214 v215 v216 v217 v218 v219 v220 v221 v222 v223 v224 v225 v226 v227 v228 v229 v230 v231 v232 v233 v234 v235 v236 v237 v238 v239 v240 v241 v242 v243 v244 v245 v246 v247 v248 v249 v250 v251 v252 v253 v254 v255 v256 v257 v258 v259 v260 v261 v262 v263 v264 v265 v266 v267 v268 v269 v270 v271 v272 v273 v274 v275 v276 v277 v278 v279 v280 v281 v282 v283 v284 v285 v286 v287 v288 v289 v290 v291 v292 v293 v294 v295 v296 v297 v298 v299 v300 v301 v302 v303 v304 v305 v306 v307 v308 v309 v310 v311 v312 v313 v314 : Value) (w' : World), (∃ p2 s2, AR w w' b r c q g n k p2 s2) → K ⟨List.toArray (.slice A n cc :: u1 :: .int .i64 (k : Int) :: u3 :: u4 :: u5 :: u6 :: .pointer (some ⟨b, 0, none⟩) :: u8 :: .pointer (some ⟨c, 0, none⟩) :: u10 :: .slice (some ⟨g, 0, none⟩) n n :: u12 :: u13 :: .pointer (some ⟨dd, 0, none⟩) :: .bool own :: v16 :: v17 :: v18 :: v19 :: v20 :: v21 :: v22 :: u23 :: u24 :: u25 :: u26 :: u27 :: u28 :: u29 :: u30 :: u31 :: u32 :: u33 :: u34 :: u35 :: u36 :: u37 :: u38 :: u39 :: u40 :: u41 :: u42 :: u43 :: u44 :: u45 :: u46 :: u47 :: u48 :: u49 :: u50 :: u51 :: u52 :: u53 :: u54 :: u55 :: u56 :: u57 :: u58 :: u59 :: u60 :: u61 :: u62 :: u63 :: u64 :: u65 :: u66 :: u67 :: u68 :: u69 :: u70 :: u71 :: u72 :: u73 :: u74 :: u75 :: u76 :: u77 :: u78 :: u79 :: u80 :: u81 :: u82 :: u83 :: u84 :: u85 :: u86 :: u87 :: u88 :: u89 :: u90 :: u91 :: u92 :: u93 :: u94 :: u95 :: u96 :: u97 :: u98 :: u99 :: u100 :: u101 :: u102 :: u103 :: .int .i64 1 :: v105 :: v106 :: v107 :: v108 :: v109 :: v110 :: v111 :: v112 :: v113 :: v114 :: v115 :: v116 :: v117 :: v118 :: v119 :: v120 :: v121 :: v122 :: v123 :: v124 :: v125 :: v126 :: v127 :: v128 :: v129 :: v130 :: v131 :: v132 :: v133 :: v134 :: v135 :: v136 :: v137 :: v138 :: v139 :: v140 :: v141 :: v142 :: v143 :: v144 :: v145 :: v146 :: v147 :: v148 :: v149 :: v150 :: v151 :: v152 :: v153 :: v154 :: v155 :: v156 :: v157 :: v158 :: v159 :: v160 :: v161 :: v162 :: v163 :: v164 :: v165 :: v166 :: v167 :: v168 :: v169 :: v170 :: v171 :: v172 :: v173 :: v174 :: v175 :: v176 :: v177 :: v178 :: v179 :: v180 :: v181 :: v182 :: v183 :: v184 :: v185 :: v186 :: v187 :: v188 :: v189 :: v190 :: v191 :: v192 :: v193 :: v194 :: v195 :: v196 :: v197 :: v198 :: v199 :: v200 :: v201 :: v202 :: v203 :: v204 :: v205 :: v206 :: v207 :: v208 :: v209 :: v210 :: v211 :: v212 :: v213 :: v214 :: v215 :: v216 :: v217 :: v218 :: v219 :: v220 :: v221 :: v222 :: v223 :: v224 :: v225 :: v226 :: v227 :: v228 :: v229 :: v230 :: v231 :: v232 :: v233 :: v234 :: v235 :: v236 :: v237 :: v238 :: v239 :: v240 :: v241 :: v242 :: v243 :: v244 :: v245 :: v246 :: v247 :: v248 :: v249 :: v250 :: v251 :: v252 :: v253 :: v254 :: v255 :: v256 :: v257 :: v258 :: v259 :: v260 :: v261 :: v262 :: v263 :: v264 :: v265 :: v266 :: v267 :: v268 :: v269 :: v270 :: v271 :: v272 :: v273 :: v274 :: v275 :: v276 :: v277 :: v278 :: v279 :: v280 :: v281 :: v282 :: v283 :: v284 :: v285 :: v286 :: v287 :: v288 :: v289 :: v290 :: v291 :: v292 :: v293 :: v294 :: v295 :: v296 :: v297 :: v298 :: v299 :: v300 :: v301 :: v302 :: v303 :: v304 :: v305 :: v306 :: v307 :: v308 :: v309 :: v310 :: v311 :: v312 :: v313 :: v314 :: u315 :: u316 :: u317 :: u318 :: u319 :: u320 :: u321 :: u322 :: u323 :: u324 :: u325 :: u326 :: u327 :: u328 :: u329 :: u330 :: []), []⟩ w') :
    blk4.wp Try.prog (Exit.then K fun e _ w => Z e w) ⟨List.toArray (.slice A n cc :: u1 :: .int .i64 (k : Int) :: u3 :: u4 :: u5 :: u6 :: .pointer (some ⟨b, 0, none⟩) :: u8 :: .pointer (some ⟨c, 0, none⟩) :: u10 :: .slice (some ⟨g, 0, none⟩) n n :: u12 :: u13 :: .pointer (some ⟨dd, 0, none⟩) :: .bool own :: u16 :: u17 :: u18 :: u19 :: u20 :: u21 :: u22 :: u23 :: u24 :: u25 :: u26 :: u27 :: u28 :: u29 :: u30 :: u31 :: u32 :: u33 :: u34 :: u35 :: u36 :: u37 :: u38 :: u39 :: u40 :: u41 :: u42 :: u43 :: u44 :: u45 :: u46 :: u47 :: u48 :: u49 :: u50 :: u51 :: u52 :: u53 :: u54 :: u55 :: u56 :: u57 :: u58 :: u59 :: u60 :: u61 :: u62 :: u63 :: u64 :: u65 :: u66 :: u67 :: u68 :: u69 :: u70 :: u71 :: u72 :: u73 :: u74 :: u75 :: u76 :: u77 :: u78 :: u79 :: u80 :: u81 :: u82 :: u83 :: u84 :: u85 :: u86 :: u87 :: u88 :: u89 :: u90 :: u91 :: u92 :: u93 :: u94 :: u95 :: u96 :: u97 :: u98 :: u99 :: u100 :: u101 :: u102 :: u103 :: .int .i64 1 :: u105 :: u106 :: u107 :: u108 :: u109 :: u110 :: u111 :: u112 :: u113 :: u114 :: u115 :: u116 :: u117 :: u118 :: u119 :: u120 :: u121 :: u122 :: u123 :: u124 :: u125 :: u126 :: u127 :: u128 :: u129 :: u130 :: u131 :: u132 :: u133 :: u134 :: u135 :: u136 :: u137 :: u138 :: u139 :: u140 :: u141 :: u142 :: u143 :: u144 :: u145 :: u146 :: u147 :: u148 :: u149 :: u150 :: u151 :: u152 :: u153 :: u154 :: u155 :: u156 :: u157 :: u158 :: u159 :: u160 :: u161 :: u162 :: u163 :: u164 :: u165 :: u166 :: u167 :: u168 :: u169 :: u170 :: u171 :: u172 :: u173 :: u174 :: u175 :: u176 :: u177 :: u178 :: u179 :: u180 :: u181 :: u182 :: u183 :: u184 :: u185 :: u186 :: u187 :: u188 :: u189 :: u190 :: u191 :: u192 :: u193 :: u194 :: u195 :: u196 :: u197 :: u198 :: u199 :: u200 :: u201 :: u202 :: u203 :: u204 :: u205 :: u206 :: u207 :: u208 :: u209 :: u210 :: u211 :: u212 :: u213 :: u214 :: u215 :: u216 :: u217 :: u218 :: u219 :: u220 :: u221 :: u222 :: u223 :: u224 :: u225 :: u226 :: u227 :: u228 :: u229 :: u230 :: u231 :: u232 :: u233 :: u234 :: u235 :: u236 :: u237 :: u238 :: u239 :: u240 :: u241 :: u242 :: u243 :: u244 :: u245 :: u246 :: u247 :: u248 :: u249 :: u250 :: u251 :: u252 :: u253 :: u254 :: u255 :: u256 :: u257 :: u258 :: u259 :: u260 :: u261 :: u262 :: u263 :: u264 :: u265 :: u266 :: u267 :: u268 :: u269 :: u270 :: u271 :: u272 :: u273 :: u274 :: u275 :: u276 :: u277 :: u278 :: u279 :: u280 :: u281 :: u282 :: u283 :: u284 :: u285 :: u286 :: u287 :: u288 :: u289 :: u290 :: u291 :: u292 :: u293 :: u294 :: u295 :: u296 :: u297 :: u298 :: u299 :: u300 :: u301 :: u302 :: u303 :: u304 :: u305 :: u306 :: u307 :: u308 :: u309 :: u310 :: u311 :: u312 :: u313 :: u314 :: u315 :: u316 :: u317 :: u318 :: u319 :: u320 :: u321 :: u322 :: u323 :: u324 :: u325 :: u326 :: u327 :: u328 :: u329 :: u330 :: []), []⟩ wa := by
  have HA1 := Lib.hid hA
  have HD1 := Lib.hid hD
  have HN := Lib.hid hdn
  have HLV := Lib.hid hLV
  have HQQ := Lib.hid hQ
  have hk8 := _hk8
  have hn16 := _hn16
  have hln := _hln
  have hdw := _hdw
  have hp5 : p.1.length = n := hA.L
  clear hA hD hdn hLV hQ
  have f0 : wa.cell? ⟨dd, 0, none⟩ = some (.int .i64 1) := HD1.out.cell 0 rfl
  have f1 : wa.cell? ⟨dd, 1, none⟩ = some (.int .i64 nn) := HD1.out.cell 1 rfl
  have f2 : wa.cell? ⟨dd, 2, none⟩ = some (.int .i64 kk) := HD1.out.cell 2 rfl
  have f3 : wa.cell? ⟨dd, 3, none⟩ = some (.slice LA ln lc) := HD1.out.cell 3 rfl
  have X := Lib.hid (fun (W : World) (u : Upd (fun i => i = b ∨ i = r ∨ i = c ∨ i = q) wa W) => (show Blk W dd #[.int .i64 1, .int .i64 nn, .int .i64 kk, .slice LA ln lc] 45 from Blk.upd u HD1.out (fun e => by have := HN.out; omega)))
  conv => arg 2; whnf
  have HRO := Lib.hid (HA1.out.R.own nn kk)
  go_wp2_with fail
  refine (aq_own HA1.out.Q nn kk).mono ?_
  rintro e w5 ⟨rfl, hB, hu⟩
  have hu := hu.mono (T := fun i => i = b ∨ i = r ∨ i = c ∨ i = q) fun _ _ h => h.elim (fun h => .inl h) fun h => .inr (.inl h)
  have HU5 := Lib.hid hu
  have HB := Lib.hid hB
  have f1' : w5.cell? ⟨dd, 1, none⟩ = some (.int .i64 nn) := (X.out _ hu).cell 1 rfl
  have f2' : w5.cell? ⟨dd, 2, none⟩ = some (.int .i64 kk) := (X.out _ hu).cell 2 rfl
  clear hB hu f0 f1 f2 f3
  go_wp2_with fail
  refine (aq_own HB.out.swap nn kk).mono ?_
  rintro e w6 ⟨rfl, hC, hu⟩
  have hu := Upd.call hu HU5.out fun _ _ h => h.elim (fun h => .inr (.inr (.inl h))) fun h => .inr (.inr (.inr h))
  have f1'' : w6.cell? ⟨dd, 1, none⟩ = some (.int .i64 nn) := (X.out _ hu).cell 1 rfl
  have f2'' : w6.cell? ⟨dd, 2, none⟩ = some (.int .i64 kk) := (X.out _ hu).cell 2 rfl
  have HC6 := Lib.hid hC.swap
  rw [← HRO.out.2]
  clear hC hu HB f1' f2' HU5
  obtain ⟨R, hR⟩ : ∃ R, R = ownR p.1 nn kk := ⟨_, rfl⟩
  rw [← hR]
  rcases ownR_or p.1 nn kk with ⟨hrr, hr1, hr2⟩ | hrr
  · rw [hrr] at hR
    subst hR
    exfalso
    omega
  · have hR6 := hR.trans hrr
    clear hR
    subst hR6
    go_wp2_with fail
    try simp only [Exit.inBlock, Exit.then]
    apply HQQ.out
    have h9 := HC6.out
    rw [show ows p.1 = ows (ownW p.1 nn kk) by rw [ownW_ows, if_neg (by rw [hrr]; decide)]] at h9
    exact ⟨_, _, h9, HRO.out.1, by rw [ownW_length]; exact HA1.out.L⟩
end Go.Proofs.Ytkhhmkcpbefadaa
