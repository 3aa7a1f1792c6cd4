import Derived.Test.YgdaogDoorSvY
namespace Go.Proofs.YgdaogDoor
open Go.RowKit
theorem neq_nil45 (w : World) : Sem.run Yaod.prog (binOp .neq 45 (.slice none 0 0) (.slice none 0 0)) w = .ok (.bool false) w := by kernel_rfl
theorem Reads.drewN {w : World} {v : Value} {cs : List ByteArray} (h : Reads w v cs) (q : Nat) : Reads (w.drewN q) v cs := h

set_option maxRecDepth 1000000 in
set_option maxHeartbeats 16000000 in
theorem loop4 (w0 w : World) (B k wi LB hb : Nat) (base : Int) (bk : Value) (cs : List ByteArray) (nd : Nat → Nd)
    (c0 c1 c3 c5 c6 c7 c8 c9 c10 c16 c22 c23 c24 c25 c26 c27 c28 c29 c30 c31 c32 c33 c34 c35 c36 c37 c38 c39 c40 c41 c42 c43 c44 c45 c46 c47 c48 c49 c50 c51 c52 c53 c54 c55 c56 c57 c58 c59 c60 c61 c62 c63 c64 c65 c66 c67 c68 c69 c70 c71 c72 c73 c74 c75 c76 c77 c78 c79 c80 c81 c82 c83 c84 c85 c86 c87 c88 c89 c90 c91 c92 c93 c94 c95 c96 c97 c98 c99 c100 c101 c102 c103 c104 c105 c106 c107 c108 c109 c110 c111 c112 c113 c114 c115 c116 c117 c118 c119 c120 c121 c122 c123 c124 c125 c126 c127 c128 c129 c130 c131 c132 c133 c134 c135 c136 c137 c138 c139 c140 c141 c142 c143 c144 c145 c146 c147 c148 c149 c150 c151 c152 c153 c154 c155 c156 c157 c158 c159 c160 c161 c162 c163 c164 c165 c166 c167 c168 c169 c170 c171 c172 c173 c174 c175 c176 c177 c178 c179 c180 c181 c182 c183 c184 c185 c186 c187 c188 c189 c190 c191 c192 c193 c194 c195 c196 c197 c198 c199 c200 c201 c202 c203 c204 c205 c206 c207 c208 c209 c210 c211 c212 c213 c214 c215 c216 c217 c218 c219 c220 c221 c222 c223 c224 c225 c226 c227 c228 c229 c230 c231 c232 c233 c234 c235 c236 c237 c238 c239 c240 c241 c242 c243 c244 c245 c246 c247 c248 c249 c250 c254 c255 c256 c257 c258 c259 c260 c261 c262 c263 c264 c265 c266 c267 c268 c269 c270 c271 c272 c273 c274 c275 c276 c277 c278 c279 c280 c281 c282 c283 c284 c285 c286 c287 c288 c289 c290 c291 c292 c293 c294 c295 c296 c297 c298 c299 c300 c301 c302 c303 c304 c305 c306 c307 c308 c309 c310 c311 c312 c313 c314 c315 c316 c317 c318 c319 c320 c321 c322 c323 c324 c325 c326 c327 c328 c329 c330 c331 c332 c333 c334 c335 c336 c337 c338 c339 c340 c341 c342 c343 c344 c345 c346 c347 c348 c349 c350 c351 c352 c353 c354 c355 c356 c357 c358 c359 c360 c361 c362 c363 c364 c365 c366 c367 c368 c369 c370 c371 c372 c373 c374 c375 c376 c377 c378 c379 c380 c381 c382 c383 c384 c385 c386 c387 c388 c389 c390 c391 c392 c393 c394 c395 c396 c397 c398 c399 c400 c401 c402 c403 c404 c405 c406 c407 c408 c409 c410 c411 c412 c413 c414 c415 c416 c417 : Value)
    (hBt : Beat w0 w B k wi LB hb base bk cs nd 0) (hwi : wi < k) (hk5 : k ≤ 5) (hb0 : 0 ≤ base) (hb1 : base ≤ 4611686018427387903) (hlen : cs.length ≤ 8796093022000)
    (Q0 : Exit → Act → World → Prop)
    (hexit : ∀ (u10 u35 u36 u37 u38 u253 u254 u255 u256 u257 u258 u259 u260 u261 u262 u263 u264 u265 u266 u267 u268 u269 u270 u271 u272 u273 u274 u275 u276 u277 u278 u279 u280 u281 u282 u283 u284 u285 u286 u287 u288 u289 u290 u291 u292 u293 u294 u295 u296 u297 u298 u299 u300 u301 u302 u303 u304 u305 u306 u307 u308 u309 u310 : Value) (w' : World) (nd' : Nat → Nd), Beat w0 w' B k wi LB hb base bk cs nd' k →
      Q0 (.exit 6) ⟨(c0 :: c1 :: .int .u64 base :: c3 :: .pointer (some ⟨hb, 0, none⟩) :: c5 :: c6 :: c7 :: c8 :: c9 :: u10 :: .pointer (some ⟨B, 0, none⟩) :: .int .i64 k :: .pointer (some ⟨B + 1, 0, none⟩) :: .pointer (some ⟨B + 3, 0, none⟩) :: .pointer (some ⟨B + 5, 0, none⟩) :: c16 :: .pointer (some ⟨B + 6 + k, 0, none⟩) :: bk :: .pointer (some ⟨LB, 0, none⟩) :: .int .u64 (ltOf cs) :: .func (.func 56) #[] #[.pointer (some ⟨LB, 0, none⟩), .pointer (some ⟨B + 3, 0, none⟩), .pointer (some ⟨B + 1, 0, none⟩), .pointer (some ⟨B + 5, 0, none⟩), .pointer (some ⟨B, 0, none⟩), .pointer (some ⟨B + 6 + k, 0, none⟩)] :: c22 :: c23 :: c24 :: c25 :: c26 :: c27 :: c28 :: c29 :: c30 :: c31 :: c32 :: c33 :: c34 :: u35 :: u36 :: u37 :: u38 :: c39 :: c40 :: c41 :: c42 :: c43 :: c44 :: c45 :: c46 :: c47 :: c48 :: c49 :: c50 :: c51 :: c52 :: c53 :: c54 :: c55 :: c56 :: c57 :: c58 :: c59 :: c60 :: c61 :: c62 :: c63 :: c64 :: c65 :: c66 :: c67 :: c68 :: c69 :: c70 :: c71 :: c72 :: c73 :: c74 :: c75 :: c76 :: c77 :: c78 :: c79 :: c80 :: c81 :: c82 :: c83 :: c84 :: c85 :: c86 :: c87 :: c88 :: c89 :: c90 :: c91 :: c92 :: c93 :: c94 :: c95 :: c96 :: c97 :: c98 :: c99 :: c100 :: c101 :: c102 :: c103 :: c104 :: c105 :: c106 :: c107 :: c108 :: c109 :: c110 :: c111 :: c112 :: c113 :: c114 :: c115 :: c116 :: c117 :: c118 :: c119 :: c120 :: c121 :: c122 :: c123 :: c124 :: c125 :: c126 :: c127 :: c128 :: c129 :: c130 :: c131 :: c132 :: c133 :: c134 :: c135 :: c136 :: c137 :: c138 :: c139 :: c140 :: c141 :: c142 :: c143 :: c144 :: c145 :: c146 :: c147 :: c148 :: c149 :: c150 :: c151 :: c152 :: c153 :: c154 :: c155 :: c156 :: c157 :: c158 :: c159 :: c160 :: c161 :: c162 :: c163 :: c164 :: c165 :: c166 :: c167 :: c168 :: c169 :: c170 :: c171 :: c172 :: c173 :: c174 :: c175 :: c176 :: c177 :: c178 :: c179 :: c180 :: c181 :: c182 :: c183 :: c184 :: c185 :: c186 :: c187 :: c188 :: c189 :: c190 :: c191 :: c192 :: c193 :: c194 :: c195 :: c196 :: c197 :: c198 :: c199 :: c200 :: c201 :: c202 :: c203 :: c204 :: c205 :: c206 :: c207 :: c208 :: c209 :: c210 :: c211 :: c212 :: c213 :: c214 :: c215 :: c216 :: c217 :: c218 :: c219 :: c220 :: c221 :: c222 :: c223 :: c224 :: c225 :: c226 :: c227 :: c228 :: c229 :: c230 :: c231 :: c232 :: c233 :: c234 :: c235 :: c236 :: c237 :: c238 :: c239 :: c240 :: c241 :: c242 :: c243 :: c244 :: c245 :: c246 :: c247 :: c248 :: c249 :: c250 :: .slice (some ⟨B + 2, 0, none⟩) k k :: .int .i64 k :: u253 :: u254 :: u255 :: u256 :: u257 :: u258 :: u259 :: u260 :: u261 :: u262 :: u263 :: u264 :: u265 :: u266 :: u267 :: u268 :: u269 :: u270 :: u271 :: u272 :: u273 :: u274 :: u275 :: u276 :: u277 :: u278 :: u279 :: u280 :: u281 :: u282 :: u283 :: u284 :: u285 :: u286 :: u287 :: u288 :: u289 :: u290 :: u291 :: u292 :: u293 :: u294 :: u295 :: u296 :: u297 :: u298 :: u299 :: u300 :: u301 :: u302 :: u303 :: u304 :: u305 :: u306 :: u307 :: u308 :: u309 :: u310 :: c311 :: c312 :: c313 :: c314 :: c315 :: c316 :: c317 :: c318 :: c319 :: c320 :: c321 :: c322 :: c323 :: c324 :: c325 :: c326 :: c327 :: c328 :: c329 :: c330 :: c331 :: c332 :: c333 :: c334 :: c335 :: c336 :: c337 :: c338 :: c339 :: c340 :: c341 :: c342 :: c343 :: c344 :: c345 :: c346 :: c347 :: c348 :: c349 :: c350 :: c351 :: c352 :: c353 :: c354 :: c355 :: c356 :: c357 :: c358 :: c359 :: c360 :: c361 :: c362 :: c363 :: c364 :: c365 :: c366 :: c367 :: c368 :: c369 :: c370 :: c371 :: c372 :: c373 :: c374 :: c375 :: c376 :: c377 :: c378 :: c379 :: c380 :: c381 :: c382 :: c383 :: c384 :: c385 :: c386 :: c387 :: c388 :: c389 :: c390 :: c391 :: c392 :: c393 :: c394 :: c395 :: c396 :: c397 :: c398 :: c399 :: c400 :: c401 :: c402 :: c403 :: c404 :: c405 :: c406 :: c407 :: c408 :: c409 :: c410 :: c411 :: c412 :: c413 :: c414 :: c415 :: c416 :: c417 :: []).toArray, []⟩ w') :
    Code.wp Yaod.prog (Code.loop (loopOf Yaod.f12.body 2)) Q0 ⟨(c0 :: c1 :: .int .u64 base :: c3 :: .pointer (some ⟨hb, 0, none⟩) :: c5 :: c6 :: c7 :: c8 :: c9 :: c10 :: .pointer (some ⟨B, 0, none⟩) :: .int .i64 k :: .pointer (some ⟨B + 1, 0, none⟩) :: .pointer (some ⟨B + 3, 0, none⟩) :: .pointer (some ⟨B + 5, 0, none⟩) :: c16 :: .pointer (some ⟨B + 6 + k, 0, none⟩) :: bk :: .pointer (some ⟨LB, 0, none⟩) :: .int .u64 (ltOf cs) :: .func (.func 56) #[] #[.pointer (some ⟨LB, 0, none⟩), .pointer (some ⟨B + 3, 0, none⟩), .pointer (some ⟨B + 1, 0, none⟩), .pointer (some ⟨B + 5, 0, none⟩), .pointer (some ⟨B, 0, none⟩), .pointer (some ⟨B + 6 + k, 0, none⟩)] :: c22 :: c23 :: c24 :: c25 :: c26 :: c27 :: c28 :: c29 :: c30 :: c31 :: c32 :: c33 :: c34 :: c35 :: c36 :: c37 :: c38 :: c39 :: c40 :: c41 :: c42 :: c43 :: c44 :: c45 :: c46 :: c47 :: c48 :: c49 :: c50 :: c51 :: c52 :: c53 :: c54 :: c55 :: c56 :: c57 :: c58 :: c59 :: c60 :: c61 :: c62 :: c63 :: c64 :: c65 :: c66 :: c67 :: c68 :: c69 :: c70 :: c71 :: c72 :: c73 :: c74 :: c75 :: c76 :: c77 :: c78 :: c79 :: c80 :: c81 :: c82 :: c83 :: c84 :: c85 :: c86 :: c87 :: c88 :: c89 :: c90 :: c91 :: c92 :: c93 :: c94 :: c95 :: c96 :: c97 :: c98 :: c99 :: c100 :: c101 :: c102 :: c103 :: c104 :: c105 :: c106 :: c107 :: c108 :: c109 :: c110 :: c111 :: c112 :: c113 :: c114 :: c115 :: c116 :: c117 :: c118 :: c119 :: c120 :: c121 :: c122 :: c123 :: c124 :: c125 :: c126 :: c127 :: c128 :: c129 :: c130 :: c131 :: c132 :: c133 :: c134 :: c135 :: c136 :: c137 :: c138 :: c139 :: c140 :: c141 :: c142 :: c143 :: c144 :: c145 :: c146 :: c147 :: c148 :: c149 :: c150 :: c151 :: c152 :: c153 :: c154 :: c155 :: c156 :: c157 :: c158 :: c159 :: c160 :: c161 :: c162 :: c163 :: c164 :: c165 :: c166 :: c167 :: c168 :: c169 :: c170 :: c171 :: c172 :: c173 :: c174 :: c175 :: c176 :: c177 :: c178 :: c179 :: c180 :: c181 :: c182 :: c183 :: c184 :: c185 :: c186 :: c187 :: c188 :: c189 :: c190 :: c191 :: c192 :: c193 :: c194 :: c195 :: c196 :: c197 :: c198 :: c199 :: c200 :: c201 :: c202 :: c203 :: c204 :: c205 :: c206 :: c207 :: c208 :: c209 :: c210 :: c211 :: c212 :: c213 :: c214 :: c215 :: c216 :: c217 :: c218 :: c219 :: c220 :: c221 :: c222 :: c223 :: c224 :: c225 :: c226 :: c227 :: c228 :: c229 :: c230 :: c231 :: c232 :: c233 :: c234 :: c235 :: c236 :: c237 :: c238 :: c239 :: c240 :: c241 :: c242 :: c243 :: c244 :: c245 :: c246 :: c247 :: c248 :: c249 :: c250 :: .slice (some ⟨B + 2, 0, none⟩) k k :: .int .i64 k :: .int .i64 0 :: c254 :: c255 :: c256 :: c257 :: c258 :: c259 :: c260 :: c261 :: c262 :: c263 :: c264 :: c265 :: c266 :: c267 :: c268 :: c269 :: c270 :: c271 :: c272 :: c273 :: c274 :: c275 :: c276 :: c277 :: c278 :: c279 :: c280 :: c281 :: c282 :: c283 :: c284 :: c285 :: c286 :: c287 :: c288 :: c289 :: c290 :: c291 :: c292 :: c293 :: c294 :: c295 :: c296 :: c297 :: c298 :: c299 :: c300 :: c301 :: c302 :: c303 :: c304 :: c305 :: c306 :: c307 :: c308 :: c309 :: c310 :: c311 :: c312 :: c313 :: c314 :: c315 :: c316 :: c317 :: c318 :: c319 :: c320 :: c321 :: c322 :: c323 :: c324 :: c325 :: c326 :: c327 :: c328 :: c329 :: c330 :: c331 :: c332 :: c333 :: c334 :: c335 :: c336 :: c337 :: c338 :: c339 :: c340 :: c341 :: c342 :: c343 :: c344 :: c345 :: c346 :: c347 :: c348 :: c349 :: c350 :: c351 :: c352 :: c353 :: c354 :: c355 :: c356 :: c357 :: c358 :: c359 :: c360 :: c361 :: c362 :: c363 :: c364 :: c365 :: c366 :: c367 :: c368 :: c369 :: c370 :: c371 :: c372 :: c373 :: c374 :: c375 :: c376 :: c377 :: c378 :: c379 :: c380 :: c381 :: c382 :: c383 :: c384 :: c385 :: c386 :: c387 :: c388 :: c389 :: c390 :: c391 :: c392 :: c393 :: c394 :: c395 :: c396 :: c397 :: c398 :: c399 :: c400 :: c401 :: c402 :: c403 :: c404 :: c405 :: c406 :: c407 :: c408 :: c409 :: c410 :: c411 :: c412 :: c413 :: c414 :: c415 :: c416 :: c417 :: []).toArray, []⟩ w := by
  conv => arg 2; arg 1; whnf
  have HX := hide hexit
  have HM := hide hBt
  clear hexit hBt
  go_loopw [253] (fun i wr => ∃ (j : Nat) (nd : Nat → Nd), j ≤ k ∧ i = .int .i64 j ∧ Beat w0 wr B k wi LB hb base bk cs nd j) (fun i _ => k - (intOf i).toNat)
  case atStart => exact ⟨0, nd, Nat.zero_le _, rfl, HM.out⟩
  case round =>
    obtain ⟨j, nd, hj, rfl, hM⟩ := hrel
    clear HM
    by_cases hjk : j < k
    · have hrw := hM.st.row_at j hjk
      have hwr := hM.st.w_at
      have hid := hM.st.id_at wi (by omega)
      have hNj := hM.nodes j hjk
      have hok := hM.ok j hjk
      rw [if_neg (show ¬ j < j by omega)] at hok
      have hLj := hM.logs j hjk
      obtain ⟨L, hL⟩ : ∃ L, L = base + (cs.length : Int) := ⟨_, rfl⟩
      have xL : wr.cell? ⟨LB, 0, none⟩ = some (.int .u64 L) := by rw [hL]; exact cell_of_heap hM.lb 0
      have hsz := lt_of_heap hM.st.lv
      have hsl := lt_of_heap hM.lb
      have hlg := hM.lbg
      have hHX := HX
      clear HX
      have hHX2 := hide hHX
      clear hHX hHX2
      have HM := hide hM
      have hw5 : (wi : Int) < 5 := by omega
      have hj5 : (j : Int) < 5 := by omega
      have s0 : B < wr.heap.size := by omega
      have s1 : B + 1 < wr.heap.size := by omega
      by_cases hjw : j = wi
      · have e1 : ((j : Int) != (wi : Int)) = false := by rw [bne_eq_false_iff_eq]; omega
        have hcj := hM.com j hjk (Or.inr hjw)
        rw [← hL] at hcj
        have hsn := hok.snap
        have hap := hok.applied
        have HL := hide hL
        have HJW := hide hjw
        have HNJ := hide hNj
        clear hM hL hok hid hjw
        have w1N : NodeAt wr (B + 6 + j) { nd j with commit := L } := by rw [← hcj]; exact hNj
        have w1L : LogIs wr (nd j).recs cs := hLj
        have w1C : Chg [B + 6 + j] wr wr := Chg.refl _ _
        have w1X := xL
        have tLB : LB < wr.heap.size := hsl
        clear hNj hLj
        have okS := hsn
        have k6 := w1N.c6
        have k10 := w1N.c10
        dsimp only at k6 k10
        have w1B : LogIs wr bk cs := HM.out.book.chg w1C (fun g cur _ hx hm => by simp at hm; subst hm; exact HNJ.out.noRow cur hx)
        have cE : ∀ q, Calls Yaod.prog 20 #[(nd j).recs, bk] (wr.drewN q) fun e w' => e = .returned (.bool true) ∧ ∃ n, w' = (wr.drewN q).drewN n := fun q =>
          equal_reads _ _ cs (wr.drewN q) (w1L.drewN q).reads (w1B.drewN q).reads (by omega)
        have cT : ∀ q, Calls Yaod.prog 19 #[.pointer (some ⟨B + 6 + j, 0, none⟩)] (wr.drewN q) fun e w' => ∃ v, e = .returned v ∧ Reads w' v cs ∧ Chg [B + 6 + j] (wr.drewN q) w' ∧ NodeAt w' (B + 6 + j) { nd j with commit := L, applied := L } := fun q => by
          have h := take_any (B + 6 + j) { nd j with commit := L } cs (wr.drewN q) (w1N.drewN q) (w1L.drewN q) (by dsimp only; rw [hsn]; exact hb0) (by dsimp only; rw [hsn]; exact hb1) (by omega) (by dsimp only; rw [hsn]; exact HL.out) (by dsimp only; rw [hsn]; exact hap)
          dsimp only at h
          have e2 : (nd j).snap + (cs.length : Int) = L := by rw [hsn]; exact HL.out.symm
          rw [e2] at h
          exact h
        have Hwr := hide w1N
        have HW1L := hide w1L
        have HW1B := hide w1B
        have HW1C := hide w1C
        have HSN := hide hsn
        have HAP := hide hap
        clear w1N w1L w1B w1C hsn hap okS
        go_wp2
        go_quiet (first | (go_at_call 20; refine Calls.quiet_of (cE _)))
        clear cE
        go_wp2_with (first | (go_at_call 19; refine (cT _).mono ?_; rintro e w2 ⟨v, rfl, hR2, hC2, hN2⟩))
        have hC2' : Chg [B + 6 + j] wr w2 := hC2.undrewN
        have w2L : LogIs w2 (nd j).recs cs := HW1L.out.chg hC2' (fun g cur _ hx hm => by simp at hm; subst hm; exact Hwr.out.noRow cur hx)
        have w2B : LogIs w2 bk cs := HW1B.out.chg hC2' (fun g cur _ hx hm => by simp at hm; subst hm; exact Hwr.out.noRow cur hx)
        have cE : ∀ q, Calls Yaod.prog 20 #[v, bk] (w2.drewN q) fun e w' => e = .returned (.bool true) ∧ ∃ n, w' = (w2.drewN q).drewN n := fun q =>
          equal_reads _ _ cs (w2.drewN q) (hR2.drewN q) (w2B.drewN q).reads (by omega)
        have cT2 : ∀ q, Calls Yaod.prog 19 #[.pointer (some ⟨B + 6 + j, 0, none⟩)] (w2.drewN q) fun e w' => e = .returned (.slice none 0 0) ∧ ∃ n, w' = (w2.drewN q).drewN n := fun q =>
          take_none (B + 6 + j) { nd j with commit := L, applied := L } cs (w2.drewN q) (hN2.drewN q) (w2L.drewN q) (by dsimp only; rw [HSN.out]; exact hb0) (by dsimp only; rw [HSN.out]; exact hb1) (by omega) (by dsimp only; rw [HSN.out]; exact HL.out) (by dsimp only; rw [HSN.out]; exact HL.out)
        have m7 := hN2.c7
        dsimp only at m7
        have mL : w2.cell? ⟨LB, 0, none⟩ = some (.int .u64 L) := by rw [hC2'.cell (by exact tLB) (by simp; omega)]; exact w1X
        have HN2 := hide hN2
        have HC2 := hide hC2'
        have hnn := neq_nil45
        clear w2L w2B hR2 hC2 hC2' hN2 cT w1X k6 k10
        go_wp2
        go_quiet (first | (go_at_call 20; refine Calls.quiet_of (cE _)) | (go_at_call 19; refine Calls.quiet_of (cT2 _)))
        have FIN : Beat w0 (w2.drewN nq) B k wi LB hb base bk cs _ (j + 1) := HM.out.next hjk ((HW1C.out.trans HC2.out).drewN _) (by rw [← HL.out]; exact HN2.out.drewN _)
        have HFIN := hide FIN
        clear FIN cE cT2 m7 mL
        go_wp2
        go_roundw
        case rel => exact ⟨j + 1, _, by omega, by go_num, HFIN.out⟩
        case measure => simp [intOf]; omega
      · have e1 : ((j : Int) != (wi : Int)) = true := by rw [bne_iff_ne]; omega
        rw [if_neg hjw] at hok
        have hcj := hM.lec j hjk
        rw [← hL] at hcj
        have hsn := hok.snap
        have hap := hok.applied
        have htm := hok.term
        have hro := hok.role
        have cS : ∀ q, Calls Yaod.prog 13 #[.pointer (some ⟨B + 6 + j, 0, none⟩), .iface 89 (.agg #[.int .u64 1, .string (idb wi), .int .u64 L, .int .u64 (ltOf cs), .slice none 0 0, .int .u64 L])] (wr.drewN q) fun e w' =>
            e = .returned (.iface 71 (.agg #[.int .u64 1, .bool true, .int .u64 0, .int .u64 0])) ∧ Chg [B + 6 + j] (wr.drewN q) w' ∧ NodeAt w' (B + 6 + j) { nd j with commit := L } := fun q => by
          have h := step_append_none (B + 6 + j) (nd j) cs (idb wi) L L (wr.drewN q) (hNj.drewN q) (hLj.drewN q) (by rw [hsn]; exact hb0) (by rw [hsn]; exact hb1) (by omega) (hide (commitTo_want hcj (by rw [hsn, hL]; exact Int.le_refl _)))
          have e2 : (nd j).snap + (cs.length : Int) = L := by rw [hsn]; exact hL.symm
          have e3 : ({ nd j with role := 0, commit := L } : Nd) = { nd j with commit := L } := by rw [← hro]
          rw [e2, htm] at h
          refine h.mono ?_
          rintro e w' ⟨h1, h2, h3⟩
          refine ⟨h1, h2, ?_⟩
          rw [← e3]
          rw [← htm] at h3
          exact h3
        have HL := hide hL
        have HJW := hide hjw
        have HNJ := hide hNj
        have HLJ := hide hLj
        have htm' := hide htm
        have hro' := hide hro
        clear hM hL hok hjw hNj hLj htm hro hcj
        go_wp2
        have HSN0 := hide hsn
        have HAP0 := hide hap
        clear hsn hap
        go_region_held3 (fun w' => w'.cell? ⟨B + 1, 0, none⟩ = some (.int .i64 wi) ∧ w'.cell? ⟨B, wi, none⟩ = some (.string (idb wi)) ∧ w'.cell? ⟨LB, 0, none⟩ = some (.int .u64 L)) (go_keep)
          (first | (go_at_call 13; refine (cS _).mono ?_; rintro e w1 ⟨rfl, hC1, hN1⟩; have p1 := hC1.cell (p := ⟨B + 1, 0, none⟩) (by simp; omega) (by simp; omega); have p2 := hC1.cell (p := ⟨B, wi, none⟩) (by simp; omega) (by simp; omega); have p3 := hC1.cell (p := ⟨LB, 0, none⟩) (by simp; omega) (by simp; omega)))
        have hna := neq_arep
        have w1N : NodeAt w1 (B + 6 + j) { nd j with commit := L } := hN1
        have w1C : Chg [B + 6 + j] wr w1 := hC1.undrewN
        have w1L : LogIs w1 (nd j).recs cs := HLJ.out.chg w1C (fun g cur _ hx hm => by simp at hm; subst hm; exact HNJ.out.noRow cur hx)
        have w1X : w1.cell? ⟨LB, 0, none⟩ = some (.int .u64 L) := by rw [w1C.cell (by exact hsl) (by simp; omega)]; exact xL
        have tLB : LB < w1.heap.size := by have := w1C.size; omega
        have hsn := HSN0.out
        have hap := HAP0.out
        clear cS hC1 hN1 p1 p2 p3 hrw hwr hid xL
        have okS := hsn
        have k6 := w1N.c6
        have k10 := w1N.c10
        dsimp only at k6 k10
        have w1B : LogIs w1 bk cs := HM.out.book.chg w1C (fun g cur _ hx hm => by simp at hm; subst hm; exact HNJ.out.noRow cur hx)
        have cE : ∀ q, Calls Yaod.prog 20 #[(nd j).recs, bk] (w1.drewN q) fun e w' => e = .returned (.bool true) ∧ ∃ n, w' = (w1.drewN q).drewN n := fun q =>
          equal_reads _ _ cs (w1.drewN q) (w1L.drewN q).reads (w1B.drewN q).reads (by omega)
        have cT : ∀ q, Calls Yaod.prog 19 #[.pointer (some ⟨B + 6 + j, 0, none⟩)] (w1.drewN q) fun e w' => ∃ v, e = .returned v ∧ Reads w' v cs ∧ Chg [B + 6 + j] (w1.drewN q) w' ∧ NodeAt w' (B + 6 + j) { nd j with commit := L, applied := L } := fun q => by
          have h := take_any (B + 6 + j) { nd j with commit := L } cs (w1.drewN q) (w1N.drewN q) (w1L.drewN q) (by dsimp only; rw [hsn]; exact hb0) (by dsimp only; rw [hsn]; exact hb1) (by omega) (by dsimp only; rw [hsn]; exact HL.out) (by dsimp only; rw [hsn]; exact hap)
          dsimp only at h
          have e2 : (nd j).snap + (cs.length : Int) = L := by rw [hsn]; exact HL.out.symm
          rw [e2] at h
          exact h
        have Hwr := hide w1N
        have HW1L := hide w1L
        have HW1B := hide w1B
        have HW1C := hide w1C
        have HSN := hide hsn
        have HAP := hide hap
        clear w1N w1L w1B w1C hsn hap okS
        go_wp2
        go_quiet (first | (go_at_call 20; refine Calls.quiet_of (cE _)))
        clear cE
        go_wp2_with (first | (go_at_call 19; refine (cT _).mono ?_; rintro e w2 ⟨v, rfl, hR2, hC2, hN2⟩))
        have hC2' : Chg [B + 6 + j] w1 w2 := hC2.undrewN
        have w2L : LogIs w2 (nd j).recs cs := HW1L.out.chg hC2' (fun g cur _ hx hm => by simp at hm; subst hm; exact Hwr.out.noRow cur hx)
        have w2B : LogIs w2 bk cs := HW1B.out.chg hC2' (fun g cur _ hx hm => by simp at hm; subst hm; exact Hwr.out.noRow cur hx)
        have cE : ∀ q, Calls Yaod.prog 20 #[v, bk] (w2.drewN q) fun e w' => e = .returned (.bool true) ∧ ∃ n, w' = (w2.drewN q).drewN n := fun q =>
          equal_reads _ _ cs (w2.drewN q) (hR2.drewN q) (w2B.drewN q).reads (by omega)
        have cT2 : ∀ q, Calls Yaod.prog 19 #[.pointer (some ⟨B + 6 + j, 0, none⟩)] (w2.drewN q) fun e w' => e = .returned (.slice none 0 0) ∧ ∃ n, w' = (w2.drewN q).drewN n := fun q =>
          take_none (B + 6 + j) { nd j with commit := L, applied := L } cs (w2.drewN q) (hN2.drewN q) (w2L.drewN q) (by dsimp only; rw [HSN.out]; exact hb0) (by dsimp only; rw [HSN.out]; exact hb1) (by omega) (by dsimp only; rw [HSN.out]; exact HL.out) (by dsimp only; rw [HSN.out]; exact HL.out)
        have m7 := hN2.c7
        dsimp only at m7
        have mL : w2.cell? ⟨LB, 0, none⟩ = some (.int .u64 L) := by rw [hC2'.cell (by exact tLB) (by simp; omega)]; exact w1X
        have HN2 := hide hN2
        have HC2 := hide hC2'
        have hnn := neq_nil45
        clear w2L w2B hR2 hC2 hC2' hN2 cT w1X k6 k10
        go_wp2
        go_quiet (first | (go_at_call 20; refine Calls.quiet_of (cE _)) | (go_at_call 19; refine Calls.quiet_of (cT2 _)))
        have FIN : Beat w0 (w2.drewN nq) B k wi LB hb base bk cs _ (j + 1) := HM.out.next hjk ((HW1C.out.trans HC2.out).drewN _) (by rw [← HL.out]; exact HN2.out.drewN _)
        have HFIN := hide FIN
        clear FIN cE cT2 m7 mL
        go_wp2
        go_roundw
        case rel => exact ⟨j + 1, _, by omega, by go_num, HFIN.out⟩
        case measure => simp [intOf]; omega
    · --<<E
      have hjk' : j = k := by omega
      subst hjk'
      have HM2 := hide hM
      clear hM
      go_wp2
      exact HX.out _ _ _ _ _ _ _ _ _ _ _ _ _ _ _ _ _ _ _ _ _ _ _ _ _ _ _ _ _ _ _ _ _ _ _ _ _ _ _ _ _ _ _ _ _ _ _ _ _ _ _ _ _ _ _ _ _ _ _ _ _ _ _ _ _ HM2.out
      -->>E
end Go.Proofs.YgdaogDoor
