import Derived.Test.YgdaogDoorSvQ
import Derived.Test.YgdaogDoorSvR
namespace Go.Proofs.YgdaogDoor
open Go.RowKit
theorem votesTo_zero (wi : Nat) : votesTo wi 0 = 1 := rfl
theorem take_more : ∀ (ss : List ByteArray) (j : Nat) (h : j < ss.length), ss.take (j + 1) = ss.take j ++ [ss[j]]
  | a :: r, 0, _ => rfl
  | a :: r, j + 1, h => by
    have := take_more r j (by simpa using h)
    simp only [List.take_succ_cons, this, List.cons_append, List.getElem_cons_succ]
theorem Served.hit {w0 w w' : World} {B k wi LB hb : Nat} {base : Int} {bk : Value} {cs : List ByteArray} {nd : Nat → Nd} {f : Nat → Int × Int} (h : Served w0 w B k wi LB hb base bk cs nd f) (hC : Chg [hb] w w') (hH : HitAt w' hb) :
    Served w0 w' B k wi LB hb base bk cs nd f := by
  have hb1 := h.com.hitb
  have hl := h.com.lbg
  have nr : ∀ g cur, w.heap[g]? = some (.cells cur 85 (0, 0)) → g ∉ [hb] := fun g cur hx hm => by simp at hm; subst hm; exact h.com.hit.noRow cur hx
  exact ⟨⟨h.com.st.chg hC (fun x hx => by simp at hx; omega), h.com.pm.chg hC (by simp; omega), fun i hi => (h.com.nodes i hi).chg hC (by simp; omega), h.com.ok, hC.at h.com.lb (by simp; omega), hl,
    h.com.book.chg hC (fun g cur _ hx => nr g cur hx), h.com.apart, hH, hb1, h.com.wB, h.com.chg.trans hC⟩, fun i hi => (h.logs i hi).chg hC (fun g cur _ hx => nr g cur hx), h.comm, h.lcom, h.fm, h.bkf⟩
theorem inb_world {n : Nat} {Q : Exit → Act → World → Prop} {e : Exit} {a : Act} {w : World} (h : ∀ W, W = w → Exit.inBlock n Q e a W) : Exit.inBlock n Q e a w := h w rfl
set_option maxRecDepth 1000000 in
theorem loop3g (w0 w : World) (B k wi LB hb RB : Nat) (base pv ak wt : Int) (bk : Value) (cs : List ByteArray) (c : ByteArray) (nd : Nat → Nd) (f : Nat → Int × Int)
    (c0 c1 c3 c5 c6 c7 c8 c9 c10 c16 c18 c20 c22 c23 c25 c26 c31 c32 c33 c34 c35 c36 c37 c38 c39 c40 c41 c42 c43 c44 c45 c46 c47 c48 c49 c50 c51 c52 c53 c54 c55 c56 c57 c58 c59 c60 c61 c62 c63 c64 c65 c66 c67 c68 c69 c70 c71 c72 c73 c74 c75 c76 c77 c78 c79 c80 c81 c82 c83 c84 c85 c86 c87 c88 c89 c90 c91 c92 c93 c94 c95 c96 c97 c98 c99 c100 c101 c102 c103 c104 c105 c106 c107 c108 c109 c110 c111 c112 c113 c114 c115 c116 c117 c118 c119 c120 c121 c122 c123 c124 c125 c126 c127 c128 c129 c130 c131 c132 c133 c134 c135 c136 c137 c138 c139 c140 c141 c142 c143 c144 c145 c146 c150 c151 c152 c153 c154 c155 c156 c157 c158 c159 c160 c161 c162 c163 c164 c165 c166 c167 c168 c169 c170 c171 c172 c173 c174 c175 c176 c177 c178 c179 c180 c181 c182 c183 c184 c185 c186 c187 c188 c189 c190 c191 c192 c193 c194 c195 c196 c197 c198 c199 c200 c201 c202 c203 c204 c205 c206 c207 c208 c209 c210 c211 c212 c213 c214 c215 c216 c217 c218 c219 c220 c221 c222 c223 c224 c225 c226 c227 c228 c229 c230 c231 c232 c233 c234 c235 c236 c237 c238 c239 c240 c241 c242 c243 c244 c245 c246 c247 c248 c249 c250 c251 c252 c253 c254 c255 c256 c257 c258 c259 c260 c261 c262 c263 c264 c265 c266 c267 c268 c269 c270 c271 c272 c273 c274 c275 c276 c277 c278 c279 c280 c281 c282 c283 c284 c285 c286 c287 c288 c289 c290 c291 c292 c293 c294 c295 c296 c297 c298 c299 c300 c301 c302 c303 c304 c305 c306 c307 c308 c309 c310 c311 c312 c313 c314 c315 c316 c317 c318 c319 c320 c321 c322 c323 c324 c325 c326 c327 c328 c329 c330 c331 c332 c333 c334 c335 c336 c337 c338 c339 c340 c341 c342 c343 c344 c345 c346 c347 c348 c349 c350 c351 c352 c353 c354 c355 c356 c357 c358 c359 c360 c361 c362 c363 c364 c365 c366 c367 c368 c369 c370 c371 c372 c373 c374 c375 c376 c377 c378 c379 c380 c381 c382 c383 c384 c385 c386 c387 c388 c389 c390 c391 c392 c393 c394 c395 c396 c397 c398 c399 c400 c401 c402 c403 c404 c405 c406 c407 c408 c409 c410 c411 c412 c413 c414 c415 c416 c417 : Value)
    (hMid : Mid w0 w B k wi LB hb RB base pv bk cs c 0 nd f) (hwi : wi < k) (hk5 : k ≤ 5) (hb0 : 0 ≤ base) (hb1 : base ≤ 4611686018427387903) (hpv : pv = base + cs.length) (hlen : cs.length ≤ 8796093022000)
    (hak : ak = 1) (hwt : wt = wantOf k wi 0 pv) (Q0 : Exit → Act → World → Prop)
    (hexit : ∀ (u10 u29 u30 u31 u32 u33 u34 u149 u150 u151 u152 u153 u154 u155 u156 u157 u158 u159 u160 u161 u162 u163 u164 u165 u166 u167 u168 u169 u170 u171 u172 u173 u174 u175 u176 u177 u178 u179 u180 u181 u182 u183 u184 u185 u186 u187 u188 u189 u190 u191 u192 u193 u194 u195 u196 u197 u198 u199 u200 u201 u202 u203 u204 u205 u206 u207 u208 u209 u210 u211 u212 u213 u214 u215 u216 u217 u218 u219 u220 u221 u222 u223 u224 u225 u226 u227 u228 u229 u230 u231 u232 u233 u234 u235 u236 u237 u238 u239 u240 : Value) (w' : World) (nd' : Nat → Nd) (f' : Nat → Int × Int), Mid w0 w' B k wi LB hb RB base pv bk cs c k nd' f' →
      Q0 (.exit 4) ⟨(c0 :: c1 :: .int .u64 base :: c3 :: .pointer (some ⟨hb, 0, none⟩) :: c5 :: c6 :: c7 :: c8 :: c9 :: u10 :: .pointer (some ⟨B, 0, none⟩) :: .int .i64 k :: .pointer (some ⟨B + 1, 0, none⟩) :: .pointer (some ⟨B + 3, 0, none⟩) :: .pointer (some ⟨B + 5, 0, none⟩) :: c16 :: .pointer (some ⟨B + 6 + k, 0, none⟩) :: c18 :: .pointer (some ⟨LB, 0, none⟩) :: c20 :: .func (.func 56) #[] #[.pointer (some ⟨LB, 0, none⟩), .pointer (some ⟨B + 3, 0, none⟩), .pointer (some ⟨B + 1, 0, none⟩), .pointer (some ⟨B + 5, 0, none⟩), .pointer (some ⟨B, 0, none⟩), .pointer (some ⟨B + 6 + k, 0, none⟩)] :: c22 :: c23 :: .pointer (some ⟨RB, 0, none⟩) :: c25 :: c26 :: .int .u64 pv :: .int .u64 (ltOf cs) :: u29 :: u30 :: u31 :: u32 :: u33 :: u34 :: c35 :: c36 :: c37 :: c38 :: c39 :: c40 :: c41 :: c42 :: c43 :: c44 :: c45 :: c46 :: c47 :: c48 :: c49 :: c50 :: c51 :: c52 :: c53 :: c54 :: c55 :: c56 :: c57 :: c58 :: c59 :: c60 :: c61 :: c62 :: c63 :: c64 :: c65 :: c66 :: c67 :: c68 :: c69 :: c70 :: c71 :: c72 :: c73 :: c74 :: c75 :: c76 :: c77 :: c78 :: c79 :: c80 :: c81 :: c82 :: c83 :: c84 :: c85 :: c86 :: c87 :: c88 :: c89 :: c90 :: c91 :: c92 :: c93 :: c94 :: c95 :: c96 :: c97 :: c98 :: c99 :: c100 :: c101 :: c102 :: c103 :: c104 :: c105 :: c106 :: c107 :: c108 :: c109 :: c110 :: c111 :: c112 :: c113 :: c114 :: c115 :: c116 :: c117 :: c118 :: c119 :: c120 :: c121 :: c122 :: c123 :: c124 :: c125 :: c126 :: c127 :: c128 :: c129 :: c130 :: c131 :: c132 :: c133 :: c134 :: c135 :: c136 :: c137 :: c138 :: c139 :: c140 :: c141 :: c142 :: c143 :: c144 :: c145 :: c146 :: .slice (some ⟨B + 2, 0, none⟩) k k :: .int .i64 k :: u149 :: u150 :: u151 :: u152 :: u153 :: u154 :: u155 :: u156 :: u157 :: u158 :: u159 :: u160 :: u161 :: u162 :: u163 :: u164 :: u165 :: u166 :: u167 :: u168 :: u169 :: u170 :: u171 :: u172 :: u173 :: u174 :: u175 :: u176 :: u177 :: u178 :: u179 :: u180 :: u181 :: u182 :: u183 :: u184 :: u185 :: u186 :: u187 :: u188 :: u189 :: u190 :: u191 :: u192 :: u193 :: u194 :: u195 :: u196 :: u197 :: u198 :: u199 :: u200 :: u201 :: u202 :: u203 :: u204 :: u205 :: u206 :: u207 :: u208 :: u209 :: u210 :: u211 :: u212 :: u213 :: u214 :: u215 :: u216 :: u217 :: u218 :: u219 :: u220 :: u221 :: u222 :: u223 :: u224 :: u225 :: u226 :: u227 :: u228 :: u229 :: u230 :: u231 :: u232 :: u233 :: u234 :: u235 :: u236 :: u237 :: u238 :: u239 :: u240 :: c241 :: c242 :: c243 :: c244 :: c245 :: c246 :: c247 :: c248 :: c249 :: c250 :: c251 :: c252 :: c253 :: c254 :: c255 :: c256 :: c257 :: c258 :: c259 :: c260 :: c261 :: c262 :: c263 :: c264 :: c265 :: c266 :: c267 :: c268 :: c269 :: c270 :: c271 :: c272 :: c273 :: c274 :: c275 :: c276 :: c277 :: c278 :: c279 :: c280 :: c281 :: c282 :: c283 :: c284 :: c285 :: c286 :: c287 :: c288 :: c289 :: c290 :: c291 :: c292 :: c293 :: c294 :: c295 :: c296 :: c297 :: c298 :: c299 :: c300 :: c301 :: c302 :: c303 :: c304 :: c305 :: c306 :: c307 :: c308 :: c309 :: c310 :: c311 :: c312 :: c313 :: c314 :: c315 :: c316 :: c317 :: c318 :: c319 :: c320 :: c321 :: c322 :: c323 :: c324 :: c325 :: c326 :: c327 :: c328 :: c329 :: c330 :: c331 :: c332 :: c333 :: c334 :: c335 :: c336 :: c337 :: c338 :: c339 :: c340 :: c341 :: c342 :: c343 :: c344 :: c345 :: c346 :: c347 :: c348 :: c349 :: c350 :: c351 :: c352 :: c353 :: c354 :: c355 :: c356 :: c357 :: c358 :: c359 :: c360 :: c361 :: c362 :: c363 :: c364 :: c365 :: c366 :: c367 :: c368 :: c369 :: c370 :: c371 :: c372 :: c373 :: c374 :: c375 :: c376 :: c377 :: c378 :: c379 :: c380 :: c381 :: c382 :: c383 :: c384 :: c385 :: c386 :: c387 :: c388 :: c389 :: c390 :: c391 :: c392 :: c393 :: c394 :: c395 :: c396 :: c397 :: c398 :: c399 :: c400 :: c401 :: c402 :: c403 :: c404 :: c405 :: c406 :: c407 :: c408 :: c409 :: c410 :: c411 :: c412 :: c413 :: c414 :: c415 :: c416 :: c417 :: []).toArray, []⟩ w') :
    Code.wp Yaod.prog (Code.loop (loopOf (some (loopOf Yaod.f12.body 1)) 0)) Q0 ⟨(c0 :: c1 :: .int .u64 base :: c3 :: .pointer (some ⟨hb, 0, none⟩) :: c5 :: c6 :: c7 :: c8 :: c9 :: c10 :: .pointer (some ⟨B, 0, none⟩) :: .int .i64 k :: .pointer (some ⟨B + 1, 0, none⟩) :: .pointer (some ⟨B + 3, 0, none⟩) :: .pointer (some ⟨B + 5, 0, none⟩) :: c16 :: .pointer (some ⟨B + 6 + k, 0, none⟩) :: c18 :: .pointer (some ⟨LB, 0, none⟩) :: c20 :: .func (.func 56) #[] #[.pointer (some ⟨LB, 0, none⟩), .pointer (some ⟨B + 3, 0, none⟩), .pointer (some ⟨B + 1, 0, none⟩), .pointer (some ⟨B + 5, 0, none⟩), .pointer (some ⟨B, 0, none⟩), .pointer (some ⟨B + 6 + k, 0, none⟩)] :: c22 :: c23 :: .pointer (some ⟨RB, 0, none⟩) :: c25 :: c26 :: .int .u64 pv :: .int .u64 (ltOf cs) :: .int .i64 ak :: .int .u64 wt :: c31 :: c32 :: c33 :: c34 :: c35 :: c36 :: c37 :: c38 :: c39 :: c40 :: c41 :: c42 :: c43 :: c44 :: c45 :: c46 :: c47 :: c48 :: c49 :: c50 :: c51 :: c52 :: c53 :: c54 :: c55 :: c56 :: c57 :: c58 :: c59 :: c60 :: c61 :: c62 :: c63 :: c64 :: c65 :: c66 :: c67 :: c68 :: c69 :: c70 :: c71 :: c72 :: c73 :: c74 :: c75 :: c76 :: c77 :: c78 :: c79 :: c80 :: c81 :: c82 :: c83 :: c84 :: c85 :: c86 :: c87 :: c88 :: c89 :: c90 :: c91 :: c92 :: c93 :: c94 :: c95 :: c96 :: c97 :: c98 :: c99 :: c100 :: c101 :: c102 :: c103 :: c104 :: c105 :: c106 :: c107 :: c108 :: c109 :: c110 :: c111 :: c112 :: c113 :: c114 :: c115 :: c116 :: c117 :: c118 :: c119 :: c120 :: c121 :: c122 :: c123 :: c124 :: c125 :: c126 :: c127 :: c128 :: c129 :: c130 :: c131 :: c132 :: c133 :: c134 :: c135 :: c136 :: c137 :: c138 :: c139 :: c140 :: c141 :: c142 :: c143 :: c144 :: c145 :: c146 :: .slice (some ⟨B + 2, 0, none⟩) k k :: .int .i64 k :: .int .i64 0 :: c150 :: c151 :: c152 :: c153 :: c154 :: c155 :: c156 :: c157 :: c158 :: c159 :: c160 :: c161 :: c162 :: c163 :: c164 :: c165 :: c166 :: c167 :: c168 :: c169 :: c170 :: c171 :: c172 :: c173 :: c174 :: c175 :: c176 :: c177 :: c178 :: c179 :: c180 :: c181 :: c182 :: c183 :: c184 :: c185 :: c186 :: c187 :: c188 :: c189 :: c190 :: c191 :: c192 :: c193 :: c194 :: c195 :: c196 :: c197 :: c198 :: c199 :: c200 :: c201 :: c202 :: c203 :: c204 :: c205 :: c206 :: c207 :: c208 :: c209 :: c210 :: c211 :: c212 :: c213 :: c214 :: c215 :: c216 :: c217 :: c218 :: c219 :: c220 :: c221 :: c222 :: c223 :: c224 :: c225 :: c226 :: c227 :: c228 :: c229 :: c230 :: c231 :: c232 :: c233 :: c234 :: c235 :: c236 :: c237 :: c238 :: c239 :: c240 :: c241 :: c242 :: c243 :: c244 :: c245 :: c246 :: c247 :: c248 :: c249 :: c250 :: c251 :: c252 :: c253 :: c254 :: c255 :: c256 :: c257 :: c258 :: c259 :: c260 :: c261 :: c262 :: c263 :: c264 :: c265 :: c266 :: c267 :: c268 :: c269 :: c270 :: c271 :: c272 :: c273 :: c274 :: c275 :: c276 :: c277 :: c278 :: c279 :: c280 :: c281 :: c282 :: c283 :: c284 :: c285 :: c286 :: c287 :: c288 :: c289 :: c290 :: c291 :: c292 :: c293 :: c294 :: c295 :: c296 :: c297 :: c298 :: c299 :: c300 :: c301 :: c302 :: c303 :: c304 :: c305 :: c306 :: c307 :: c308 :: c309 :: c310 :: c311 :: c312 :: c313 :: c314 :: c315 :: c316 :: c317 :: c318 :: c319 :: c320 :: c321 :: c322 :: c323 :: c324 :: c325 :: c326 :: c327 :: c328 :: c329 :: c330 :: c331 :: c332 :: c333 :: c334 :: c335 :: c336 :: c337 :: c338 :: c339 :: c340 :: c341 :: c342 :: c343 :: c344 :: c345 :: c346 :: c347 :: c348 :: c349 :: c350 :: c351 :: c352 :: c353 :: c354 :: c355 :: c356 :: c357 :: c358 :: c359 :: c360 :: c361 :: c362 :: c363 :: c364 :: c365 :: c366 :: c367 :: c368 :: c369 :: c370 :: c371 :: c372 :: c373 :: c374 :: c375 :: c376 :: c377 :: c378 :: c379 :: c380 :: c381 :: c382 :: c383 :: c384 :: c385 :: c386 :: c387 :: c388 :: c389 :: c390 :: c391 :: c392 :: c393 :: c394 :: c395 :: c396 :: c397 :: c398 :: c399 :: c400 :: c401 :: c402 :: c403 :: c404 :: c405 :: c406 :: c407 :: c408 :: c409 :: c410 :: c411 :: c412 :: c413 :: c414 :: c415 :: c416 :: c417 :: []).toArray, []⟩ w := by
  subst hwt
  have e : ak = ((votesTo wi 0 : Nat) : Int) := by rw [hak]; rfl
  subst e
  exact loop3 w0 w B k wi LB hb RB base pv bk cs c nd f c0 c1 c3 c5 c6 c7 c8 c9 c10 c16 c18 c20 c22 c23 c25 c26 c31 c32 c33 c34 c35 c36 c37 c38 c39 c40 c41 c42 c43 c44 c45 c46 c47 c48 c49 c50 c51 c52 c53 c54 c55 c56 c57 c58 c59 c60 c61 c62 c63 c64 c65 c66 c67 c68 c69 c70 c71 c72 c73 c74 c75 c76 c77 c78 c79 c80 c81 c82 c83 c84 c85 c86 c87 c88 c89 c90 c91 c92 c93 c94 c95 c96 c97 c98 c99 c100 c101 c102 c103 c104 c105 c106 c107 c108 c109 c110 c111 c112 c113 c114 c115 c116 c117 c118 c119 c120 c121 c122 c123 c124 c125 c126 c127 c128 c129 c130 c131 c132 c133 c134 c135 c136 c137 c138 c139 c140 c141 c142 c143 c144 c145 c146 c150 c151 c152 c153 c154 c155 c156 c157 c158 c159 c160 c161 c162 c163 c164 c165 c166 c167 c168 c169 c170 c171 c172 c173 c174 c175 c176 c177 c178 c179 c180 c181 c182 c183 c184 c185 c186 c187 c188 c189 c190 c191 c192 c193 c194 c195 c196 c197 c198 c199 c200 c201 c202 c203 c204 c205 c206 c207 c208 c209 c210 c211 c212 c213 c214 c215 c216 c217 c218 c219 c220 c221 c222 c223 c224 c225 c226 c227 c228 c229 c230 c231 c232 c233 c234 c235 c236 c237 c238 c239 c240 c241 c242 c243 c244 c245 c246 c247 c248 c249 c250 c251 c252 c253 c254 c255 c256 c257 c258 c259 c260 c261 c262 c263 c264 c265 c266 c267 c268 c269 c270 c271 c272 c273 c274 c275 c276 c277 c278 c279 c280 c281 c282 c283 c284 c285 c286 c287 c288 c289 c290 c291 c292 c293 c294 c295 c296 c297 c298 c299 c300 c301 c302 c303 c304 c305 c306 c307 c308 c309 c310 c311 c312 c313 c314 c315 c316 c317 c318 c319 c320 c321 c322 c323 c324 c325 c326 c327 c328 c329 c330 c331 c332 c333 c334 c335 c336 c337 c338 c339 c340 c341 c342 c343 c344 c345 c346 c347 c348 c349 c350 c351 c352 c353 c354 c355 c356 c357 c358 c359 c360 c361 c362 c363 c364 c365 c366 c367 c368 c369 c370 c371 c372 c373 c374 c375 c376 c377 c378 c379 c380 c381 c382 c383 c384 c385 c386 c387 c388 c389 c390 c391 c392 c393 c394 c395 c396 c397 c398 c399 c400 c401 c402 c403 c404 c405 c406 c407 c408 c409 c410 c411 c412 c413 c414 c415 c416 c417 hMid hwi hk5 hb0 hb1 hpv hlen Q0 hexit

set_option maxRecDepth 1000000 in
set_option maxHeartbeats 16000000 in
theorem loop2 (w0 w : World) (B k wi LB hb m cap : Nat) (base : Int) (a0 : Option Addr) (ss : List ByteArray) (nd : Nat → Nd) (f : Nat → Int × Int)
    (c0 c1 c3 c5 c6 c7 c8 c9 c10 c16 c22 c23 c24 c25 c26 c27 c28 c29 c30 c31 c32 c33 c34 c35 c36 c37 c38 c39 c40 c41 c42 c43 c44 c45 c46 c47 c48 c49 c50 c51 c52 c53 c54 c55 c56 c57 c58 c59 c60 c61 c62 c63 c64 c65 c66 c67 c68 c69 c70 c71 c72 c73 c74 c75 c76 c77 c78 c79 c80 c81 c82 c83 c84 c85 c86 c87 c88 c89 c90 c91 c92 c93 c94 c98 c99 c100 c101 c102 c103 c104 c105 c106 c107 c108 c109 c110 c111 c112 c113 c114 c115 c116 c117 c118 c119 c120 c121 c122 c123 c124 c125 c126 c127 c128 c129 c130 c131 c132 c133 c134 c135 c136 c137 c138 c139 c140 c141 c142 c143 c144 c145 c146 c147 c148 c149 c150 c151 c152 c153 c154 c155 c156 c157 c158 c159 c160 c161 c162 c163 c164 c165 c166 c167 c168 c169 c170 c171 c172 c173 c174 c175 c176 c177 c178 c179 c180 c181 c182 c183 c184 c185 c186 c187 c188 c189 c190 c191 c192 c193 c194 c195 c196 c197 c198 c199 c200 c201 c202 c203 c204 c205 c206 c207 c208 c209 c210 c211 c212 c213 c214 c215 c216 c217 c218 c219 c220 c221 c222 c223 c224 c225 c226 c227 c228 c229 c230 c231 c232 c233 c234 c235 c236 c237 c238 c239 c240 c241 c242 c243 c244 c245 c246 c247 c248 c249 c250 c251 c252 c253 c254 c255 c256 c257 c258 c259 c260 c261 c262 c263 c264 c265 c266 c267 c268 c269 c270 c271 c272 c273 c274 c275 c276 c277 c278 c279 c280 c281 c282 c283 c284 c285 c286 c287 c288 c289 c290 c291 c292 c293 c294 c295 c296 c297 c298 c299 c300 c301 c302 c303 c304 c305 c306 c307 c308 c309 c310 c311 c312 c313 c314 c315 c316 c317 c318 c319 c320 c321 c322 c323 c324 c325 c326 c327 c328 c329 c330 c331 c332 c333 c334 c335 c336 c337 c338 c339 c340 c341 c342 c343 c344 c345 c346 c347 c348 c349 c350 c351 c352 c353 c354 c355 c356 c357 c358 c359 c360 c361 c362 c363 c364 c365 c366 c367 c368 c369 c370 c371 c372 c373 c374 c375 c376 c377 c378 c379 c380 c381 c382 c383 c384 c385 c386 c387 c388 c389 c390 c391 c392 c393 c394 c395 c396 c397 c398 c399 c400 c401 c402 c403 c404 c405 c406 c407 c408 c409 c410 c411 c412 c413 c414 c415 c416 c417 : Value)
    (hSv : Served w0 w B k wi LB hb base (.slice none 0 0) [] nd f) (hwi : wi < k) (hk5 : k ≤ 5) (hb0 : 0 ≤ base) (hb1 : base ≤ 4611686018427387903) (hssl : ss.length = m) (hm : m ≤ 8796093022000)
    (hss : m = 0 ∨ ∃ cb off, a0 = some ⟨cb, off, none⟩ ∧ ∀ W, Chg [hb] w0 W → ∀ i (hi : i < ss.length), W.cell? ⟨cb, off + i, none⟩ = some (.string ss[i]))
    (Q0 : Exit → Act → World → Prop)
    (hexit : ∀ (u10 u23 u24 u25 u26 u27 u28 u29 u30 u31 u32 u33 u34 u97 u98 u99 u100 u101 u102 u103 u104 u105 u106 u107 u108 u109 u110 u111 u112 u113 u114 u115 u116 u117 u118 u119 u120 u121 u122 u123 u124 u125 u126 u127 u128 u129 u130 u131 u132 u133 u134 u135 u136 u137 u138 u139 u140 u141 u142 u143 u144 u145 u146 u147 u148 u149 u150 u151 u152 u153 u154 u155 u156 u157 u158 u159 u160 u161 u162 u163 u164 u165 u166 u167 u168 u169 u170 u171 u172 u173 u174 u175 u176 u177 u178 u179 u180 u181 u182 u183 u184 u185 u186 u187 u188 u189 u190 u191 u192 u193 u194 u195 u196 u197 u198 u199 u200 u201 u202 u203 u204 u205 u206 u207 u208 u209 u210 u211 u212 u213 u214 u215 u216 u217 u218 u219 u220 u221 u222 u223 u224 u225 u226 u227 u228 u229 u230 u231 u232 u233 u234 u235 u236 u237 u238 u239 u240 u241 u242 u243 u244 u245 u246 u247 u248 u249 u250 bk' : Value) (w' : World) (nd' : Nat → Nd) (f' : Nat → Int × Int), Served w0 w' B k wi LB hb base bk' ss nd' f' →
      Q0 (.exit 2) ⟨(c0 :: c1 :: .int .u64 base :: c3 :: .pointer (some ⟨hb, 0, none⟩) :: c5 :: c6 :: c7 :: c8 :: c9 :: u10 :: .pointer (some ⟨B, 0, none⟩) :: .int .i64 k :: .pointer (some ⟨B + 1, 0, none⟩) :: .pointer (some ⟨B + 3, 0, none⟩) :: .pointer (some ⟨B + 5, 0, none⟩) :: c16 :: .pointer (some ⟨B + 6 + k, 0, none⟩) :: bk' :: .pointer (some ⟨LB, 0, none⟩) :: .int .u64 (ltOf ss) :: .func (.func 56) #[] #[.pointer (some ⟨LB, 0, none⟩), .pointer (some ⟨B + 3, 0, none⟩), .pointer (some ⟨B + 1, 0, none⟩), .pointer (some ⟨B + 5, 0, none⟩), .pointer (some ⟨B, 0, none⟩), .pointer (some ⟨B + 6 + k, 0, none⟩)] :: c22 :: u23 :: u24 :: u25 :: u26 :: u27 :: u28 :: u29 :: u30 :: u31 :: u32 :: u33 :: u34 :: c35 :: c36 :: c37 :: c38 :: c39 :: c40 :: c41 :: c42 :: c43 :: c44 :: c45 :: c46 :: c47 :: c48 :: c49 :: c50 :: c51 :: c52 :: c53 :: c54 :: c55 :: c56 :: c57 :: c58 :: c59 :: c60 :: c61 :: c62 :: c63 :: c64 :: c65 :: c66 :: c67 :: c68 :: c69 :: c70 :: c71 :: c72 :: c73 :: c74 :: c75 :: c76 :: c77 :: c78 :: c79 :: c80 :: c81 :: c82 :: c83 :: c84 :: c85 :: c86 :: c87 :: c88 :: c89 :: c90 :: c91 :: c92 :: c93 :: c94 :: .slice a0 m cap :: .int .i64 m :: u97 :: u98 :: u99 :: u100 :: u101 :: u102 :: u103 :: u104 :: u105 :: u106 :: u107 :: u108 :: u109 :: u110 :: u111 :: u112 :: u113 :: u114 :: u115 :: u116 :: u117 :: u118 :: u119 :: u120 :: u121 :: u122 :: u123 :: u124 :: u125 :: u126 :: u127 :: u128 :: u129 :: u130 :: u131 :: u132 :: u133 :: u134 :: u135 :: u136 :: u137 :: u138 :: u139 :: u140 :: u141 :: u142 :: u143 :: u144 :: u145 :: u146 :: u147 :: u148 :: u149 :: u150 :: u151 :: u152 :: u153 :: u154 :: u155 :: u156 :: u157 :: u158 :: u159 :: u160 :: u161 :: u162 :: u163 :: u164 :: u165 :: u166 :: u167 :: u168 :: u169 :: u170 :: u171 :: u172 :: u173 :: u174 :: u175 :: u176 :: u177 :: u178 :: u179 :: u180 :: u181 :: u182 :: u183 :: u184 :: u185 :: u186 :: u187 :: u188 :: u189 :: u190 :: u191 :: u192 :: u193 :: u194 :: u195 :: u196 :: u197 :: u198 :: u199 :: u200 :: u201 :: u202 :: u203 :: u204 :: u205 :: u206 :: u207 :: u208 :: u209 :: u210 :: u211 :: u212 :: u213 :: u214 :: u215 :: u216 :: u217 :: u218 :: u219 :: u220 :: u221 :: u222 :: u223 :: u224 :: u225 :: u226 :: u227 :: u228 :: u229 :: u230 :: u231 :: u232 :: u233 :: u234 :: u235 :: u236 :: u237 :: u238 :: u239 :: u240 :: u241 :: u242 :: u243 :: u244 :: u245 :: u246 :: u247 :: u248 :: u249 :: u250 :: c251 :: c252 :: c253 :: c254 :: c255 :: c256 :: c257 :: c258 :: c259 :: c260 :: c261 :: c262 :: c263 :: c264 :: c265 :: c266 :: c267 :: c268 :: c269 :: c270 :: c271 :: c272 :: c273 :: c274 :: c275 :: c276 :: c277 :: c278 :: c279 :: c280 :: c281 :: c282 :: c283 :: c284 :: c285 :: c286 :: c287 :: c288 :: c289 :: c290 :: c291 :: c292 :: c293 :: c294 :: c295 :: c296 :: c297 :: c298 :: c299 :: c300 :: c301 :: c302 :: c303 :: c304 :: c305 :: c306 :: c307 :: c308 :: c309 :: c310 :: c311 :: c312 :: c313 :: c314 :: c315 :: c316 :: c317 :: c318 :: c319 :: c320 :: c321 :: c322 :: c323 :: c324 :: c325 :: c326 :: c327 :: c328 :: c329 :: c330 :: c331 :: c332 :: c333 :: c334 :: c335 :: c336 :: c337 :: c338 :: c339 :: c340 :: c341 :: c342 :: c343 :: c344 :: c345 :: c346 :: c347 :: c348 :: c349 :: c350 :: c351 :: c352 :: c353 :: c354 :: c355 :: c356 :: c357 :: c358 :: c359 :: c360 :: c361 :: c362 :: c363 :: c364 :: c365 :: c366 :: c367 :: c368 :: c369 :: c370 :: c371 :: c372 :: c373 :: c374 :: c375 :: c376 :: c377 :: c378 :: c379 :: c380 :: c381 :: c382 :: c383 :: c384 :: c385 :: c386 :: c387 :: c388 :: c389 :: c390 :: c391 :: c392 :: c393 :: c394 :: c395 :: c396 :: c397 :: c398 :: c399 :: c400 :: c401 :: c402 :: c403 :: c404 :: c405 :: c406 :: c407 :: c408 :: c409 :: c410 :: c411 :: c412 :: c413 :: c414 :: c415 :: c416 :: c417 :: []).toArray, []⟩ w') :
    Code.wp Yaod.prog (Code.loop (loopOf Yaod.f12.body 1)) Q0 ⟨(c0 :: c1 :: .int .u64 base :: c3 :: .pointer (some ⟨hb, 0, none⟩) :: c5 :: c6 :: c7 :: c8 :: c9 :: c10 :: .pointer (some ⟨B, 0, none⟩) :: .int .i64 k :: .pointer (some ⟨B + 1, 0, none⟩) :: .pointer (some ⟨B + 3, 0, none⟩) :: .pointer (some ⟨B + 5, 0, none⟩) :: c16 :: .pointer (some ⟨B + 6 + k, 0, none⟩) :: .slice none 0 0 :: .pointer (some ⟨LB, 0, none⟩) :: .int .u64 0 :: .func (.func 56) #[] #[.pointer (some ⟨LB, 0, none⟩), .pointer (some ⟨B + 3, 0, none⟩), .pointer (some ⟨B + 1, 0, none⟩), .pointer (some ⟨B + 5, 0, none⟩), .pointer (some ⟨B, 0, none⟩), .pointer (some ⟨B + 6 + k, 0, none⟩)] :: c22 :: c23 :: c24 :: c25 :: c26 :: c27 :: c28 :: c29 :: c30 :: c31 :: c32 :: c33 :: c34 :: c35 :: c36 :: c37 :: c38 :: c39 :: c40 :: c41 :: c42 :: c43 :: c44 :: c45 :: c46 :: c47 :: c48 :: c49 :: c50 :: c51 :: c52 :: c53 :: c54 :: c55 :: c56 :: c57 :: c58 :: c59 :: c60 :: c61 :: c62 :: c63 :: c64 :: c65 :: c66 :: c67 :: c68 :: c69 :: c70 :: c71 :: c72 :: c73 :: c74 :: c75 :: c76 :: c77 :: c78 :: c79 :: c80 :: c81 :: c82 :: c83 :: c84 :: c85 :: c86 :: c87 :: c88 :: c89 :: c90 :: c91 :: c92 :: c93 :: c94 :: .slice a0 m cap :: .int .i64 m :: .int .i64 0 :: c98 :: c99 :: c100 :: c101 :: c102 :: c103 :: c104 :: c105 :: c106 :: c107 :: c108 :: c109 :: c110 :: c111 :: c112 :: c113 :: c114 :: c115 :: c116 :: c117 :: c118 :: c119 :: c120 :: c121 :: c122 :: c123 :: c124 :: c125 :: c126 :: c127 :: c128 :: c129 :: c130 :: c131 :: c132 :: c133 :: c134 :: c135 :: c136 :: c137 :: c138 :: c139 :: c140 :: c141 :: c142 :: c143 :: c144 :: c145 :: c146 :: c147 :: c148 :: c149 :: c150 :: c151 :: c152 :: c153 :: c154 :: c155 :: c156 :: c157 :: c158 :: c159 :: c160 :: c161 :: c162 :: c163 :: c164 :: c165 :: c166 :: c167 :: c168 :: c169 :: c170 :: c171 :: c172 :: c173 :: c174 :: c175 :: c176 :: c177 :: c178 :: c179 :: c180 :: c181 :: c182 :: c183 :: c184 :: c185 :: c186 :: c187 :: c188 :: c189 :: c190 :: c191 :: c192 :: c193 :: c194 :: c195 :: c196 :: c197 :: c198 :: c199 :: c200 :: c201 :: c202 :: c203 :: c204 :: c205 :: c206 :: c207 :: c208 :: c209 :: c210 :: c211 :: c212 :: c213 :: c214 :: c215 :: c216 :: c217 :: c218 :: c219 :: c220 :: c221 :: c222 :: c223 :: c224 :: c225 :: c226 :: c227 :: c228 :: c229 :: c230 :: c231 :: c232 :: c233 :: c234 :: c235 :: c236 :: c237 :: c238 :: c239 :: c240 :: c241 :: c242 :: c243 :: c244 :: c245 :: c246 :: c247 :: c248 :: c249 :: c250 :: c251 :: c252 :: c253 :: c254 :: c255 :: c256 :: c257 :: c258 :: c259 :: c260 :: c261 :: c262 :: c263 :: c264 :: c265 :: c266 :: c267 :: c268 :: c269 :: c270 :: c271 :: c272 :: c273 :: c274 :: c275 :: c276 :: c277 :: c278 :: c279 :: c280 :: c281 :: c282 :: c283 :: c284 :: c285 :: c286 :: c287 :: c288 :: c289 :: c290 :: c291 :: c292 :: c293 :: c294 :: c295 :: c296 :: c297 :: c298 :: c299 :: c300 :: c301 :: c302 :: c303 :: c304 :: c305 :: c306 :: c307 :: c308 :: c309 :: c310 :: c311 :: c312 :: c313 :: c314 :: c315 :: c316 :: c317 :: c318 :: c319 :: c320 :: c321 :: c322 :: c323 :: c324 :: c325 :: c326 :: c327 :: c328 :: c329 :: c330 :: c331 :: c332 :: c333 :: c334 :: c335 :: c336 :: c337 :: c338 :: c339 :: c340 :: c341 :: c342 :: c343 :: c344 :: c345 :: c346 :: c347 :: c348 :: c349 :: c350 :: c351 :: c352 :: c353 :: c354 :: c355 :: c356 :: c357 :: c358 :: c359 :: c360 :: c361 :: c362 :: c363 :: c364 :: c365 :: c366 :: c367 :: c368 :: c369 :: c370 :: c371 :: c372 :: c373 :: c374 :: c375 :: c376 :: c377 :: c378 :: c379 :: c380 :: c381 :: c382 :: c383 :: c384 :: c385 :: c386 :: c387 :: c388 :: c389 :: c390 :: c391 :: c392 :: c393 :: c394 :: c395 :: c396 :: c397 :: c398 :: c399 :: c400 :: c401 :: c402 :: c403 :: c404 :: c405 :: c406 :: c407 :: c408 :: c409 :: c410 :: c411 :: c412 :: c413 :: c414 :: c415 :: c416 :: c417 :: []).toArray, []⟩ w := by
  conv => arg 2; arg 1; whnf
  have HX := hide hexit
  have HM := hide hSv
  have HSL := hide hssl
  have HSS := hide hss
  clear hexit hSv hssl hss
  go_loopw [97, 18, 20] (fun i bk lt wr => ∃ (j : Nat) (nd : Nat → Nd) (f : Nat → Int × Int), j ≤ m ∧ i = .int .i64 j ∧ lt = .int .u64 (ltOf (ss.take j)) ∧ Served w0 wr B k wi LB hb base bk (ss.take j) nd f) (fun i _ _ _ => m - (intOf i).toNat)
  case atStart => exact ⟨0, nd, f, Nat.zero_le _, rfl, rfl, HM.out⟩
  case round =>
    obtain ⟨j, nd, f, hj, rfl, rfl, hM⟩ := hrel
    clear HM
    by_cases hjm : j < m
    · obtain ⟨cb, off, ha0, hcell⟩ : ∃ cb off, a0 = some ⟨cb, off, none⟩ ∧ ∀ W, Chg [hb] w0 W → ∀ i (hi : i < ss.length), W.cell? ⟨cb, off + i, none⟩ = some (.string ss[i]) := by
        rcases HSS.out with h | h
        · omega
        · exact h
      subst ha0
      have hjs : j < ss.length := by have := HSL.out; omega
      obtain ⟨c, hc⟩ : ∃ c, c = ss[j] := ⟨_, rfl⟩
      obtain ⟨cs, hcs⟩ : ∃ cs, cs = ss.take j := ⟨_, rfl⟩
      have htk : ss.take (j + 1) = cs ++ [c] := by rw [hcs, hc]; exact take_more ss j hjs
      have hcl : cs.length = j := by rw [hcs, List.length_take]; omega
      have x0 := hcell wr hM.com.chg j hjs
      rw [← hc] at x0
      rw [← hcs] at hM
      rw [← hcs]
      have HTK := hide htk
      have HCL := hide hcl
      clear hc hcs htk hcl hcell HX HSS HSL hjs
      obtain ⟨pv, hpv⟩ : ∃ pv, pv = base + (cs.length : Int) := ⟨_, rfl⟩
      have HPV := hide hpv
      have hcl5 : cs.length ≤ 8796093022000 := by have := HCL.out; omega
      have xL : wr.cell? ⟨LB, 0, none⟩ = some (.int .u64 pv) := by rw [hpv]; exact cell_of_heap hM.com.lb 0
      have hlb : wr.heap[LB]? = some (.cells #[.int .u64 pv] 22 (0, 0)) := by rw [hpv]; exact hM.com.lb
      have HLB := hide hlb
      clear hlb
      have xl := hM.com.st.l_at
      have okw := hM.com.ok wi hwi
      rw [if_pos rfl] at okw
      have hNw := hM.com.nodes wi hwi
      have hLw := hM.logs wi hwi
      have hb5 := hM.com.hitb
      have hl5 := hM.com.lbg
      have cT : ∀ q, Calls Yaod.prog 18 #[.pointer (some ⟨B + 6 + wi, 8, none⟩), .int .u64 pv, .int .u64 (ltOf cs), .slice (some ⟨wr.heap.size + 1, 0, none⟩) 1 1]
          (((wr.alloc (.cells #[.int .u64 1, .string c] 85)).alloc (.cells #[.int .u64 1, .string c] 85)).drewN q) fun e w' =>
          e = .returned (.tuple #[.int .u64 (pv + 1), .bool true]) ∧ Chg [B + 6 + wi] (((wr.alloc (.cells #[.int .u64 1, .string c] 85)).alloc (.cells #[.int .u64 1, .string c] 85)).drewN q) w' ∧
          ∃ v', NodeAt w' (B + 6 + wi) { nd wi with recs := v' } ∧ LogIs w' v' (cs ++ [c]) ∧ ∃ g, v'.ownBlock = some g ∧ wr.heap.size ≤ g := fun q => by
        have h := tryAppend_one (B + 6 + wi) (nd wi) cs (((wr.alloc (.cells #[.int .u64 1, .string c] 85)).alloc (.cells #[.int .u64 1, .string c] 85)).drewN q) (wr.heap.size + 1) 1 c (((hNw.alloc _).alloc _).drewN q) (((hLw.alloc _).alloc _).drewN q)
          (cell_of_heap (heap_alloc2_1 wr _ _) 0) (cell_of_heap (heap_alloc2_1 wr _ _) 1) (by rw [okw.snap]; exact hb0) (by rw [okw.snap]; exact hb1) (by omega)
        rw [okw.snap, ← hpv] at h
        refine h.mono ?_
        rintro e w' ⟨h1, h2, v', h3, h4, g, h5, h6⟩
        rw [← okw.snap] at h3
        exact ⟨h1, h2, v', h3, h4, g, h5, by simp at h6; omega⟩
      have HM := hide hM
      have HOK := hide okw
      have HNW := hide hNw
      have hsz := lt_of_heap hM.com.st.lv
      have hsL := lt_of_heap hM.com.lb
      have pvb : pv < 4611700000000000000 := by rw [hpv]; omega
      have pv0 : 0 ≤ pv := by rw [hpv]; omega
      have n1 : wr.heap.size ≠ B + 6 + wi := by omega
      clear hM okw hNw hLw hpv
      go_wp2
      go_region_held3 (fun w' => w'.cell? ⟨B + 6 + k, 0, none⟩ = some (.pointer (some ⟨B + 6 + wi, 0, none⟩)) ∧ w'.cell? ⟨LB, 0, none⟩ = some (.int .u64 pv) ∧ w'.cell? ⟨wr.heap.size, 0, none⟩ = some (.int .u64 1) ∧ w'.cell? ⟨wr.heap.size, 1, none⟩ = some (.string c)) (go_keep)
        (first | (go_at_call 18; refine (cT _).mono ?_; rintro e w2 ⟨rfl, hC2, v', hN2, hL2, g, hg, hgs⟩; have p1 := hC2.cell (p := ⟨B + 6 + k, 0, none⟩) (by simp; omega) (by simp; omega); have p2 := hC2.cell (p := ⟨LB, 0, none⟩) (by simp; omega) (by simp; omega); have p3 := hC2.cell (p := ⟨wr.heap.size, 0, none⟩) (by simp; omega) (by simp; omega); have p4 := hC2.cell (p := ⟨wr.heap.size, 1, none⟩) (by simp; omega) (by simp; omega)))
      have hC2' : Chg [B + 6 + wi] wr w2 := (((Chg.refl _ _).alloc _).alloc _).trans hC2.undrewN
      have z1 : w2.cell? ⟨LB, 0, none⟩ = some (.int .u64 pv) := cell_of_heap (hC2'.at HLB.out (by simp; omega)) 0
      have zr : w2.heap[wr.heap.size]? = some (.cells #[.int .u64 1, .string c] 85 (0, 0)) := hC2.undrewN.at (heap_alloc2_0 wr _ _) (by simp; omega)
      have z3 : w2.cell? ⟨wr.heap.size, 0, none⟩ = some (.int .u64 1) := cell_of_heap zr 0
      have z4 : w2.cell? ⟨wr.heap.size, 1, none⟩ = some (.string c) := cell_of_heap zr 1
      have HZR := hide zr
      have hBk2 : LogIs w2 u18 cs := HM.out.com.book.chg hC2' (fun g cur _ hx hm => by simp at hm; subst hm; exact HNW.out.noRow cur hx)
      obtain ⟨bk', w3, hA, hLb, hGr, hbb⟩ := run_append_book (w := w2.alloc (.cells #[.int .u64 1, .string c] 85)) (r := w2.heap.size) (c := 1) 45 (hBk2.alloc _) hcl5 (cell_of_heap (heap_alloc_at w2 _) 0) (cell_of_heap (heap_alloc_at w2 _) 1)
      have hs2 := hC2'.size
      have hgl : g < w2.heap.size := hL2.lt hg
      have hC3 : Chg (u18.ownBlock.toList) w2 w3 := ((Chg.refl _ _).alloc _).grown (row := u18.ownBlock) hGr (fun b e => Or.inl (by rw [e]; simp))
      have hbl : ∀ x, x ∈ u18.ownBlock.toList → B + 6 + k < x ∧ x < wr.heap.size ∧ x ≠ LB := fun x hx => by
        have hx' : u18.ownBlock = some x := by simpa using hx
        refine ⟨HM.out.bkf x hx', HM.out.com.book.lt hx', fun e => ?_⟩
        subst e
        rcases HM.out.com.book.2 with ⟨e, _⟩ | ⟨g', cap, cur, e, _, hh, _⟩
        · rw [e] at hx'; cases hx'
        · rw [e] at hx'; simp [Value.ownBlock] at hx'; subst hx'; rw [HM.out.com.lb] at hh; injection hh with hh; injection hh with h2 h3; exact absurd h3 (by decide)
      have y1 : w3.heap[LB]? = some (.cells #[.int .u64 pv] 22 (0, 0)) := hC3.at (hC2'.at HLB.out (by simp; omega)) (fun hx => (hbl _ hx).2.2 rfl)
      have yL : w3.cell? ⟨LB, 0, none⟩ = some (.int .u64 pv) := cell_of_heap y1 0
      have yF : w3.frozen? ⟨LB, 0, none⟩ = false := frozen_of_heap y1 0
      have hs3 := hC3.size
      have HA := hide hA
      have HY1 := hide y1
      have HC2 := hide hC2'
      have HC3 := hide hC3
      have HGR := hide hGr
      clear hA hBk2 hC2 hC2' hC3 hGr y1 cT xl xL x0 n1 p1 p2 p3 p4 zr
      have hs23 : B + 6 + wi ∉ u18.ownBlock.toList := fun hx => by have := hbl _ hx; omega
      have hS4 : ∀ x, x ∈ [B + 6 + wi, LB] ++ u18.ownBlock.toList → B + 6 + k < x ∨ x < B ∨ x = B + 4 ∨ (B + 6 ≤ x ∧ x < B + 6 + k) := fun x hx => by
        simp only [List.mem_append, List.mem_cons, List.not_mem_nil, or_false] at hx
        rcases hx with (h1 | h1) | h1
        · omega
        · omega
        · have := hbl x h1; omega
      have hC4 : Chg ([B + 6 + wi, LB] ++ u18.ownBlock.toList) wr (w3.setCell ⟨LB, 0, none⟩ (.int .u64 (pv + 1))) :=
        (((HC2.out.mono (by simp)).trans (HC3.out.mono (by intro x hx; exact List.mem_append_right _ hx))).setCell (by simp) _)
      obtain ⟨W4, hW4⟩ : ∃ W4, W4 = w3.setCell ⟨LB, 0, none⟩ (.int .u64 (pv + 1)) := ⟨_, rfl⟩
      rw [← hW4] at hC4
      have hlb4 : W4.heap[LB]? = some (.cells #[.int .u64 (pv + 1)] 22 (0, 0)) := by rw [hW4]; exact heap_setCell _ HY1.out
      have hnr3 : ∀ cur, w3.heap[LB]? ≠ some (.cells cur 85 (0, 0)) := fun cur hx => by rw [HY1.out] at hx; injection hx with hx; injection hx with h2 h3; exact absurd h3 (by decide)
      have hN4 : NodeAt W4 (B + 6 + wi) { nd wi with recs := v' } := by rw [hW4]; exact (hN2.chg HC3.out hs23).far (by first | omega | (simp; omega) | (show LB ≠ B + 6 + wi; omega) | (show B + 6 + wi ≠ LB; omega)) _
      have hL4 : LogIs W4 v' (cs ++ [c]) := by
        rw [hW4]
        exact (hL2.chg HC3.out (fun x cur hx _ hm => by rw [hg] at hx; injection hx with hx; have := hbl x hm; omega)).far _ hnr3
      have hB4 : LogIs W4 bk' (cs ++ [c]) := by rw [hW4]; exact hLb.far _ hnr3
      have hR4 : W4.heap[wr.heap.size]? = some (.cells #[.int .u64 1, .string c] 85 (0, 0)) := by
        rw [hW4, Below.heap_setCell _ _ _ _ (show wr.heap.size ≠ LB by omega)]
        exact HC3.out.at HZR.out (fun hx => by have := hbl _ hx; omega)
      have hS4' : Stat W4 B k wi := HM.out.com.st.chg hC4 hS4
      have hP4 : MapIs W4 (B + 4) (peersL wi k f) := HM.out.com.pm.chg hC4 (fun hx => by
        simp only [List.mem_append, List.mem_cons, List.not_mem_nil, or_false] at hx
        rcases hx with (h1 | h1) | h1
        · omega
        · omega
        · have := hbl _ h1; omega)
      obtain ⟨wt, hwt⟩ : ∃ wt, wt = wantOf k wi 0 pv := ⟨_, rfl⟩
      have okw := HOK.out
      have mxl := mx_le base cs hb0
      have hlc := HM.out.lcom
      have cN : ∀ q, Calls Yaod.prog 56 #[.pointer (some ⟨LB, 0, none⟩), .pointer (some ⟨B + 3, 0, none⟩), .pointer (some ⟨B + 1, 0, none⟩), .pointer (some ⟨B + 5, 0, none⟩), .pointer (some ⟨B, 0, none⟩), .pointer (some ⟨B + 6 + k, 0, none⟩)] (W4.drewN q)
          fun e w' => e = .returned (.int .u64 wt) ∧ Chg [] (W4.drewN q) w' := fun q => by
        refine count_any B k wi LB 1 { nd wi with recs := v' } (cs ++ [c]) f (mx base cs) (pv + 1) wt (W4.drewN q) (hS4'.drewN q) (hP4.drewN q) (cell_of_heap hlb4 0) (hN4.drewN q) (hL4.drewN q) hwi hk5
          (by dsimp only; rw [okw.snap]; exact hb0) (by dsimp only; rw [okw.snap]; exact hb1) (by simp; omega) (ltOf_more cs c) (by dsimp only; rw [okw.snap, HPV.out]; simp; omega) (fun i hi hiw => Or.inr (HM.out.fm i hi hiw)) (by have := HPV.out; omega) (by dsimp only; have := HPV.out; omega) (by dsimp only; have := HPV.out; omega)
          (count_ms wi k 0 (pv + 1) (mx base cs) f (by have := HPV.out; omega) (by omega) (fun i hi hiw => by rw [if_neg (by omega)]; exact HM.out.fm i hi hiw)) (hide ?_)
        dsimp only
        rw [hwt, hlc, ← HPV.out]
        unfold wantOf
        rw [votesTo_zero]
      have HWT := hide hwt
      have HC4 := hide hC4
      have HN4 := hide hN4
      have HL4 := hide hL4
      have HB4 := hide hB4
      have HR4 := hide hR4
      have HLB4 := hide hlb4
      have zc := here_of hN4.c6
      have zd1 : ∀ (w : World) (a : Addr), cellAt w.drew a = cellAt w a := fun _ _ => rfl
      have zd2 : ∀ (w : World) (q : Nat) (a : Addr), cellAt (w.drewN q) a = cellAt w a := fun _ _ _ => rfl
      have zf := hN4.fz 6
      have zs := lt_of_heap hN4
      have zl := hS4'.l_at
      have tl3 := World.block_lt_of_cell? _ _ zl
      have hkw : ¬ k = wi := by omega
      have hwk : ¬ wi = k := by omega
      clear hC4 hN4 hL4 hB4 hR4 hlb4 hS4' hP4 okw hlc hnr3 hN2 hL2 hLb
      by_cases hmaj : (k : Int) < 2
      · have e4 : wt = pv + 1 := by rw [hwt]; unfold wantOf; rw [votesTo_zero, if_pos (by omega)]
        clear hwt
        subst e4
        go_wp2_with (first | (at_builtin; refine wpList_append_run rfl (.tmp 122) (.tmp 124) 45 rfl _ _ rfl rfl _ _ HA.out ?_))
        rw [← hW4]
        have HW4 := hide hW4
        clear hW4 yL yF z1 z3 z4
        go_region_held3 (fun w' => w'.cell? ⟨B + 6 + k, 0, none⟩ = some (.pointer (some ⟨B + 6 + wi, 0, none⟩)) ∧ w'.cell? ⟨B + 6 + wi, 6, none⟩ = some (cellAt w' ⟨B + 6 + wi, 6, none⟩) ∧ w'.frozen? ⟨B + 6 + wi, 6, none⟩ = false) (((try dsimp only); (repeat' apply And.intro) <;> first | (go_keep; done) | exact here_set (v := cellAt _ _) (by assumption)))
          (first | (go_at_call 56; refine (cN _).mono ?_; rintro e w4 ⟨rfl, hC5⟩; have p1 := hC5.cell (p := ⟨B + 6 + k, 0, none⟩) (by simp; omega) (by simp); have p2 := here_of ((HN4.out.chg hC5.undrewN (by simp)).c6); have p3 := (HN4.out.chg hC5.undrewN (by simp)).fz 6))
        refine then_world ?_
        intro W5 hW5
        have NL5 : NodeAt W5 (B + 6 + wi) { nd wi with recs := v', commit := pv + 1 } := by rw [hW5]; first | exact (HN4.out.chg hC5.undrewN (by simp)).commit _ | exact ((HN4.out.chg hC5.undrewN (by simp)).commit _).drewN _
        have hC6 : Chg [B + 6 + wi] W4 W5 := by rw [hW5]; first | exact (hC5.undrewN.mono (by simp)).setCell (by simp) _ | exact ((hC5.undrewN.mono (by simp)).setCell (by simp) _).drewN _
        have nr5 : ∀ g cur, W4.heap[g]? = some (.cells cur 85 (0, 0)) → g ∉ [B + 6 + wi] := fun x cur hx hm => by simp at hm; subst hm; exact HN4.out.noRow cur hx
        have MID := Mid.start HM.out hwi HPV.out (HC4.out.trans (hC6.mono (by simp))) (hC6.at HLB4.out (by simp; omega)) (by rw [← HWT.out]; exact NL5) (HL4.out.chg hC6 (fun x cur _ hx => nr5 x cur hx)) ⟨g, hg, hgs⟩ (HB4.out.chg hC6 (fun x cur _ hx => nr5 x cur hx))
          (by
            rw [hg]
            rcases hbb with e | e
            · rw [e]; intro e2
              have := HM.out.com.book.lt e2.symm; omega
            · rw [e]; intro e2; injection e2 with e2; simp at e2; omega)
          (by
            rcases hbb with e | e
            · exact Or.inl e
            · exact Or.inr ⟨_, e, by simp; omega⟩)
          (hC6.at HR4.out (by simp; omega))
        have y1 := MID.1.com.st.l_at
        have y2 := NL5.c6
        have y3 := MID.1.com.st.n_at
        dsimp only at y2
        have HMID := hide MID.1
        have HBKF := hide MID.2
        clear hW5 hC5 p1 p2 p3 zc zf zl cN hC6 NL5 nr5 MID
        go_wp2
        refine loop3g _ _ _ _ _ _ _ _ _ _ _ _ _ _ _ _ _ _ _ _ _ _ _ _ _ _ _ _ _ _ _ _ _ _ _ _ _ _ _ _ _ _ _ _ _ _ _ _ _ _ _ _ _ _ _ _ _ _ _ _ _ _ _ _ _ _ _ _ _ _ _ _ _ _ _ _ _ _ _ _ _ _ _ _ _ _ _ _ _ _ _ _ _ _ _ _ _ _ _ _ _ _ _ _ _ _ _ _ _ _ _ _ _ _ _ _ _ _ _ _ _ _ _ _ _ _ _ _ _ _ _ _ _ _ _ _ _ _ _ _ _ _ _ _ _ _ _ _ _ _ _ _ _ _ _ _ _ _ _ _ _ _ _ _ _ _ _ _ _ _ _ _ _ _ _ _ _ _ _ _ _ _ _ _ _ _ _ _ _ _ _ _ _ _ _ _ _ _ _ _ _ _ _ _ _ _ _ _ _ _ _ _ _ _ _ _ _ _ _ _ _ _ _ _ _ _ _ _ _ _ _ _ _ _ _ _ _ _ _ _ _ _ _ _ _ _ _ _ _ _ _ _ _ _ _ _ _ _ _ _ _ _ _ _ _ _ _ _ _ _ _ _ _ _ _ _ _ _ _ _ _ _ _ _ _ _ _ _ _ _ _ _ _ _ _ _ _ _ _ _ _ _ _ _ _ _ _ _ _ _ _ _ _ _ _ _ _ _ _ _ _ _ _ _ _ _ _ _ _ _ _ _ _ _ _ _ _ _ _ _ _ _ _ _ _ _ _ _ _ _ _ _ _ _ _ _ _ _ _ _ _ _ _ _ _ _ _ _ _ _ _ _ _ _ _ _ _ _ _ _ _ _ _ _ _ _ _ _ _ _ _ _ _ _ _ _ _ _ _ _ _ _ _ _ _ _ _ _ _ _ _ _ _ _ _ _ _ HMID.out hwi hk5 hb0 hb1 HPV.out hcl5 rfl HWT.out _ ?_
        intro q10 q29 q30 q31 q32 q33 q34 q149 q150 q151 q152 q153 q154 q155 q156 q157 q158 q159 q160 q161 q162 q163 q164 q165 q166 q167 q168 q169 q170 q171 q172 q173 q174 q175 q176 q177 q178 q179 q180 q181 q182 q183 q184 q185 q186 q187 q188 q189 q190 q191 q192 q193 q194 q195 q196 q197 q198 q199 q200 q201 q202 q203 q204 q205 q206 q207 q208 q209 q210 q211 q212 q213 q214 q215 q216 q217 q218 q219 q220 q221 q222 q223 q224 q225 q226 q227 q228 q229 q230 q231 q232 q233 q234 q235 q236 q237 q238 q239 q240 W6 nd6 f6 hM6
        have hsv := hM6.done hwi HPV.out HBKF.out
        have hfz := hsv.com.hit.fz 0
        obtain ⟨tn, htn⟩ := hsv.com.hit.cell 0 (by omega)
        have HSV := hide hsv
        clear hM6 hsv y1 y2 y3
        by_cases hk3 : k = 3
        · exfalso; omega
        · have e5 : ((k : Int) != 3) = true := by rw [bne_iff_ne]; omega
          clear hk3
          go_wp2
          go_region
          refine inb_world ?_
          intro W7 hW7
          have hC7 : Chg [hb] W6 W7 := by rw [hW7]; first | exact ((Chg.refl _ _).setCell (by simp) _).drewN _ | exact ((Chg.refl _ _).setCell (by simp) _).drew
          have hH7 : HitAt W7 hb := by rw [hW7]; first | exact (HSV.out.com.hit.set 0 _).drewN _ | exact (HSV.out.com.hit.set 0 _).drew
          have HSV7 := hide (HSV.out.hit hC7 hH7)
          clear hW7 hC7 hH7
          go_wp2
          go_roundw
          case rel => exact ⟨j + 1, _, _, by omega, by go_num, by rw [HTK.out, ltOf_more], by rw [HTK.out]; exact HSV7.out⟩
          case measure => simp [intOf]; omega
      · have e4 : pv = wt := by rw [hwt]; unfold wantOf; rw [votesTo_zero, if_neg (by omega)]
        clear hwt
        subst e4
        go_wp2_with (first | (at_builtin; refine wpList_append_run rfl (.tmp 122) (.tmp 124) 45 rfl _ _ rfl rfl _ _ HA.out ?_))
        rw [← hW4]
        have HW4 := hide hW4
        clear hW4 yL yF z1 z3 z4
        go_region_held3 (fun w' => w'.cell? ⟨B + 6 + k, 0, none⟩ = some (.pointer (some ⟨B + 6 + wi, 0, none⟩)) ∧ w'.cell? ⟨B + 6 + wi, 6, none⟩ = some (cellAt w' ⟨B + 6 + wi, 6, none⟩) ∧ w'.frozen? ⟨B + 6 + wi, 6, none⟩ = false) (((try dsimp only); (repeat' apply And.intro) <;> first | (go_keep; done) | exact here_set (v := cellAt _ _) (by assumption)))
          (first | (go_at_call 56; refine (cN _).mono ?_; rintro e w4 ⟨rfl, hC5⟩; have p1 := hC5.cell (p := ⟨B + 6 + k, 0, none⟩) (by simp; omega) (by simp); have p2 := here_of ((HN4.out.chg hC5.undrewN (by simp)).c6); have p3 := (HN4.out.chg hC5.undrewN (by simp)).fz 6))
        refine then_world ?_
        intro W5 hW5
        have NL5 : NodeAt W5 (B + 6 + wi) { nd wi with recs := v', commit := pv } := by rw [hW5]; first | exact (HN4.out.chg hC5.undrewN (by simp)).commit _ | exact ((HN4.out.chg hC5.undrewN (by simp)).commit _).drewN _
        have hC6 : Chg [B + 6 + wi] W4 W5 := by rw [hW5]; first | exact (hC5.undrewN.mono (by simp)).setCell (by simp) _ | exact ((hC5.undrewN.mono (by simp)).setCell (by simp) _).drewN _
        have nr5 : ∀ g cur, W4.heap[g]? = some (.cells cur 85 (0, 0)) → g ∉ [B + 6 + wi] := fun x cur hx hm => by simp at hm; subst hm; exact HN4.out.noRow cur hx
        have MID := Mid.start HM.out hwi HPV.out (HC4.out.trans (hC6.mono (by simp))) (hC6.at HLB4.out (by simp; omega)) (by rw [← HWT.out]; exact NL5) (HL4.out.chg hC6 (fun x cur _ hx => nr5 x cur hx)) ⟨g, hg, hgs⟩ (HB4.out.chg hC6 (fun x cur _ hx => nr5 x cur hx))
          (by
            rw [hg]
            rcases hbb with e | e
            · rw [e]; intro e2
              have := HM.out.com.book.lt e2.symm; omega
            · rw [e]; intro e2; injection e2 with e2; simp at e2; omega)
          (by
            rcases hbb with e | e
            · exact Or.inl e
            · exact Or.inr ⟨_, e, by simp; omega⟩)
          (hC6.at HR4.out (by simp; omega))
        have y1 := MID.1.com.st.l_at
        have y2 := NL5.c6
        have y3 := MID.1.com.st.n_at
        dsimp only at y2
        have HMID := hide MID.1
        have HBKF := hide MID.2
        clear hW5 hC5 p1 p2 p3 zc zf zl cN hC6 NL5 nr5 MID
        go_wp2
        refine loop3g _ _ _ _ _ _ _ _ _ _ _ _ _ _ _ _ _ _ _ _ _ _ _ _ _ _ _ _ _ _ _ _ _ _ _ _ _ _ _ _ _ _ _ _ _ _ _ _ _ _ _ _ _ _ _ _ _ _ _ _ _ _ _ _ _ _ _ _ _ _ _ _ _ _ _ _ _ _ _ _ _ _ _ _ _ _ _ _ _ _ _ _ _ _ _ _ _ _ _ _ _ _ _ _ _ _ _ _ _ _ _ _ _ _ _ _ _ _ _ _ _ _ _ _ _ _ _ _ _ _ _ _ _ _ _ _ _ _ _ _ _ _ _ _ _ _ _ _ _ _ _ _ _ _ _ _ _ _ _ _ _ _ _ _ _ _ _ _ _ _ _ _ _ _ _ _ _ _ _ _ _ _ _ _ _ _ _ _ _ _ _ _ _ _ _ _ _ _ _ _ _ _ _ _ _ _ _ _ _ _ _ _ _ _ _ _ _ _ _ _ _ _ _ _ _ _ _ _ _ _ _ _ _ _ _ _ _ _ _ _ _ _ _ _ _ _ _ _ _ _ _ _ _ _ _ _ _ _ _ _ _ _ _ _ _ _ _ _ _ _ _ _ _ _ _ _ _ _ _ _ _ _ _ _ _ _ _ _ _ _ _ _ _ _ _ _ _ _ _ _ _ _ _ _ _ _ _ _ _ _ _ _ _ _ _ _ _ _ _ _ _ _ _ _ _ _ _ _ _ _ _ _ _ _ _ _ _ _ _ _ _ _ _ _ _ _ _ _ _ _ _ _ _ _ _ _ _ _ _ _ _ _ _ _ _ _ _ _ _ _ _ _ _ _ _ _ _ _ _ _ _ _ _ _ _ _ _ _ _ _ _ _ _ _ _ _ _ _ _ _ _ _ _ _ _ _ _ _ _ _ _ _ _ _ _ _ _ HMID.out hwi hk5 hb0 hb1 HPV.out hcl5 rfl HWT.out _ ?_
        intro q10 q29 q30 q31 q32 q33 q34 q149 q150 q151 q152 q153 q154 q155 q156 q157 q158 q159 q160 q161 q162 q163 q164 q165 q166 q167 q168 q169 q170 q171 q172 q173 q174 q175 q176 q177 q178 q179 q180 q181 q182 q183 q184 q185 q186 q187 q188 q189 q190 q191 q192 q193 q194 q195 q196 q197 q198 q199 q200 q201 q202 q203 q204 q205 q206 q207 q208 q209 q210 q211 q212 q213 q214 q215 q216 q217 q218 q219 q220 q221 q222 q223 q224 q225 q226 q227 q228 q229 q230 q231 q232 q233 q234 q235 q236 q237 q238 q239 q240 W6 nd6 f6 hM6
        have hsv := hM6.done hwi HPV.out HBKF.out
        have hfz := hsv.com.hit.fz 0
        obtain ⟨tn, htn⟩ := hsv.com.hit.cell 0 (by omega)
        have HSV := hide hsv
        clear hM6 hsv y1 y2 y3
        by_cases hk3 : k = 3
        · have e5 : ((k : Int) != 3) = false := by rw [bne_eq_false_iff_eq]; omega
          clear hk3
          go_wp2
          go_roundw
          case rel => exact ⟨j + 1, _, _, by omega, by go_num, by rw [HTK.out, ltOf_more], by rw [HTK.out]; exact HSV.out⟩
          case measure => simp [intOf]; omega
        · have e5 : ((k : Int) != 3) = true := by rw [bne_iff_ne]; omega
          clear hk3
          go_wp2
          go_region
          refine inb_world ?_
          intro W7 hW7
          have hC7 : Chg [hb] W6 W7 := by rw [hW7]; first | exact ((Chg.refl _ _).setCell (by simp) _).drewN _ | exact ((Chg.refl _ _).setCell (by simp) _).drew
          have hH7 : HitAt W7 hb := by rw [hW7]; first | exact (HSV.out.com.hit.set 0 _).drewN _ | exact (HSV.out.com.hit.set 0 _).drew
          have HSV7 := hide (HSV.out.hit hC7 hH7)
          clear hW7 hC7 hH7
          go_wp2
          go_roundw
          case rel => exact ⟨j + 1, _, _, by omega, by go_num, by rw [HTK.out, ltOf_more], by rw [HTK.out]; exact HSV7.out⟩
          case measure => simp [intOf]; omega
    · --<<E
      have hjk' : j = m := by omega
      subst hjk'
      have et : ss.take j = ss := List.take_of_length_le (by have := HSL.out; omega)
      rw [et] at hM
      rw [et]
      have HM2 := hide hM
      clear hM et
      go_wp2
      exact HX.out _ _ _ _ _ _ _ _ _ _ _ _ _ _ _ _ _ _ _ _ _ _ _ _ _ _ _ _ _ _ _ _ _ _ _ _ _ _ _ _ _ _ _ _ _ _ _ _ _ _ _ _ _ _ _ _ _ _ _ _ _ _ _ _ _ _ _ _ _ _ _ _ _ _ _ _ _ _ _ _ _ _ _ _ _ _ _ _ _ _ _ _ _ _ _ _ _ _ _ _ _ _ _ _ _ _ _ _ _ _ _ _ _ _ _ _ _ _ _ _ _ _ _ _ _ _ _ _ _ _ _ _ _ _ _ _ _ _ _ _ _ _ _ _ _ _ _ _ _ _ _ _ _ _ _ _ _ _ _ _ _ _ _ _ _ _ _ _ _ _ _ HM2.out
      -->>E
end Go.Proofs.YgdaogDoor
