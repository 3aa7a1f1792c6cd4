import Derived.Test.YgdaogDoorSvP
namespace Go.Proofs.YgdaogDoor
open Go.RowKit
theorem hide {p : Prop} (h : p) : Hid p := h
theorem Mid.skip {w0 w : World} {B k wi LB hb RB : Nat} {base pv : Int} {bk : Value} {cs : List ByteArray} {c : ByteArray} {nd : Nat → Nd} {f : Nat → Int × Int} (h : Mid w0 w B k wi LB hb RB base pv bk cs c wi nd f) :
    Mid w0 w B k wi LB hb RB base pv bk cs c (wi + 1) nd f := by
  refine ⟨h.com, fun i hi => ?_, fun i hi hw => ?_, ?_, fun i hi hw => ?_, h.rbx⟩
  · have := h.logs i hi
    have e : (i = wi ∨ i < wi + 1) ↔ (i = wi ∨ i < wi) := by omega
    simp only [e]; exact this
  · have := h.comm i hi hw
    have e : (i < wi + 1) ↔ (i < wi) := by omega
    simp only [e]; exact this
  · have := h.lcom
    unfold wantOf at *
    rw [votesTo_same]; exact this
  · have := h.fm i hi hw
    have e : (i < wi + 1) ↔ (i < wi) := by omega
    simp only [e]; exact this
theorem commitTo_want {c wt li : Int} (h1 : c ≤ wt) (h2 : wt ≤ li) : wt = commitTo c wt li := by
  unfold commitTo
  rw [if_neg (show ¬ li < wt by omega)]
  by_cases h : c < wt
  · rw [if_pos h]
  · rw [if_neg h]; omega
theorem HitAt.chg {w w' : World} {hb : Nat} {S : List Nat} (h : HitAt w hb) (hC : Chg S w w') (hs : hb ∉ S) : HitAt w' hb := by
  obtain ⟨tc, t1, t2⟩ := h
  exact ⟨tc, hC.at t1 hs, t2⟩
theorem HitAt.cell {w : World} {hb : Nat} (h : HitAt w hb) (i : Nat) (hi : i < 8) : ∃ n, w.cell? ⟨hb, i, none⟩ = some (.int .i64 n) := by
  obtain ⟨tc, t1, t2, t3⟩ := h
  obtain ⟨n, hn⟩ := t3 i hi
  exact ⟨n, (cell_of_heap t1 i).trans hn⟩
theorem HitAt.lt {w : World} {hb : Nat} (h : HitAt w hb) : hb < w.heap.size := by
  obtain ⟨tc, t1, t2⟩ := h
  exact lt_of_heap t1
theorem HitAt.fz {w : World} {hb : Nat} (h : HitAt w hb) (i : Nat) : w.frozen? ⟨hb, i, none⟩ = false := by
  obtain ⟨tc, t1, t2⟩ := h
  exact frozen_of_heap t1 i
theorem HitAt.set {w : World} {hb : Nat} (h : HitAt w hb) (i : Nat) (m : Int) : HitAt (w.setCell ⟨hb, i, none⟩ (.int .i64 m)) hb := by
  obtain ⟨tc, t1, t2, t3⟩ := h
  refine ⟨_, heap_setCell _ t1, by simpa using t2, fun x hx => ?_⟩
  rw [Array.getElem?_setIfInBounds]
  split
  · rw [if_pos (by omega)]; exact ⟨_, rfl⟩
  · exact t3 x hx
theorem HitAt.drew {w : World} {hb : Nat} (h : HitAt w hb) : HitAt w.drew hb := h
theorem HitAt.drewN {w : World} {hb : Nat} (h : HitAt w hb) (q : Nat) : HitAt (w.drewN q) hb := h
theorem HitAt.noRow {w : World} {hb : Nat} (h : HitAt w hb) (cur : Array Value) : w.heap[hb]? ≠ some (.cells cur 85 (0, 0)) := fun hg => by
  obtain ⟨tc, t1, t2⟩ := h
  rw [t1] at hg; injection hg with hg; injection hg with h2 h3; exact absurd h3 (by decide)
theorem neq87 (a b : Int) (w : World) : Sem.run Yaod.prog (binOp .neq 87 (.agg #[.int .u64 a, .int .u64 b]) (.agg #[.int .u64 a, .int .u64 b])) w = .ok (.bool false) w := by
  simp only [binOp, Op.equal, Op.maxDepth, Sem.run_bind]
  go_simp
theorem getL_put_same (l : PairL) (k : ByteArray) (v : Value) : getL (putL l k v) k = some v := by
  induction l with
  | nil => simp [putL, getL]
  | cons p r ih =>
    simp only [putL]
    by_cases h : k = p.1
    · simp [h, getL]
    · simp [h, getL, ih]
theorem ltOf_more (cs : List ByteArray) (c : ByteArray) : ltOf (cs ++ [c]) = 1 := by cases cs <;> rfl
def cellAt (w : World) (a : Addr) : Value := (w.cell? a).getD .nilIface
theorem here_of {w : World} {a : Addr} {u : Value} (h : w.cell? a = some u) : w.cell? a = some (cellAt w a) := by rw [cellAt, h]; rfl
theorem here_set {w : World} {p q : Addr} {x v : Value} (h : w.cell? q = some v) : (w.setCell p x).cell? q = some (cellAt (w.setCell p x) q) := by
  obtain ⟨v', h'⟩ := cell?_setCell_some (p := p) (x := x) h
  exact here_of h'

set_option maxRecDepth 1000000 in
set_option maxHeartbeats 8000000 in
theorem loop3 (w0 w : World) (B k wi LB hb RB : Nat) (base pv : Int) (bk : Value) (cs : List ByteArray) (c : ByteArray) (nd : Nat → Nd) (f : Nat → Int × Int)
    (c0 c1 c3 c5 c6 c7 c8 c9 c10 c16 c18 c20 c22 c23 c25 c26 c31 c32 c33 c34 c35 c36 c37 c38 c39 c40 c41 c42 c43 c44 c45 c46 c47 c48 c49 c50 c51 c52 c53 c54 c55 c56 c57 c58 c59 c60 c61 c62 c63 c64 c65 c66 c67 c68 c69 c70 c71 c72 c73 c74 c75 c76 c77 c78 c79 c80 c81 c82 c83 c84 c85 c86 c87 c88 c89 c90 c91 c92 c93 c94 c95 c96 c97 c98 c99 c100 c101 c102 c103 c104 c105 c106 c107 c108 c109 c110 c111 c112 c113 c114 c115 c116 c117 c118 c119 c120 c121 c122 c123 c124 c125 c126 c127 c128 c129 c130 c131 c132 c133 c134 c135 c136 c137 c138 c139 c140 c141 c142 c143 c144 c145 c146 c150 c151 c152 c153 c154 c155 c156 c157 c158 c159 c160 c161 c162 c163 c164 c165 c166 c167 c168 c169 c170 c171 c172 c173 c174 c175 c176 c177 c178 c179 c180 c181 c182 c183 c184 c185 c186 c187 c188 c189 c190 c191 c192 c193 c194 c195 c196 c197 c198 c199 c200 c201 c202 c203 c204 c205 c206 c207 c208 c209 c210 c211 c212 c213 c214 c215 c216 c217 c218 c219 c220 c221 c222 c223 c224 c225 c226 c227 c228 c229 c230 c231 c232 c233 c234 c235 c236 c237 c238 c239 c240 c241 c242 c243 c244 c245 c246 c247 c248 c249 c250 c251 c252 c253 c254 c255 c256 c257 c258 c259 c260 c261 c262 c263 c264 c265 c266 c267 c268 c269 c270 c271 c272 c273 c274 c275 c276 c277 c278 c279 c280 c281 c282 c283 c284 c285 c286 c287 c288 c289 c290 c291 c292 c293 c294 c295 c296 c297 c298 c299 c300 c301 c302 c303 c304 c305 c306 c307 c308 c309 c310 c311 c312 c313 c314 c315 c316 c317 c318 c319 c320 c321 c322 c323 c324 c325 c326 c327 c328 c329 c330 c331 c332 c333 c334 c335 c336 c337 c338 c339 c340 c341 c342 c343 c344 c345 c346 c347 c348 c349 c350 c351 c352 c353 c354 c355 c356 c357 c358 c359 c360 c361 c362 c363 c364 c365 c366 c367 c368 c369 c370 c371 c372 c373 c374 c375 c376 c377 c378 c379 c380 c381 c382 c383 c384 c385 c386 c387 c388 c389 c390 c391 c392 c393 c394 c395 c396 c397 c398 c399 c400 c401 c402 c403 c404 c405 c406 c407 c408 c409 c410 c411 c412 c413 c414 c415 c416 c417 : Value)
    (hMid : Mid w0 w B k wi LB hb RB base pv bk cs c 0 nd f) (hwi : wi < k) (hk5 : k ≤ 5) (hb0 : 0 ≤ base) (hb1 : base ≤ 4611686018427387903) (hpv : pv = base + cs.length) (hlen : cs.length ≤ 8796093022000)
    (Q0 : Exit → Act → World → Prop)
    (hexit : ∀ (u10 u29 u30 u31 u32 u33 u34 u149 u150 u151 u152 u153 u154 u155 u156 u157 u158 u159 u160 u161 u162 u163 u164 u165 u166 u167 u168 u169 u170 u171 u172 u173 u174 u175 u176 u177 u178 u179 u180 u181 u182 u183 u184 u185 u186 u187 u188 u189 u190 u191 u192 u193 u194 u195 u196 u197 u198 u199 u200 u201 u202 u203 u204 u205 u206 u207 u208 u209 u210 u211 u212 u213 u214 u215 u216 u217 u218 u219 u220 u221 u222 u223 u224 u225 u226 u227 u228 u229 u230 u231 u232 u233 u234 u235 u236 u237 u238 u239 u240 : Value) (w' : World) (nd' : Nat → Nd) (f' : Nat → Int × Int), Mid w0 w' B k wi LB hb RB base pv bk cs c k nd' f' →
      Q0 (.exit 4) ⟨(c0 :: c1 :: .int .u64 base :: c3 :: .pointer (some ⟨hb, 0, none⟩) :: c5 :: c6 :: c7 :: c8 :: c9 :: u10 :: .pointer (some ⟨B, 0, none⟩) :: .int .i64 k :: .pointer (some ⟨B + 1, 0, none⟩) :: .pointer (some ⟨B + 3, 0, none⟩) :: .pointer (some ⟨B + 5, 0, none⟩) :: c16 :: .pointer (some ⟨B + 6 + k, 0, none⟩) :: c18 :: .pointer (some ⟨LB, 0, none⟩) :: c20 :: .func (.func 56) #[] #[.pointer (some ⟨LB, 0, none⟩), .pointer (some ⟨B + 3, 0, none⟩), .pointer (some ⟨B + 1, 0, none⟩), .pointer (some ⟨B + 5, 0, none⟩), .pointer (some ⟨B, 0, none⟩), .pointer (some ⟨B + 6 + k, 0, none⟩)] :: c22 :: c23 :: .pointer (some ⟨RB, 0, none⟩) :: c25 :: c26 :: .int .u64 pv :: .int .u64 (ltOf cs) :: u29 :: u30 :: u31 :: u32 :: u33 :: u34 :: c35 :: c36 :: c37 :: c38 :: c39 :: c40 :: c41 :: c42 :: c43 :: c44 :: c45 :: c46 :: c47 :: c48 :: c49 :: c50 :: c51 :: c52 :: c53 :: c54 :: c55 :: c56 :: c57 :: c58 :: c59 :: c60 :: c61 :: c62 :: c63 :: c64 :: c65 :: c66 :: c67 :: c68 :: c69 :: c70 :: c71 :: c72 :: c73 :: c74 :: c75 :: c76 :: c77 :: c78 :: c79 :: c80 :: c81 :: c82 :: c83 :: c84 :: c85 :: c86 :: c87 :: c88 :: c89 :: c90 :: c91 :: c92 :: c93 :: c94 :: c95 :: c96 :: c97 :: c98 :: c99 :: c100 :: c101 :: c102 :: c103 :: c104 :: c105 :: c106 :: c107 :: c108 :: c109 :: c110 :: c111 :: c112 :: c113 :: c114 :: c115 :: c116 :: c117 :: c118 :: c119 :: c120 :: c121 :: c122 :: c123 :: c124 :: c125 :: c126 :: c127 :: c128 :: c129 :: c130 :: c131 :: c132 :: c133 :: c134 :: c135 :: c136 :: c137 :: c138 :: c139 :: c140 :: c141 :: c142 :: c143 :: c144 :: c145 :: c146 :: .slice (some ⟨B + 2, 0, none⟩) k k :: .int .i64 k :: u149 :: u150 :: u151 :: u152 :: u153 :: u154 :: u155 :: u156 :: u157 :: u158 :: u159 :: u160 :: u161 :: u162 :: u163 :: u164 :: u165 :: u166 :: u167 :: u168 :: u169 :: u170 :: u171 :: u172 :: u173 :: u174 :: u175 :: u176 :: u177 :: u178 :: u179 :: u180 :: u181 :: u182 :: u183 :: u184 :: u185 :: u186 :: u187 :: u188 :: u189 :: u190 :: u191 :: u192 :: u193 :: u194 :: u195 :: u196 :: u197 :: u198 :: u199 :: u200 :: u201 :: u202 :: u203 :: u204 :: u205 :: u206 :: u207 :: u208 :: u209 :: u210 :: u211 :: u212 :: u213 :: u214 :: u215 :: u216 :: u217 :: u218 :: u219 :: u220 :: u221 :: u222 :: u223 :: u224 :: u225 :: u226 :: u227 :: u228 :: u229 :: u230 :: u231 :: u232 :: u233 :: u234 :: u235 :: u236 :: u237 :: u238 :: u239 :: u240 :: c241 :: c242 :: c243 :: c244 :: c245 :: c246 :: c247 :: c248 :: c249 :: c250 :: c251 :: c252 :: c253 :: c254 :: c255 :: c256 :: c257 :: c258 :: c259 :: c260 :: c261 :: c262 :: c263 :: c264 :: c265 :: c266 :: c267 :: c268 :: c269 :: c270 :: c271 :: c272 :: c273 :: c274 :: c275 :: c276 :: c277 :: c278 :: c279 :: c280 :: c281 :: c282 :: c283 :: c284 :: c285 :: c286 :: c287 :: c288 :: c289 :: c290 :: c291 :: c292 :: c293 :: c294 :: c295 :: c296 :: c297 :: c298 :: c299 :: c300 :: c301 :: c302 :: c303 :: c304 :: c305 :: c306 :: c307 :: c308 :: c309 :: c310 :: c311 :: c312 :: c313 :: c314 :: c315 :: c316 :: c317 :: c318 :: c319 :: c320 :: c321 :: c322 :: c323 :: c324 :: c325 :: c326 :: c327 :: c328 :: c329 :: c330 :: c331 :: c332 :: c333 :: c334 :: c335 :: c336 :: c337 :: c338 :: c339 :: c340 :: c341 :: c342 :: c343 :: c344 :: c345 :: c346 :: c347 :: c348 :: c349 :: c350 :: c351 :: c352 :: c353 :: c354 :: c355 :: c356 :: c357 :: c358 :: c359 :: c360 :: c361 :: c362 :: c363 :: c364 :: c365 :: c366 :: c367 :: c368 :: c369 :: c370 :: c371 :: c372 :: c373 :: c374 :: c375 :: c376 :: c377 :: c378 :: c379 :: c380 :: c381 :: c382 :: c383 :: c384 :: c385 :: c386 :: c387 :: c388 :: c389 :: c390 :: c391 :: c392 :: c393 :: c394 :: c395 :: c396 :: c397 :: c398 :: c399 :: c400 :: c401 :: c402 :: c403 :: c404 :: c405 :: c406 :: c407 :: c408 :: c409 :: c410 :: c411 :: c412 :: c413 :: c414 :: c415 :: c416 :: c417 :: []).toArray, []⟩ w') :
    Code.wp Yaod.prog (Code.loop (loopOf (some (loopOf Yaod.f12.body 1)) 0)) Q0 ⟨(c0 :: c1 :: .int .u64 base :: c3 :: .pointer (some ⟨hb, 0, none⟩) :: c5 :: c6 :: c7 :: c8 :: c9 :: c10 :: .pointer (some ⟨B, 0, none⟩) :: .int .i64 k :: .pointer (some ⟨B + 1, 0, none⟩) :: .pointer (some ⟨B + 3, 0, none⟩) :: .pointer (some ⟨B + 5, 0, none⟩) :: c16 :: .pointer (some ⟨B + 6 + k, 0, none⟩) :: c18 :: .pointer (some ⟨LB, 0, none⟩) :: c20 :: .func (.func 56) #[] #[.pointer (some ⟨LB, 0, none⟩), .pointer (some ⟨B + 3, 0, none⟩), .pointer (some ⟨B + 1, 0, none⟩), .pointer (some ⟨B + 5, 0, none⟩), .pointer (some ⟨B, 0, none⟩), .pointer (some ⟨B + 6 + k, 0, none⟩)] :: c22 :: c23 :: .pointer (some ⟨RB, 0, none⟩) :: c25 :: c26 :: .int .u64 pv :: .int .u64 (ltOf cs) :: .int .i64 (votesTo wi 0) :: .int .u64 (wantOf k wi 0 pv) :: c31 :: c32 :: c33 :: c34 :: c35 :: c36 :: c37 :: c38 :: c39 :: c40 :: c41 :: c42 :: c43 :: c44 :: c45 :: c46 :: c47 :: c48 :: c49 :: c50 :: c51 :: c52 :: c53 :: c54 :: c55 :: c56 :: c57 :: c58 :: c59 :: c60 :: c61 :: c62 :: c63 :: c64 :: c65 :: c66 :: c67 :: c68 :: c69 :: c70 :: c71 :: c72 :: c73 :: c74 :: c75 :: c76 :: c77 :: c78 :: c79 :: c80 :: c81 :: c82 :: c83 :: c84 :: c85 :: c86 :: c87 :: c88 :: c89 :: c90 :: c91 :: c92 :: c93 :: c94 :: c95 :: c96 :: c97 :: c98 :: c99 :: c100 :: c101 :: c102 :: c103 :: c104 :: c105 :: c106 :: c107 :: c108 :: c109 :: c110 :: c111 :: c112 :: c113 :: c114 :: c115 :: c116 :: c117 :: c118 :: c119 :: c120 :: c121 :: c122 :: c123 :: c124 :: c125 :: c126 :: c127 :: c128 :: c129 :: c130 :: c131 :: c132 :: c133 :: c134 :: c135 :: c136 :: c137 :: c138 :: c139 :: c140 :: c141 :: c142 :: c143 :: c144 :: c145 :: c146 :: .slice (some ⟨B + 2, 0, none⟩) k k :: .int .i64 k :: .int .i64 0 :: c150 :: c151 :: c152 :: c153 :: c154 :: c155 :: c156 :: c157 :: c158 :: c159 :: c160 :: c161 :: c162 :: c163 :: c164 :: c165 :: c166 :: c167 :: c168 :: c169 :: c170 :: c171 :: c172 :: c173 :: c174 :: c175 :: c176 :: c177 :: c178 :: c179 :: c180 :: c181 :: c182 :: c183 :: c184 :: c185 :: c186 :: c187 :: c188 :: c189 :: c190 :: c191 :: c192 :: c193 :: c194 :: c195 :: c196 :: c197 :: c198 :: c199 :: c200 :: c201 :: c202 :: c203 :: c204 :: c205 :: c206 :: c207 :: c208 :: c209 :: c210 :: c211 :: c212 :: c213 :: c214 :: c215 :: c216 :: c217 :: c218 :: c219 :: c220 :: c221 :: c222 :: c223 :: c224 :: c225 :: c226 :: c227 :: c228 :: c229 :: c230 :: c231 :: c232 :: c233 :: c234 :: c235 :: c236 :: c237 :: c238 :: c239 :: c240 :: c241 :: c242 :: c243 :: c244 :: c245 :: c246 :: c247 :: c248 :: c249 :: c250 :: c251 :: c252 :: c253 :: c254 :: c255 :: c256 :: c257 :: c258 :: c259 :: c260 :: c261 :: c262 :: c263 :: c264 :: c265 :: c266 :: c267 :: c268 :: c269 :: c270 :: c271 :: c272 :: c273 :: c274 :: c275 :: c276 :: c277 :: c278 :: c279 :: c280 :: c281 :: c282 :: c283 :: c284 :: c285 :: c286 :: c287 :: c288 :: c289 :: c290 :: c291 :: c292 :: c293 :: c294 :: c295 :: c296 :: c297 :: c298 :: c299 :: c300 :: c301 :: c302 :: c303 :: c304 :: c305 :: c306 :: c307 :: c308 :: c309 :: c310 :: c311 :: c312 :: c313 :: c314 :: c315 :: c316 :: c317 :: c318 :: c319 :: c320 :: c321 :: c322 :: c323 :: c324 :: c325 :: c326 :: c327 :: c328 :: c329 :: c330 :: c331 :: c332 :: c333 :: c334 :: c335 :: c336 :: c337 :: c338 :: c339 :: c340 :: c341 :: c342 :: c343 :: c344 :: c345 :: c346 :: c347 :: c348 :: c349 :: c350 :: c351 :: c352 :: c353 :: c354 :: c355 :: c356 :: c357 :: c358 :: c359 :: c360 :: c361 :: c362 :: c363 :: c364 :: c365 :: c366 :: c367 :: c368 :: c369 :: c370 :: c371 :: c372 :: c373 :: c374 :: c375 :: c376 :: c377 :: c378 :: c379 :: c380 :: c381 :: c382 :: c383 :: c384 :: c385 :: c386 :: c387 :: c388 :: c389 :: c390 :: c391 :: c392 :: c393 :: c394 :: c395 :: c396 :: c397 :: c398 :: c399 :: c400 :: c401 :: c402 :: c403 :: c404 :: c405 :: c406 :: c407 :: c408 :: c409 :: c410 :: c411 :: c412 :: c413 :: c414 :: c415 :: c416 :: c417 :: []).toArray, []⟩ w := by
  conv => arg 2; arg 1; whnf
  have HX := hide hexit
  have HM : Hid (Mid w0 w B k wi LB hb RB base pv bk cs c 0 nd f) := hMid
  have HPV : Hid (pv = base + cs.length) := hpv
  clear hexit hMid hpv
  go_loopw [149, 29, 30] (fun i ak wt wr => ∃ (j : Nat) (nd : Nat → Nd) (f : Nat → Int × Int), j ≤ k ∧ i = .int .i64 j ∧ ak = .int .i64 (votesTo wi j) ∧ wt = .int .u64 (wantOf k wi j pv) ∧ Mid w0 wr B k wi LB hb RB base pv bk cs c j nd f) (fun i _ _ _ => k - (intOf i).toNat)
  case atStart => exact ⟨0, nd, f, Nat.zero_le _, rfl, rfl, rfl, HM.out⟩
  case round =>
    obtain ⟨j, nd, f, hj, rfl, rfl, rfl, hM⟩ := hrel
    clear HM
    by_cases hjk : j < k
    · have hSr := hM.com.st
      have hrw := hSr.row_at j hjk
      have hwr := hSr.w_at
      by_cases hjw : j = wi
      · --<<S
        have e1 : ((j : Int) == (wi : Int)) = true := by rw [beq_iff_eq]; omega
        have R : Mid w0 wr B k wi LB hb RB base pv bk cs c (j + 1) nd f := by subst hjw; exact hM.skip
        have R3 : votesTo wi (j + 1) = votesTo wi j := by subst hjw; exact votesTo_same j
        have HR := hide R
        have HR3 := hide R3
        clear R R3 hM hSr hjw HX
        go_wp2
        go_roundw
        case rel => exact ⟨j + 1, nd, f, by omega, by go_num, by rw [HR3.out], by unfold wantOf; rw [HR3.out], HR.out⟩
        case measure => simp [intOf]; omega
        -->>S
      · have e1 : ((j : Int) == (wi : Int)) = false := by rw [beq_eq_false_iff_ne]; omega
        have hNj := hM.com.nodes j hjk
        have c6 := hNj.c6
        have hid := hSr.id_at wi (by omega)
        have hr0 : wr.cell? ⟨RB, 0, none⟩ = some (.int .u64 1) := cell_of_heap hM.rbx 0
        have hr1 : wr.cell? ⟨RB, 1, none⟩ = some (.string c) := cell_of_heap hM.rbx 1
        clear HX
        have hok := hM.com.ok j hjk
        rw [if_neg hjw] at hok
        have hLj : LogIs wr (nd j).recs cs := by
          have := hM.logs j hjk
          rw [if_neg (by omega)] at this; exact this
        have hcj := hM.comm j hjk hjw
        rw [if_neg (by omega)] at hcj
        have hwg := wantOf_ge k wi j pv
        have hsz := lt_of_heap hM.com.st.lv
        have cS : ∀ q, Calls Yaod.prog 13 #[.pointer (some ⟨B + 6 + j, 0, none⟩), .iface 89 (.agg #[.int .u64 1, .string (idb wi), .int .u64 pv, .int .u64 (ltOf cs), .slice (some ⟨wr.heap.size, 0, none⟩) 1 1, .int .u64 (wantOf k wi j pv)])]
            ((wr.alloc (.cells #[.int .u64 1, .string c] 85)).drewN q) fun e w' =>
              e = .returned (.iface 71 (.agg #[.int .u64 1, .bool true, .int .u64 0, .int .u64 0])) ∧ Chg [B + 6 + j] ((wr.alloc (.cells #[.int .u64 1, .string c] 85)).drewN q) w' ∧
              ∃ v', NodeAt w' (B + 6 + j) { nd j with role := 0, commit := wantOf k wi j pv, recs := v' } ∧ LogIs w' v' (cs ++ [c]) ∧ ∃ g, v'.ownBlock = some g ∧ ((wr.alloc (.cells #[.int .u64 1, .string c] 85)).drewN q).heap.size ≤ g := fun q => by
          have h := step_append_one (B + 6 + j) (nd j) cs (idb wi) (wantOf k wi j pv) (wantOf k wi j pv) ((wr.alloc (.cells #[.int .u64 1, .string c] 85)).drewN q) wr.heap.size 1 c ((hNj.alloc _).drewN q) ((hLj.alloc _).drewN q)
            (cell_of_heap (heap_alloc_at wr _) 0) (cell_of_heap (heap_alloc_at wr _) 1) (by rw [hok.snap]; exact hb0) (by rw [hok.snap]; exact hb1) (by omega) (by rw [hok.snap, ← HPV.out]; exact commitTo_want (by omega) (by omega))
          rw [hok.snap, ← HPV.out, hok.term] at h
          have e : ({ nd j with role := 0, commit := wantOf k wi j pv } : Nd) = { nd j with role := 0, commit := wantOf k wi j pv, snap := base, term := 1 } := by rw [← hok.snap, ← hok.term]
          refine h.mono ?_
          rintro e w' ⟨h1, h2, v', h3, h4⟩
          refine ⟨h1, h2, v', ?_, h4⟩
          rw [← hok.snap, ← hok.term] at h3
          exact h3
        have hRB : RB ≠ B + 6 + j := fun e => by have h1 := hM.rbx; rw [e] at h1; exact hNj.noRow _ h1
        have HM := hide hM
        have HLJ := hide hLj
        have HOK := hide hok
        clear hM hSr hNj hLj hok
        generalize hwt : wantOf k wi j pv = wt at *
        have HWT := hide hwt
        clear hwt
        generalize hak : votesTo wi j = ak at *
        have HAK := hide hak
        clear hak
        have s0 : B < wr.heap.size := by omega
        have s1 : B + 1 < wr.heap.size := by omega
        have s2 : RB < wr.heap.size := World.block_lt_of_cell? _ _ hr0
        have s6 : B + 6 + j < wr.heap.size := by omega
        have hw5 : (wi : Int) < 5 := by omega
        have hj5 : (j : Int) < 5 := by omega
        go_wp2
        go_region_held3 (fun w' => w'.cell? ⟨B + 1, 0, none⟩ = some (.int .i64 wi) ∧ w'.cell? ⟨B, wi, none⟩ = some (.string (idb wi)) ∧ w'.cell? ⟨RB, 0, none⟩ = some (.int .u64 1) ∧ w'.cell? ⟨RB, 1, none⟩ = some (.string c)) (go_keep)
          (first | (go_at_call 13; refine (cS _).mono ?_; rintro e w1 ⟨rfl, hC1, v', hN1, hL1, g, hg, hgs⟩; have p1 := hC1.cell (p := ⟨B + 1, 0, none⟩) (by simp; omega) (by simp; omega); have p2 := hC1.cell (p := ⟨B, wi, none⟩) (by simp; omega) (by simp; omega); have p3 := hC1.cell (p := ⟨RB, 0, none⟩) (by simp; omega) (by simp; exact hRB); have p4 := hC1.cell (p := ⟨RB, 1, none⟩) (by simp; omega) (by simp; exact hRB)))
        have hC1' : Chg [B + 6 + j, B + 6 + wi, B + 4, hb] wr w1 := ((Chg.refl _ _).alloc _).trans (hC1.undrewN.mono (by simp))
        have hgs' : wr.heap.size ≤ g := by simp at hgs; omega
        have hSw : ∀ W, Chg [B + 6 + j, B + 6 + wi, B + 4, hb] wr W → Stat W B k wi := fun W hW => HM.out.com.st.chg hW (by
          have := HM.out.com.hitb
          intro x hx; simp only [List.mem_cons, List.not_mem_nil, or_false] at hx; omega)
        have NL1 : NodeAt w1 (B + 6 + wi) (nd wi) := ((HM.out.com.nodes wi hwi).alloc _).chg hC1.undrewN (by simp; omega)
        have PM1 : MapIs w1 (B + 4) (peersL wi k f) := (HM.out.com.pm.alloc _).chg hC1.undrewN (by simp; omega)
        have HT1 : HitAt w1 hb := by
          obtain ⟨tc, t1, t2⟩ := HM.out.com.hit
          exact ⟨tc, hC1.undrewN.at (heap_alloc_lt t1) (by have := HM.out.com.hitb; simp; omega), t2⟩
        have HSW := hide hSw
        clear hSw hC1 p1 p2 p3 p4 cS hrw hwr c6 hid hr0 hr1
        have okw := HM.out.com.ok wi hwi
        rw [if_pos rfl] at okw
        have cA := step_areply_low (B + 6 + wi) (nd wi) 1 true 0 0 w1 NL1 (by rw [okw.term]; omega)
        have d6 := hN1.c6
        have dl := (HSW.out w1 hC1').l_at
        dsimp only at d6
        have hna := neq_arep
        have hn6 := neq_nil63
        have HOW := hide okw
        clear okw
        go_wp2_with (first | (go_at_call 13; refine cA.mono ?_; rintro e w2 ⟨rfl, hC2⟩))
        --<<R
        all_goals have HT2 : HitAt w2 hb := HT1.chg hC2 (by simp)
        all_goals have hfz := HT2.fz 1
        all_goals obtain ⟨tn, htn⟩ := HT2.cell 1 (by omega)
        all_goals have HT2' := hide HT2
        all_goals clear HT2
        focus (go_region; go_wp2)
        all_goals (refine wp_world ?_; intro W hW)
        all_goals have hCh : Chg [hb] w1 W := by rw [hW]; first | exact hC2.mono (by simp) | exact ((hC2.mono (by simp)).setCell (by simp) _).drewN _ | exact ((hC2.mono (by simp)).setCell (by simp) _).drew
        all_goals have HTW : HitAt W hb := by rw [hW]; first | exact HT2'.out | exact (HT2'.out.set 1 _).drewN _ | exact (HT2'.out.set 1 _).drew
        all_goals clear hW
        all_goals (
          have hhb := HM.out.com.hitb
          have hlbg := HM.out.com.lbg
          have NJ : NodeAt W (B + 6 + j) { nd j with role := 0, commit := wt, recs := v' } := hN1.chg hCh (by simp; omega)
          have LJ : LogIs W v' (cs ++ [c]) := hL1.chg hCh (fun g cur _ hx hm => by simp at hm; subst hm; exact HT1.noRow cur hx)
          have NL : NodeAt W (B + 6 + wi) (nd wi) := NL1.chg hCh (by simp; omega)
          have PM : MapIs W (B + 4) (peersL wi k f) := PM1.chg hCh (by simp; omega)
          have hCW : Chg [B + 6 + j, B + 6 + wi, B + 4, hb] wr W := hC1'.trans (hCh.mono (by simp))
          have cU : ∀ q lp, Calls Yaod.prog 14 #[.map (some (B + 4)), .string (idb j), lp, .int .u64 pv, .int .u64 1, .agg #[.int .u64 1, .bool true, .int .u64 0, .int .u64 0]] (W.drewN q) fun e w' =>
              e = .returned (.bool true) ∧ MapIs w' (B + 4) (putL (peersL wi k f) (idb j) (.agg #[.int .u64 (pv + 1), .int .u64 (pv + 1 + 1)])) ∧ Chg [B + 4] (W.drewN q) w' := fun q lp =>
            update_ok (B + 4) _ (idb j) lp _ _ pv (W.drewN q) (PM.drewN q) (getL_peers wi k f j hjk hjw hk5) (by have := HPV.out; omega) (by have := HPV.out; omega)
          have HNJ := hide NJ
          have HPM := hide PM
          have HLJ2 := hide LJ
          have HNL := hide NL
          have HCW := hide hCW
          have HTW' := hide HTW
          have hWs := hCW.size
          have g5 := (HSW.out W hCW).p_at
          have gi := (HSW.out W hCW).id_at j (by omega)
          have gl := (HSW.out W hCW).l_at
          have gL : W.cell? ⟨LB, 0, none⟩ = some (.int .u64 (pv + 1)) := cell_of_heap (hCW.at HM.out.com.lb (by simp; omega)) 0
          have hsLB : LB < wr.heap.size := lt_of_heap HM.out.com.lb
          have pvb : pv < 4611700000000000000 := by have := HPV.out; omega
          have pv0 : 0 ≤ pv := by have := HPV.out; omega
          have t5 : B + 5 < W.heap.size := by omega
          have t0 : B < W.heap.size := by omega
          have tl : B + 6 + k < W.heap.size := by omega
          have tL : LB < W.heap.size := by omega
          clear NJ LJ NL PM hCW HTW hCh hC2 htn hfz hC1' hN1 hL1 NL1 PM1 d6 dl cA hna hn6 HT1 
          go_region_held3 (fun w' => w'.cell? ⟨B + 5, 0, none⟩ = some (.map (some (B + 4))) ∧ w'.cell? ⟨B, j, none⟩ = some (.string (idb j)) ∧ w'.cell? ⟨B + 6 + k, 0, none⟩ = some (.pointer (some ⟨B + 6 + wi, 0, none⟩))) (go_keep)
            (first | (go_at_call 14; refine (cU _ _).mono ?_; rintro e w3 ⟨rfl, hM3, hC3⟩; have p1 := hC3.cell (p := ⟨B + 5, 0, none⟩) (by simp; omega) (by simp); have p2 := hC3.cell (p := ⟨B, j, none⟩) (by simp; omega) (by simp); have p3 := hC3.cell (p := ⟨B + 6 + k, 0, none⟩) (by simp; omega) (by simp; omega)))
          have hC3' : Chg [B + 4] W w3 := hC3.undrewN
          have hC4 : Chg [B + 6 + j, B + 6 + wi, B + 4, hb] wr w3 := HCW.out.trans (hC3'.mono (by simp))
          have q5 := (HSW.out w3 hC4).p_at
          have qi := (HSW.out w3 hC4).id_at j (by omega)
          have ql := (HSW.out w3 hC4).l_at
          have qL : w3.cell? ⟨LB, 0, none⟩ = some (.int .u64 (pv + 1)) := cell_of_heap (hC4.at HM.out.com.lb (by simp; omega)) 0
          have NL3 : NodeAt w3 (B + 6 + wi) (nd wi) := HNL.out.chg hC3' (by simp; omega)
          have NJ3 := HNJ.out.chg hC3' (by simp; omega)
          have LW0 : LogIs wr (nd wi).recs (cs ++ [c]) := by have := HM.out.logs wi hwi; rw [if_pos (Or.inl rfl)] at this; exact this
          have nr := HM.out.com.noRow hjk hwi
          have LW3 : LogIs w3 (nd wi).recs (cs ++ [c]) := LW0.chg hC4 (fun g cur _ hx => nr g cur hx)
          have hM3' := hM3
          rw [show (Value.agg #[.int .u64 (pv + 1), .int .u64 (pv + 1 + 1)]) = progV (pv + 1, pv + 1 + 1) from rfl, putL_peers wi k f j _ hjk hjw hk5] at hM3'
          have hlook := fun q => run_lookup_l (P := Yaod.prog) (mty := 74) (kt := 9) (et := 87) (by kernel_rfl) (by kernel_rfl) (hM3.drewN q) (idb j) _ (getL_put_same _ _ _) false
          simp only [Bool.false_eq_true, if_false] at hlook
          have hn87 := neq87
          have hvm := votesTo_more wi j hjw
          have hvl := votesTo_le wi (j + 1) k (by omega) hwi
          rw [hvm, HAK.out] at hvl
          have wpv : IntKind.u64.wrap (pv + 1 + 1) = pv + 1 + 1 := wrap_u64_of _ (by omega) (by omega)
          have lt1 : ltOf (cs ++ [c]) = 1 := ltOf_more cs c
          have mxl := mx_le base cs hb0
          have okw2 := HOW.out
          have hlc := HM.out.lcom
          rw [HWT.out] at hlc
          have hfm := HM.out.fm
          have hwt2 := wantOf_ge k wi j pv
          rw [HWT.out] at hwt2
          obtain ⟨wt', hwt'⟩ : ∃ x, x = wantOf k wi (j + 1) pv := ⟨_, rfl⟩
          have cN : ∀ q, Calls Yaod.prog 56 #[.pointer (some ⟨LB, 0, none⟩), .pointer (some ⟨B + 3, 0, none⟩), .pointer (some ⟨B + 1, 0, none⟩), .pointer (some ⟨B + 5, 0, none⟩), .pointer (some ⟨B, 0, none⟩), .pointer (some ⟨B + 6 + k, 0, none⟩)] (w3.drewN q)
              fun e w' => e = .returned (.int .u64 wt') ∧ Chg [] (w3.drewN q) w' := fun q => by
            refine count_any B k wi LB (votesTo wi (j + 1)) (nd wi) (cs ++ [c]) _ (mx base cs) (pv + 1) wt' (w3.drewN q) ((HSW.out w3 hC4).drewN q) (hM3'.drewN q) qL (NL3.drewN q) (LW3.drewN q) hwi hk5
              (by rw [okw2.snap]; exact hb0) (by rw [okw2.snap]; exact hb1) (by simp; omega) lt1 (by rw [okw2.snap, HPV.out]; simp; omega) (fun i hi hiw => ?_) (by have := HPV.out; omega) (by have := HPV.out; omega) (by omega) (count_ms wi k (j + 1) (pv + 1) (mx base cs) _ (by have := HPV.out; omega) (by omega) (fun i hi hiw => ?_)) ?_
            · by_cases hij : i = j
              · rw [if_pos hij]; exact Or.inl rfl
              · rw [if_neg hij, hfm i hi hiw]; split
                · exact Or.inl rfl
                · exact Or.inr rfl
            · by_cases hij : i = j
              · rw [if_pos hij, if_pos (by omega)]
              · rw [if_neg hij, hfm i hi hiw]
                by_cases h2 : i < j
                · rw [if_pos h2, if_pos (by omega)]
                · rw [if_neg h2, if_neg (by omega)]
            · refine hide ?_
              rw [hwt', hlc, ← HWT.out]
              unfold wantOf
              by_cases h1 : k < 2 * votesTo wi (j + 1)
              · rw [if_pos h1, if_pos h1]
              · rw [if_neg h1, if_neg h1, if_neg (by omega)]
          have HW' := hide hwt'
          have HC4 := hide hC4
          have HC3' := hide hC3'
          have HNJ3 := hide NJ3
          have HLJ3 := hide (HLJ2.out.chg hC3' (fun g cur _ hx hm => by simp at hm; subst hm; exact HPM.out.noRow cur hx))
          have HHT3 := hide (HTW'.out.chg hC3' (by simp; omega))
          have HNL3 := hide NL3
          have HM3 := hide hM3
          have zc := here_of NL3.c6
          have hkw : ¬ k = wi := by omega
          have hwk : ¬ wi = k := by omega
          have zd1 : ∀ (w : World) (a : Addr), cellAt w.drew a = cellAt w a := fun _ _ => rfl
          have zd2 : ∀ (w : World) (q : Nat) (a : Addr), cellAt (w.drewN q) a = cellAt w a := fun _ _ _ => rfl
          have zf := NL3.fz 6
          have zs := lt_of_heap NL3
          have tl3 := World.block_lt_of_cell? _ _ ql
          clear hM3 hM3' hC4 hC3 hC3' NJ3 NL3 LW0 LW3 nr hvm hlc hfm okw2 p1 p2 p3 g5 gi gl gL cU
          by_cases hmaj : (k : Int) < 2 * ((ak : Int) + 1)
          · have e4 : wt' = pv + 1 := by rw [hwt']; unfold wantOf; rw [if_pos (by rw [votesTo_more wi j hjw, HAK.out]; omega)]
            clear hwt'
            subst e4
            go_wp2
            go_quiet (fail)
            go_wp2
            go_region_held3 (fun w' => w'.cell? ⟨B + 6 + k, 0, none⟩ = some (.pointer (some ⟨B + 6 + wi, 0, none⟩)) ∧ w'.cell? ⟨B + 6 + wi, 6, none⟩ = some (cellAt w' ⟨B + 6 + wi, 6, none⟩) ∧ w'.frozen? ⟨B + 6 + wi, 6, none⟩ = false) (((try dsimp only); (repeat' apply And.intro) <;> first | (go_keep; done) | exact here_set (v := cellAt _ _) (by assumption)))
              (first | (go_at_call 56; refine (cN _).mono ?_; rintro e w4 ⟨rfl, hC5⟩; have p1 := hC5.cell (p := ⟨B + 6 + k, 0, none⟩) (by simp; omega) (by simp); have p2 := here_of ((HNL3.out.chg hC5.undrewN (by simp)).c6); have p3 := (HNL3.out.chg hC5.undrewN (by simp)).fz 6))
            refine then_world ?_
            intro W5 hW5
            have NL5 : NodeAt W5 (B + 6 + wi) { nd wi with commit := (pv + 1) } := by rw [hW5]; first | exact (HNL3.out.chg hC5.undrewN (by simp)).commit _ | exact ((HNL3.out.chg hC5.undrewN (by simp)).commit _).drewN _
            have hC6 : Chg [B + 6 + wi] w3 W5 := by rw [hW5]; first | exact (hC5.undrewN.mono (by simp)).setCell (by simp) _ | exact ((hC5.undrewN.mono (by simp)).setCell (by simp) _).drewN _
            have hC7 : Chg [B + 6 + j, B + 6 + wi, B + 4, hb] wr W5 := HC4.out.trans (hC6.mono (by simp))
            have y1 := (HSW.out W5 hC7).l_at
            have y2 := NL5.c6
            dsimp only at y2
            have FIN := hide (HM.out.next hjk hjw hwi hk5 hC7 v' (by rw [HWT.out]; exact HNJ3.out.chg hC6 (by simp; omega)) (HLJ3.out.chg hC6 (fun g cur _ hx hm => by simp at hm; subst hm; exact HNL3.out.noRow cur hx)) ⟨g, hg, hgs'⟩ (by rw [← HW'.out]; exact NL5) (HM3.out.chg hC6 (by simp; omega)) (HHT3.out.chg hC6 (by simp; omega)))
            clear hW5 hC5 p1 p2 p3 zc zf ql qL qi q5 cN hC6 hC7 NL5
            go_wp2
            go_roundw
            case rel => exact ⟨j + 1, _, _, by omega, by go_num, by rw [votesTo_more wi j hjw, HAK.out]; go_num, by rw [← HW'.out], FIN.out⟩
            case measure => simp [intOf]; omega
          · have e4 : wt' = wt := by rw [hwt', ← HWT.out]; unfold wantOf; rw [if_neg (by rw [votesTo_more wi j hjw, HAK.out]; omega), if_neg (by rw [HAK.out]; omega)]
            clear hwt'
            subst e4
            go_wp2
            go_quiet (fail)
            go_wp2
            go_region_held3 (fun w' => w'.cell? ⟨B + 6 + k, 0, none⟩ = some (.pointer (some ⟨B + 6 + wi, 0, none⟩)) ∧ w'.cell? ⟨B + 6 + wi, 6, none⟩ = some (cellAt w' ⟨B + 6 + wi, 6, none⟩) ∧ w'.frozen? ⟨B + 6 + wi, 6, none⟩ = false) (((try dsimp only); (repeat' apply And.intro) <;> first | (go_keep; done) | exact here_set (v := cellAt _ _) (by assumption)))
              (first | (go_at_call 56; refine (cN _).mono ?_; rintro e w4 ⟨rfl, hC5⟩; have p1 := hC5.cell (p := ⟨B + 6 + k, 0, none⟩) (by simp; omega) (by simp); have p2 := here_of ((HNL3.out.chg hC5.undrewN (by simp)).c6); have p3 := (HNL3.out.chg hC5.undrewN (by simp)).fz 6))
            refine then_world ?_
            intro W5 hW5
            have NL5 : NodeAt W5 (B + 6 + wi) { nd wi with commit := wt' } := by rw [hW5]; first | exact (HNL3.out.chg hC5.undrewN (by simp)).commit _ | exact ((HNL3.out.chg hC5.undrewN (by simp)).commit _).drewN _
            have hC6 : Chg [B + 6 + wi] w3 W5 := by rw [hW5]; first | exact (hC5.undrewN.mono (by simp)).setCell (by simp) _ | exact ((hC5.undrewN.mono (by simp)).setCell (by simp) _).drewN _
            have hC7 : Chg [B + 6 + j, B + 6 + wi, B + 4, hb] wr W5 := HC4.out.trans (hC6.mono (by simp))
            have y1 := (HSW.out W5 hC7).l_at
            have y2 := NL5.c6
            dsimp only at y2
            have FIN := hide (HM.out.next hjk hjw hwi hk5 hC7 v' (by rw [HWT.out]; exact HNJ3.out.chg hC6 (by simp; omega)) (HLJ3.out.chg hC6 (fun g cur _ hx hm => by simp at hm; subst hm; exact HNL3.out.noRow cur hx)) ⟨g, hg, hgs'⟩ (by rw [← HW'.out]; exact NL5) (HM3.out.chg hC6 (by simp; omega)) (HHT3.out.chg hC6 (by simp; omega)))
            clear hW5 hC5 p1 p2 p3 zc zf ql qL qi q5 cN hC6 hC7 NL5
            go_wp2
            go_roundw
            case rel => exact ⟨j + 1, _, _, by omega, by go_num, by rw [votesTo_more wi j hjw, HAK.out]; go_num, by rw [← HW'.out], FIN.out⟩
            case measure => simp [intOf]; omega
            )
        -->>R
    · --<<E
      have hjk' : j = k := by omega
      subst hjk'
      have HM2 : Hid (Mid w0 wr B j wi LB hb RB base pv bk cs c j nd f) := hM
      clear hM
      go_wp2
      exact HX.out _ _ _ _ _ _ _ _ _ _ _ _ _ _ _ _ _ _ _ _ _ _ _ _ _ _ _ _ _ _ _ _ _ _ _ _ _ _ _ _ _ _ _ _ _ _ _ _ _ _ _ _ _ _ _ _ _ _ _ _ _ _ _ _ _ _ _ _ _ _ _ _ _ _ _ _ _ _ _ _ _ _ _ _ _ _ _ _ _ _ _ _ _ _ _ _ _ _ _ _ _ _ HM2.out
      -->>E
end Go.Proofs.YgdaogDoor
