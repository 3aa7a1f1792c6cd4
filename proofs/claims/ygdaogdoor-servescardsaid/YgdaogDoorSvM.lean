/-
  MAPS KEYED BY STRINGS, told by a plain list of pairs: what an update and a look-up make of it.
-/
import Derived.Test.YgdaogDoorSvA
namespace Go.Proofs.YgdaogDoor
open Go.RowKit

def setB (w : World) (b : Nat) (o : Obj) : World := { w with heap := w.heap.setIfInBounds b o }

theorem heap_setB {w : World} {b : Nat} (o : Obj) (h : b < w.heap.size) : (setB w b o).heap[b]? = some o := by simp [setB, h]
theorem heap_setB_ne {w : World} {b j : Nat} (o : Obj) (h : j ≠ b) : (setB w b o).heap[j]? = w.heap[j]? := by
  simp only [setB]; rw [Array.getElem?_setIfInBounds_ne (fun e => h e.symm)]
theorem size_setB (w : World) (b : Nat) (o : Obj) : (setB w b o).heap.size = w.heap.size := by simp [setB]
theorem Chg.setB {S : List Nat} {a w : World} (h : Chg S a w) {b : Nat} (hp : b ∈ S ∨ a.heap.size ≤ b) (o : Obj) : Chg S a (setB w b o) :=
  ⟨h.os, h.tape, h.output, by rw [size_setB]; exact h.size, fun j hj hs => by
    rw [heap_setB_ne _ (fun e => by subst e; rcases hp with hp | hp; exact hs hp; omega)]; exact h.block j hj hs⟩

theorem cell?_setB_far (w : World) (b : Nat) (o : Obj) (p : Addr) (h : p.block ≠ b) : (setB w b o).cell? p = w.cell? p :=
  World.cell?_of_block (w := w) (heap_setB_ne o h)
theorem frozen?_setB_far (w : World) (b : Nat) (o : Obj) (p : Addr) (h : p.block ≠ b) : (setB w b o).frozen? p = w.frozen? p :=
  World.frozen?_of_block (w := w) (heap_setB_ne o h)
theorem setB_drewN (w : World) (q b : Nat) (o : Obj) : setB (w.drewN q) b o = (setB w b o).drewN q := rfl
theorem setB_drew (w : World) (b : Nat) (o : Obj) : setB w.drew b o = (setB w b o).drew := rfl
theorem NodeAt.setB {w : World} {b : Nat} {n : Nd} (h : NodeAt w b n) {m : Nat} (hp : b ≠ m) (o : Obj) : NodeAt (setB w m o) b n := by
  unfold NodeAt; rw [heap_setB_ne _ hp]; exact h

abbrev PairL := List (ByteArray × Value)

def MapIs (w : World) (b : Nat) (l : PairL) : Prop :=
  ∃ es clock, w.heap[b]? = some (.map es clock) ∧ es.toList.map (fun e => (e.key, e.val)) = l.map (fun p => (Value.string p.1, p.2))

theorem MapIs.lt {w : World} {b : Nat} {l : PairL} (h : MapIs w b l) : b < w.heap.size := by
  obtain ⟨es, c, h1, _⟩ := h; exact lt_of_heap h1
theorem MapIs.of_heap {w w' : World} {b : Nat} {l : PairL} (h : MapIs w b l) (hh : w'.heap[b]? = w.heap[b]?) : MapIs w' b l := by
  obtain ⟨es, c, h1, h2⟩ := h; exact ⟨es, c, by rw [hh]; exact h1, h2⟩
theorem MapIs.chg {S : List Nat} {w w' : World} {b : Nat} {l : PairL} (h : MapIs w b l) (hc : Chg S w w') (hs : b ∉ S) : MapIs w' b l :=
  h.of_heap (hc.block b h.lt hs)
theorem MapIs.alloc {w : World} {b : Nat} {l : PairL} (h : MapIs w b l) (o : Obj) : MapIs (w.alloc o) b l := h.of_heap (Below.heap_alloc _ _ _ h.lt)
theorem MapIs.drew {w : World} {b : Nat} {l : PairL} (h : MapIs w b l) : MapIs w.drew b l := h
theorem MapIs.drewN {w : World} {b : Nat} {l : PairL} (h : MapIs w b l) (n : Nat) : MapIs (w.drewN n) b l := h
theorem MapIs.made (w : World) : MapIs (w.alloc (.map #[] 0)) w.heap.size [] := ⟨#[], 0, heap_alloc_at _ _, rfl⟩

def putL : PairL → ByteArray → Value → PairL
  | [], k, v => [(k, v)]
  | p :: r, k, v => if k = p.1 then (k, v) :: r else p :: putL r k v
def getL : PairL → ByteArray → Option Value
  | [], _ => none
  | p :: r, k => if k = p.1 then some p.2 else getL r k

theorem putL_new (l : PairL) (k : ByteArray) (v : Value) (h : ∀ p ∈ l, k ≠ p.1) : putL l k v = l ++ [(k, v)] := by
  induction l with
  | nil => rfl
  | cons p r ih =>
    simp only [putL]
    rw [if_neg (h p (by simp)), ih (fun q hq => h q (by simp [hq]))]
    rfl

theorem toList_inj {a b : ByteArray} (h : a.toList = b.toList) : a = b := by
  rw [ByteArray.toList_eq, ByteArray.toList_eq] at h
  obtain ⟨⟨x⟩⟩ := a
  obtain ⟨⟨y⟩⟩ := b
  simpa using h
theorem beq_bytes (a b : ByteArray) : (a == b) = decide (a = b) := by
  rw [beq_toListBytes]
  by_cases h : a = b
  · subst h; simp
  · simp only [h, decide_false, beq_eq_false_iff_ne, ne_eq]
    exact fun e => h (toList_inj e)

/-- The model's own search, at a string, over entries that read as 'l'. -/
theorem findNow_l (k : ByteArray) : ∀ (es : List MapEntry) (l : PairL) (i : Nat), es.map (fun e => (e.key, e.val)) = l.map (fun p => (Value.string p.1, p.2)) →
    (getL l k = none ∧ Instr.findNow .string (.string k) es i = some none ∧ putL l k = fun v => l ++ [(k, v)]) ∨
    ∃ j v e, getL l k = some v ∧ Instr.findNow .string (.string k) es i = some (some (i + j, v)) ∧ es[j]? = some e ∧ e.key = .string k ∧ ∀ v' : Value,
      (es.modify j fun e => { e with key := .string k, val := v' }).map (fun e => (e.key, e.val)) = (putL l k v').map (fun p => (Value.string p.1, p.2)) := by
  intro es
  induction es with
  | nil =>
    intro l i h
    cases l with
    | nil => exact Or.inl ⟨rfl, rfl, rfl⟩
    | cons p r => simp at h
  | cons e es ih =>
    intro l i h
    cases l with
    | nil => simp at h
    | cons p r =>
      simp only [List.map_cons, List.cons.injEq, Prod.mk.injEq] at h
      obtain ⟨⟨hk, hv⟩, hr⟩ := h
      by_cases hkp : k = p.1
      · refine Or.inr ⟨0, p.2, e, by simp [getL, hkp], ?_, rfl, by rw [hk, hkp], fun v' => ?_⟩
        · simp [Instr.findNow, hk, Instr.sameNow, hkp, hv, beq_bytes]
        · simp [putL, hkp, hr]
      · rcases ih r (i + 1) hr with ⟨g1, g2, g3⟩ | ⟨j, v, e', g1, g2, g3, g4, g5⟩
        · refine Or.inl ⟨by simp [getL, hkp, g1], ?_, ?_⟩
          · simp [Instr.findNow, hk, Instr.sameNow, hkp, g2, beq_bytes]
          · funext v; simp [putL, hkp, g3]
        · refine Or.inr ⟨j + 1, v, e', by simp [getL, hkp, g1], ?_, by simpa using g3, g4, fun v' => ?_⟩
          · simp only [Instr.findNow, hk, Instr.sameNow]
            have : (k == p.1) = false := by rw [beq_bytes]; simpa using hkp
            rw [this]; simp only [g2]; congr 3; omega
          · simp [putL, hkp, hk, hv, g5]

theorem run_keyStays (P : Program) (w : World) (k : ByteArray) : (Instr.keyThatStays (.string k) (.string k)).run P w = .ok (.string k) w := by
  simp [Instr.keyThatStays, Instr.sameBits, beq_bytes]

theorem run_mapUpdate_l {P : Program} {w : World} {mty kt et : TypeId} (hm : P.underlying mty = some (.map kt et)) (hk : P.underlying kt = some .string)
    {b : Nat} {l : PairL} (h : MapIs w b l) (k : ByteArray) (v : Value) :
    ∃ o, (∀ w', w'.heap = w.heap → (Instr.mapUpdate mty (.map (some b)) (.string k) v).run P w' = .ok () (setB w' b o)) ∧ ∀ w', w'.heap = w.heap → MapIs (setB w' b o) b (putL l k v) := by
  obtain ⟨es, clock, hb0, he⟩ := h
  have hlt := lt_of_heap hb0
  have hc : ∀ w' : World, (Instr.checkKey false 10000 kt (.string k)).run P w' = .ok () w' := fun w' => MapKept.run_checkKey (k := .string k) hk (by simp [MapKept.IsKey]) false 9999
  rcases findNow_l k es.toList l 0 he with ⟨g1, g2, g3⟩ | ⟨j, v0, e, g1, g2, g3, g4, g5⟩
  · refine ⟨.map (es.push { key := .string k, val := v, born := clock }) (clock + 1), fun w' hw => ?_, fun w' hw => ?_⟩
    · have hb : w'.heap[b]? = some (.map es clock) := by rw [hw]; exact hb0
      simp [Instr.mapUpdate, run_underlying hm, MapKept.run_getObj_map hb, hc, MapKept.run_findKey hk g2, MapKept.run_setObj_map _ hb, Result.andThen, setB]
    · refine ⟨_, _, heap_setB _ (by rw [hw]; exact hlt), ?_⟩
      rw [g3]
      simp [he]
  · refine ⟨.map (es.modify j fun e => { e with key := .string k, val := v }) clock, fun w' hw => ?_, fun w' hw => ?_⟩
    · have hb : w'.heap[b]? = some (.map es clock) := by rw [hw]; exact hb0
      have g3' : es[j]? = some e := by simpa using g3
      simp [Instr.mapUpdate, run_underlying hm, MapKept.run_getObj_map hb, hc, MapKept.run_findKey hk g2, g3', g4, run_keyStays, MapKept.run_setObj_map _ hb, Result.andThen, setB]
    · refine ⟨_, _, heap_setB _ (by rw [hw]; exact hlt), ?_⟩
      rw [Array.toList_modify]
      exact g5 v

theorem run_lookup_l {P : Program} {w : World} {mty kt et : TypeId} (hm : P.underlying mty = some (.map kt et)) (hk : P.underlying kt = some .string)
    {b : Nat} {l : PairL} (h : MapIs w b l) (k : ByteArray) (v : Value) (hv : getL l k = some v) (c : Bool) :
    (Instr.lookup mty (.map (some b)) (.string k) c).run P w = .ok (if c then .tuple #[v, .bool true] else v) w := by
  obtain ⟨es, clock, hb, he⟩ := h
  have hc : ∀ em, (Instr.checkKey em 10000 kt (.string k)).run P w = .ok () w := fun em => MapKept.run_checkKey (k := .string k) hk (by simp [MapKept.IsKey]) em 9999
  rcases findNow_l k es.toList l 0 he with ⟨g1, g2, g3⟩ | ⟨j, v0, e, g1, g2, g3, g4, g5⟩
  · rw [g1] at hv; cases hv
  · rw [g1] at hv; cases hv
    simp [Instr.lookup, run_underlying hm, MapKept.run_getObj_map hb, hc, MapKept.run_findKey hk g2, Result.andThen]

theorem MapIs.size {w : World} {b : Nat} {l : PairL} (h : MapIs w b l) : ∃ es clock, w.heap[b]? = some (.map es clock) ∧ es.size = l.length := by
  obtain ⟨es, clock, hb, he⟩ := h
  refine ⟨es, clock, hb, ?_⟩
  have := congrArg List.length he
  simpa using this

theorem run_len_l {P : Program} {w : World} {mty kt et : TypeId} (hm : P.underlying mty = some (.map kt et)) {b : Nat} {l : PairL} (h : MapIs w b l) (q : Nat) (ty : TypeId) :
    Sem.run P (Builtin.len_ #[mty] ty #[.map (some b)]) (w.drewN q) = .ok (.int .i64 l.length) (w.drewN q) := by
  obtain ⟨es, clk, hb, hs⟩ := h.size
  have hb' : (w.drewN q).heap[b]? = some (.map es clk) := hb
  simp [Builtin.len_, run_underlying hm, MapKept.run_getObj_map hb', hs, goInt, Result.andThen]

theorem run_equalIn_map_nil (d vb : Nat) (w : World) : Sem.run Yaod.prog (Op.equalIn (d + 1) 49 (.map (some vb)) (.map none)) w = .ok false w := by
  simp [Op.equalIn, run_underlying Yaod.underlying49]
theorem run_eql_map_nil (vb : Nat) (w : World) : Sem.run Yaod.prog (binOp .eql 49 (.map (some vb)) (.map none)) w = .ok (.bool false) w := by
  simp only [binOp, Op.equal, Op.maxDepth]
  simp [run_equalIn_map_nil 9999 vb w]
end Go.Proofs.YgdaogDoor
