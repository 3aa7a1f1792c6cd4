/-
  THE WALKS OF slices.Clone at uint64 and of leader.Advance over a two-valued row.
-/
import Derived.Test.YgdaogDoorSvO
namespace Go.Proofs.YgdaogDoor
open Go.RowKit Go.Sort
theorem wpList_append_run {P : Program} {ops : Array Oper} {rest : List Oper} {o : Oper} {a : Act} {w : World} {Q : Exit → Act → World → Prop} (hgd : o.guard = none) (s x : Operand) (t : TypeId)
    (hop : o.op = Op.call { callee := Callee.builtin Builtin.append, args := #[s, x], argTypes := #[t, t] })
    (vs vx : Value) (hs : a.eval s = vs) (hx : a.eval x = vx) (v' : Value) (w' : World) (hrun : Sem.run P (Builtin.append_ #[t, t] o.type #[vs, vx]) w = .ok v' w')
    (h : wpList P ops Q rest (a.put o.dst v') w') : wpList P ops Q (o :: rest) a w :=
  wpList_plain hgd fun K hK => by
    unfold Oper.wp
    simp [execOp, hop, resolve, invoke, builtin, hs, hx, hrun, Result.andThen]
    exact hK _ _ h
theorem eql_slice (p : Addr) (l c : Nat) (w : World) : Sem.run Yaod.prog (binOp .eql 53 (.slice (some p) l c) (.slice none 0 0)) w = .ok (.bool false) w := by kernel_rfl
theorem info22 : (Yaod.prog.info? 22).map (fun i => (i.zero, i.size, i.bytes)) = some (some (.int .u64 0), 1, 8) := by kernel_rfl
/-- 'append([]uint64{}, s...)'. -/
theorem run_append_u64 {w : World} {b blk m c : Nat} {d : List Int} (ty : TypeId) (hd : d.length = m) (h0 : 0 < m) (hm : m ≤ 5)
    (hc : ∀ i (hi : i < d.length), w.cell? ⟨blk, i, none⟩ = some (.int .u64 d[i])) :
    ∃ cap cur, Sem.run Yaod.prog (Builtin.append_ #[53, 53] ty #[.slice (some ⟨b, 0, none⟩) 0 0, .slice (some ⟨blk, 0, none⟩) m c]) w = .ok (.slice (some ⟨w.heap.size, 0, none⟩) m cap) (w.drew.alloc (.cells cur 22)) ∧
      ∀ i (hi : i < d.length), cur[i]? = some (.int .u64 d[i]) := by
  obtain ⟨i, hi, hz, hsz, hby⟩ := info_parts info22
  have hnews : ∀ j v, (d.map (Value.int .u64))[j]? = some v → w.cell? ((⟨blk, 0, none⟩ : Addr).add j) = some v := by
    intro j v hv
    have hadd : (⟨blk, 0, none⟩ : Addr).add j = ⟨blk, j, none⟩ := by unfold Addr.add; split <;> simp_all
    rw [hadd]
    have hj : j < d.length := by
      rcases Nat.lt_or_ge j d.length with h | h
      · exact h
      · rw [List.getElem?_eq_none (by simpa using h)] at hv; cases hv
    rw [List.getElem?_eq_getElem (by simpa using hj)] at hv
    rw [hc j hj]
    simpa using hv
  have hrun := run_append_grow (P := Yaod.prog) w 53 ty 22 i _ Yaod.underlying53 hi hz ⟨b, 0, none⟩ 0 0 [] (by simp) (by simp)
      ⟨blk, 0, none⟩ m c (d.map (Value.int .u64)) (by rw [hsz]; simp [hd]) hnews (by omega) (by omega) (by rw [hby]; rw [Nat.zero_add, nextslicecap_zero h0]; omega)
  simp only [Nat.zero_add] at hrun
  refine ⟨_, _, hrun, fun j hj => ?_⟩
  rw [Array.getElem?_append_left (by simpa using hj)]
  simp [hj]
set_option maxRecDepth 100000 in
set_option maxHeartbeats 1000000 in
theorem clone_u64 (blk m c : Nat) (d : List Int) (w : World) (hd : d.length = m) (h0 : 0 < m) (hm : m ≤ 5) (hc : ∀ i (hi : i < d.length), w.cell? ⟨blk, i, none⟩ = some (.int .u64 d[i])) :
    Calls Yaod.prog 49 #[.slice (some ⟨blk, 0, none⟩) m c] w fun e w' =>
      ∃ g cap cur, e = .returned (.slice (some ⟨g, 0, none⟩) m cap) ∧ w.heap.size ≤ g ∧ w'.heap[g]? = some (.cells cur 22 (0, 0)) ∧ (∀ i (hi : i < d.length), cur[i]? = some (.int .u64 d[i])) ∧ Chg [] w w' := by
  have HC : Hid (∀ i (hi : i < d.length), w.cell? ⟨blk, i, none⟩ = some (.int .u64 d[i])) := hc
  have HD : Hid (d.length = m) := hd
  clear hc hd
  have hes := eql_slice
  have hcw : ∀ i (hi : i < d.length), (w.alloc (Obj.cells #[] 22)).cell? ⟨blk, i, none⟩ = some (.int .u64 d[i]) := fun i hi => by
    rw [World.cell?_alloc_some _ _ _ (by rw [HC.out i hi]; rfl)]; exact HC.out i hi
  obtain ⟨cap, cur, happ, hcur⟩ := run_append_u64 (w := w.alloc (Obj.cells #[] 22)) (b := w.heap.size) (c := c) 53 HD.out h0 hm hcw
  have HA : Hid _ := happ
  have HCU : Hid _ := hcur
  clear happ hcur hcw
  go_enter Yaod.func49, Yaod.ntmps49
  go_wp2_with (first | (at_builtin; refine wpList_append_run rfl (.tmp 5) (.tmp 6) 53 rfl _ _ rfl rfl _ _ HA.out ?_))
  go_ret
  refine ⟨w.heap.size + 1, cap, cur, ?_, by omega, ?_, HCU.out, ?_⟩
  · simp
  · exact heap_alloc2_1 w _ _
  · first | exact ((((Chg.refl _ _).alloc _).drew).alloc _) | exact ((((Chg.refl _ _).alloc _).alloc _).drew)

theorem chg_putRow (w : World) (blk off : Nat) (d : Array Int) (n : Nat) : Chg [blk] w (putRow (Value.int .u64) (Sort.ahead w n) blk off d) :=
  ⟨rfl, rfl, rfl, by simp [putRow, mapBlock], fun j _ hs => by
    simp only [List.mem_cons, List.not_mem_nil, or_false] at hs
    simp only [putRow, mapBlock, Sort.ahead, Array.getElem?_modify]
    rw [if_neg (fun e => hs e.symm)]⟩

/-- The middle of what the library's insertion sort makes of a two-valued row. -/
theorem median_sorted (d : List Int) (k a : Nat) (x L : Int) (hd : d.length = k) (hk : 0 < k) (hall : ∀ y ∈ d, y = L ∨ y = x) (hx : x < L) (hc : d.count L = a) :
    (Sort.insertionSort ltInt d.toArray 0 d.toArray.size)[(k - 1) / 2]! = if k < 2 * a then L else x := by
  obtain ⟨hp, hs⟩ := insertionSort_holds swo_lt d.toArray 0 d.toArray.size (Nat.zero_le _) (Nat.le_refl _)
  generalize Sort.insertionSort ltInt d.toArray 0 d.toArray.size = s at *
  obtain ⟨hsz, _, hperm⟩ := hp
  have hsz' : s.size = k := by rw [hsz]; simpa using hd
  have hperm' : s.toList.Perm d := by
    have e1 : s.extract 0 d.toArray.size = s := by rw [← hsz, Array.extract_size]
    have e2 : d.toArray.extract 0 d.toArray.size = d.toArray := Array.extract_size
    rw [e1, e2] at hperm
    simpa using hperm
  have hlt : (k - 1) / 2 < s.size := by omega
  have hm := median_list s.toList k a x L (by simpa using hsz') hk (fun i j hi hj hij => by
      have h := hs i j (Nat.zero_le _) hij (by rw [← hsz]; simpa using hj)
      have hi' : i < s.size := by simpa using hi
      have hj' : j < s.size := by simpa using hj
      simp only [ltInt, decide_eq_false_iff_not, getElem!_pos, hi', hj'] at h
      simp; omega) (fun y hy => hall y (hperm'.mem_iff.1 hy)) hx (by rw [hperm'.count_eq]; exact hc)
  rw [getElem!_pos s _ hlt, ← hm]
  simp

set_option maxRecDepth 100000 in
set_option maxHeartbeats 1000000 in
theorem advance_two (b blk k c a : Nat) (n : Nd) (cs : List ByteArray) (d : List Int) (x L cm r : Int) (w : World) (hn : NodeAt w b n) (hL : LogIs w n.recs cs)
    (hs0 : 0 ≤ n.snap) (hs : n.snap ≤ 4611686018427387903) (hm : cs.length ≤ 8796093022208) (hlt : ltOf cs = 1) (hLe : L = n.snap + cs.length)
    (hd : d.length = k) (h0 : 0 < k) (h5 : k ≤ 5) (hc : ∀ i (hi : i < d.length), w.cell? ⟨blk, i, none⟩ = some (.int .u64 d[i]))
    (hall : ∀ y ∈ d, y = L ∨ y = x) (hx : x < L) (hxc : x ≤ cm) (hcL : cm ≤ L) (hca : d.count L = a) (hr : Hid (r = if k < 2 * a then L else cm)) :
    Calls Yaod.prog 50 #[.pointer (some ⟨b, 8, none⟩), .int .u64 1, .int .u64 cm, .slice (some ⟨blk, 0, none⟩) k c] w fun e w' => e = .returned (.int .u64 r) ∧ Chg [] w w' := by
  have hmed := median_sorted d k a x L hd h0 hall hx hca
  have cC := clone_u64 blk k c d w hd h0 h5 hc
  have HN : Hid (NodeAt w b n) := hn
  have HL : Hid (LogIs w n.recs cs) := hL
  have HD : Hid (d.length = k) := hd
  clear hc hall hca hn hL hd
  have hk0 : ((k : Int) == 0) = false := by simp; omega
  go_enter Yaod.func50, Yaod.ntmps50
  go_wp2_with fail
  refine cC.mono ?_
  rintro e w1 ⟨g, cap, cur, rfl, hg, hgb, hcur, hC1⟩
  have hsz : d.toArray.size = k := by simp [HD.out]
  have hH : Holds (Value.int .u64) w1 g 0 d.toArray := fun j hj => by
    have hj' : j < d.length := by simpa using hj
    refine ⟨?_, frozen_of_heap hgb _⟩
    rw [cell_of_heap hgb, Nat.zero_add, hcur j hj']
    simp [hj']
  have cS := sort_small g cap d.toArray w1 hH (by omega)
  rw [hsz] at cS hmed
  have hmid : Holds (Value.int .u64) w1 g 0 d.toArray := hH
  have HN1 : NodeAt w1 b n := HN.out.chg hC1 (by simp)
  have HL1 : LogIs w1 n.recs cs := HL.out.chg hC1 (by simp)
  have hgl := lt_of_heap hgb
  have hsz2 : (Sort.insertionSort ltInt d.toArray 0 k).size = k := by
    have := (insertionSort_holds swo_lt d.toArray 0 k (Nat.zero_le _) (by omega)).1.1
    rw [this]; exact hsz
  generalize Sort.insertionSort ltInt d.toArray 0 k = dS at *
  clear hH cC hcur HN HL
  go_wp2_with fail
  refine cS.mono ?_
  rintro e w2 ⟨rfl, q, hw2⟩
  have hC2 : Chg [g] w1 w2 := by rw [hw2]; exact chg_putRow _ _ _ _ _
  have hmc : w2.cell? ⟨g, (k - 1) / 2, none⟩ = some (.int .u64 (if k < 2 * a then L else x)) := by
    have := cell?_putRow (Value.int .u64) (Sort.ahead w1 q) g 0 d.toArray dS (holds_ahead _ _ _ _ _ _ hmid) (by omega) ((k - 1) / 2) (by omega)
    rw [hw2, ← hmed]; simpa using this
  have HN2 : NodeAt w2 b n := HN1.chg hC2 (by simp; intro e; subst e; have h := lt_of_heap hgb; exact absurd hgb (fun hh => by
    have h' : w1.heap[b]? = some (.cells n.cells 51 (0, 0)) := HN1
    rw [h'] at hh; injection hh with hh; injection hh with h1 h2; exact absurd h2 (by decide)))
  have HL2 : LogIs w2 n.recs cs := HL1.chg hC2 (fun g' cu _ hx hg' => by
    simp at hg'; rw [hg', hgb] at hx; injection hx with hx; injection hx with h1 h2; exact absurd h2 (by decide))
  have HC2 : Chg [] w w2 := ((hC1.mono (by simp)).trans hC2).fresh (by simp; exact hg)
  clear hC2 hC1 hw2 HN1 HL1 hmid cS hmed hgb
  have cT := term_log b n cs w2 HN2 HL2 hs0 hs hm
  rw [← hLe, hlt] at cT
  have hdiv : ((k : Int) - 1) / 2 = (((k - 1) / 2 : Nat) : Int) := by omega
  generalize (k - 1) / 2 = mid at *
  have hmk : mid < k := by omega
  by_cases hq : k < 2 * a
  · rw [if_pos hq] at hmc
    have hr1 : r = L := by rw [hr.out, if_pos hq]
    subst hr1
    clear hr hLe hlt
    by_cases hlt2 : cm < r
    · go_wp2_with (first | (go_at_call 17; refine cT.mono ?_; rintro e w4 ⟨rfl, q4, rfl⟩))
      go_ret
      exact ⟨rfl, HC2.drewN _⟩
    · have hle2 : r ≤ cm := by omega
      have he : r = cm := by omega
      have HE : Hid (r = cm) := he
      clear he
      go_wp2
      go_ret
      exact ⟨(by rw [HE.out]; rfl), HC2⟩
  · rw [if_neg hq] at hmc
    have hr1 : r = cm := by rw [hr.out, if_neg hq]
    subst hr1
    clear hr hLe hlt
    go_wp2
    go_ret
    exact ⟨rfl, HC2⟩
end Go.Proofs.YgdaogDoor
