/-
  THE WALK OF rlog.Log.TryAppend: one record at the end; none.
-/
import Derived.Test.YgdaogDoorSvV
import Derived.Deep.RegionLaw
import Derived.Deep.RegionHeld2
namespace Go.Proofs.YgdaogDoor
open Go.RowKit
theorem info85 : (Yaod.prog.info? 85).map (fun i => (i.zero, i.size, i.bytes)) = some (some (.agg #[.int .u64 0, .string ⟨#[]⟩]), 2, 24) := by kernel_rfl
theorem rec_news {w : World} {r : Nat} {cmd : ByteArray} (hr0 : w.cell? ⟨r, 0, none⟩ = some (.int .u64 1)) (hr1 : w.cell? ⟨r, 1, none⟩ = some (.string cmd)) :
    ∀ j v, ([.int .u64 1, .string cmd] : List Value)[j]? = some v → w.cell? ((⟨r, 0, none⟩ : Addr).add j) = some v := by
  intro j v hv
  have hadd : (⟨r, 0, none⟩ : Addr).add j = ⟨r, j, none⟩ := by unfold Addr.add; split <;> simp_all
  rw [hadd]
  match j with
  | 0 => simp at hv; subst hv; exact hr0
  | 1 => simp at hv; subst hv; exact hr1
  | k + 2 => simp at hv
theorem nextslicecap_fit (m : Nat) (h : m ≤ 8796093022208) : Builtin.nextslicecap (m + 1) m * 24 ≤ 281474976710656 := by
  unfold Builtin.nextslicecap
  split
  · omega
  · split
    · omega
    · simp only [Builtin.growBy]
      rw [if_neg (by omega), if_pos (by omega)]
      omega
/-- 'append(l.Records[:m:m], one record)': a new row, whatever the tape says of its capacity. -/
theorem run_append_rec {w : World} {r c : Nat} {cmd : ByteArray} {v : Value} {cs : List ByteArray} (ty : TypeId) (hL : LogIs w v cs) (hm : cs.length ≤ 8796093022208) (v1 : Value)
    (hv1 : (v = .slice none 0 0 ∧ cs = [] ∧ v1 = .slice none 0 0) ∨ ∃ g cap, v = .slice (some ⟨g, 0, none⟩) cs.length cap ∧ v1 = .slice (some ⟨g, 0, none⟩) cs.length cs.length)
    (hr0 : w.cell? ⟨r, 0, none⟩ = some (.int .u64 1)) (hr1 : w.cell? ⟨r, 1, none⟩ = some (.string cmd)) :
    ∃ cap cur, Sem.run Yaod.prog (Builtin.append_ #[45, 45] ty #[v1, .slice (some ⟨r, 0, none⟩) 1 c]) w = .ok (.slice (some ⟨w.heap.size, 0, none⟩) (cs.length + 1) cap) (w.drew.alloc (.cells cur 85)) ∧
      LogIs (w.drew.alloc (.cells cur 85)) (.slice (some ⟨w.heap.size, 0, none⟩) (cs.length + 1) cap) (cs ++ [cmd]) := by
  obtain ⟨i, hi, hz, hsz, hby⟩ := info_parts info85
  have hf : flat (cs ++ [cmd]) = flat cs ++ [.int .u64 1, .string cmd] := by rw [flat_append]; rfl
  rcases hv1 with ⟨rfl, rfl, rfl⟩ | ⟨g, cap, rfl, rfl⟩
  · have hrun := run_append_nil (P := Yaod.prog) w 45 ty 85 i _ Yaod.underlying45 hi hz ⟨r, 0, none⟩ 1 c [.int .u64 1, .string cmd] (by rw [hsz]; rfl) (rec_news hr0 hr1) (by omega) (by omega) (by rw [hby]; omega)
    refine ⟨_, _, hrun, by simp [flat], Or.inr ⟨_, _, _, rfl, Nat.zero_le _, heap_alloc_at _ _, ?_, grownCap_le_maxLen _ _ _ _ (by unfold maxLen; omega), ?_, ?_⟩⟩
    · exact grownCap_ge w 1 0 85
    · have := grownCap_ge w 1 0 85
      simp [size_zeroCells, Value.cells]; omega
    · simp [flat]
  · have holds : ∀ j u, (flat cs)[j]? = some u → w.cell? ((⟨g, 0, none⟩ : Addr).add j) = some u := World.ownsRow.cells hL rfl
    have hrun := run_append_grow (P := Yaod.prog) w 45 ty 85 i _ Yaod.underlying45 hi hz ⟨g, 0, none⟩ cs.length cs.length (flat cs) (by rw [hsz]; exact flat_length cs) holds
      ⟨r, 0, none⟩ 1 c [.int .u64 1, .string cmd] (by rw [hsz]; rfl) (rec_news hr0 hr1) (by omega) (by omega) (by rw [hby]; exact nextslicecap_fit _ hm)
    refine ⟨_, _, hrun, by rw [hf]; simp [flat_length]; omega, Or.inr ⟨w.heap.size, grownCap w (cs.length + 1) cs.length 85, _, by simp, Nat.zero_le _, heap_alloc_at _ _, ?_, grownCap_le_maxLen _ _ _ _ (by unfold maxLen; omega), ?_, ?_⟩⟩
    · have := grownCap_ge w (cs.length + 1) cs.length 85; simpa using this
    · have := grownCap_ge w (cs.length + 1) cs.length 85
      simp [size_zeroCells, Value.cells, flat_length]; omega
    · rw [hf]
      simp only [Array.toList_append, List.append_assoc]
      rw [← List.append_assoc]
      exact List.take_left' (by simp [flat_length]; omega)
theorem step_append_run {P : Program} {ops : Array Oper} {o : Oper} {a : Act} {w : World} {K : Act → World → Prop} {Q : Exit → Act → World → Prop} {E : Prop}
    (hg : o.guard = none) (s x : Operand) (t : TypeId) (hop : o.op = Op.call { callee := Callee.builtin Builtin.append, args := #[s, x], argTypes := #[t, t] })
    (vs vx : Value) (hs : a.eval s = vs) (hx : a.eval x = vx) (v' : Value) (w' : World) (hrun : Sem.run P (Builtin.append_ #[t, t] o.type #[vs, vx]) w = .ok v' w') (hK : K (a.put o.dst v') w') :
    if Region.wanted o (yielded ops a.tmps) = true then Oper.wp P o a w K Q else E := by
  have hw : Region.wanted o (yielded ops a.tmps) = true := by simp [Region.wanted, hg]
  rw [if_pos hw]
  unfold Oper.wp
  simp [execOp, hop, resolve, invoke, builtin, hs, hx, hrun, Result.andThen]
  exact hK
set_option maxRecDepth 100000 in
set_option maxHeartbeats 1000000 in
theorem tryAppend_nil (b : Nat) (n : Nd) (w : World) (r c : Nat) (cmd : ByteArray) (hn : NodeAt w b n) (hrec : n.recs = .slice none 0 0)
    (hr0 : w.cell? ⟨r, 0, none⟩ = some (.int .u64 1)) (hr1 : w.cell? ⟨r, 1, none⟩ = some (.string cmd))
    (hs0 : 0 ≤ n.snap) (hs : n.snap ≤ 4611686018427387903) :
    Calls Yaod.prog 18 #[.pointer (some ⟨b, 8, none⟩), .int .u64 n.snap, .int .u64 0, .slice (some ⟨r, 0, none⟩) 1 c] w fun e w' =>
      e = .returned (.tuple #[.int .u64 (n.snap + 1), .bool true]) ∧ Chg [b] w w' ∧ ∃ v', NodeAt w' b { n with recs := v' } ∧ LogIs w' v' [cmd] ∧ ∃ g, v'.ownBlock = some g ∧ w.heap.size ≤ g := by
  have hlt := hn.lt
  have h8 := hn.c8
  have h9 := hn.c9
  have h10 := hn.c10
  rw [hrec] at h10
  have hf := hn.fz
  have HN : Hid (NodeAt w b n) := hn
  clear hn hrec
  have cT := term_snap b n.snap w h8 h9
  go_enter Yaod.func18, Yaod.ntmps18
  go_wp2_with (first | (go_at_call 17; refine cT.mono ?_; rintro e w4 ⟨rfl, hw4⟩; rw [hw4]; clear hw4 w4))
  refine wp_loop_rounds 1 ?_
  rw [rounds_succ]
  go_wp2
  go_quiet (fail)
  go_wp2
  have HN2 : NodeAt ((w.alloc (Obj.cells #[Value.int IntKind.u64 1, Value.string cmd] 85)).drewN nq) b n := (HN.out.alloc _).drewN _
  have HC2 : Chg [b] w ((w.alloc (Obj.cells #[Value.int IntKind.u64 1, Value.string cmd] 85)).drewN nq) := ((Chg.refl _ _).alloc _).drewN _
  have R0 : ((w.alloc (Obj.cells #[Value.int IntKind.u64 1, Value.string cmd] 85)).drewN nq).cell? ⟨r, 0, none⟩ = some (.int .u64 1) := (World.cell?_alloc_some _ _ _ (by rw [hr0]; rfl)).trans hr0
  have R1 : ((w.alloc (Obj.cells #[Value.int IntKind.u64 1, Value.string cmd] 85)).drewN nq).cell? ⟨r, 1, none⟩ = some (.string cmd) := (World.cell?_alloc_some _ _ _ (by rw [hr1]; rfl)).trans hr1
  have hsz : w.heap.size ≤ ((w.alloc (Obj.cells #[Value.int IntKind.u64 1, Value.string cmd] 85)).drewN nq).heap.size := by simp
  have H10 : ((w.alloc (Obj.cells #[Value.int IntKind.u64 1, Value.string cmd] 85)).drewN nq).cell? ⟨b, 10, none⟩ = some (.slice none 0 0) := (World.cell?_alloc_some _ _ _ (by rw [h10]; rfl)).trans h10
  clear h8 h9 h10 hr0 hr1 hf HN cT
  generalize (w.alloc (Obj.cells #[Value.int IntKind.u64 1, Value.string cmd] 85)).drewN nq = w5 at HN2 HC2 R0 R1 H10 hsz ⊢
  have hf := HN2.fz
  have hl5 := HN2.lt
  obtain ⟨cap, cur, happ, hown⟩ := run_append_rec (w := w5.drew) (c := c) 45 (LogIs.nil _) (by simp) _ (Or.inl ⟨rfl, rfl, rfl⟩) R0 R1
  have HO : Hid (LogIs (w5.drew.drew.alloc (.cells cur 85)) (.slice (some ⟨w5.heap.size, 0, none⟩) 1 cap) [cmd]) := hown
  have HA : Hid (Sem.run Yaod.prog (Builtin.append_ #[45, 45] 45 #[.slice none 0 0, .slice (some ⟨r, 0, none⟩) 1 c]) w5.drew = .ok (.slice (some ⟨w5.heap.size, 0, none⟩) 1 cap) (w5.drew.drew.alloc (.cells cur 85))) := happ
  clear hown happ
  go_region_law (refine step_append_run rfl (.tmp 74) (.tmp 77) 45 rfl _ _ rfl rfl _ _ HA.out ?_)
  go_wp2
  go_ret2
  refine ⟨rfl, (((HC2.setCell (by simp) _).alloc _).drew).drew, _, ((HN2.recs _).alloc _), HO.out.of_blocks fun g cu hg _ => ?_, _, rfl, hsz⟩
  have hgw : g = w5.heap.size := by simp [Value.ownBlock] at hg; exact hg.symm
  have e1 : ((w5.setCell ⟨b, 10, none⟩ (.slice (some ⟨w5.heap.size, 0, none⟩) 1 cap)).alloc (.cells cur 85)).heap[w5.heap.size]? = some (.cells cur 85) := by
    have := heap_alloc_at (w5.setCell ⟨b, 10, none⟩ (.slice (some ⟨w5.heap.size, 0, none⟩) 1 cap)) (.cells cur 85)
    simpa using this
  rw [hgw]
  exact e1.trans (heap_alloc_at w5 _).symm
set_option maxRecDepth 100000 in
set_option maxHeartbeats 1000000 in
theorem tryAppend_row (b : Nat) (n : Nd) (cs : List ByteArray) (w : World) (g cap0 r c : Nat) (cmd : ByteArray) (hn : NodeAt w b n) (hL : LogIs w n.recs cs) (hrec : n.recs = .slice (some ⟨g, 0, none⟩) cs.length cap0)
    (hcap : cs.length ≤ cap0)
    (hr0 : w.cell? ⟨r, 0, none⟩ = some (.int .u64 1)) (hr1 : w.cell? ⟨r, 1, none⟩ = some (.string cmd))
    (hs0 : 0 ≤ n.snap) (hs : n.snap ≤ 4611686018427387903) (hm : cs.length ≤ 8796093022207) :
    Calls Yaod.prog 18 #[.pointer (some ⟨b, 8, none⟩), .int .u64 (n.snap + cs.length), .int .u64 (ltOf cs), .slice (some ⟨r, 0, none⟩) 1 c] w fun e w' =>
      e = .returned (.tuple #[.int .u64 (n.snap + cs.length + 1), .bool true]) ∧ Chg [b] w w' ∧ ∃ v', NodeAt w' b { n with recs := v' } ∧ LogIs w' v' (cs ++ [cmd]) ∧ ∃ g, v'.ownBlock = some g ∧ w.heap.size ≤ g := by
  have hlt := hn.lt
  have h8 := hn.c8
  have h10 := hn.c10
  have cT := term_log b n cs w hn hL hs0 hs (by omega)
  rw [hrec] at h10
  have hf := hn.fz
  have HN : Hid (NodeAt w b n) := hn
  have HL : Hid (LogIs w n.recs cs) := hL
  have HR : Hid (n.recs = .slice (some ⟨g, 0, none⟩) cs.length cap0) := hrec
  clear hn hrec hL
  have HM : Hid (cs.length ≤ 8796093022207) := hm
  generalize hme : cs.length = m at *
  generalize ltOf cs = lt at *
  have HE : Hid (cs.length = m) := hme
  have hsub : n.snap + (m : Int) - n.snap = (m : Int) := by omega
  clear hme
  go_enter Yaod.func18, Yaod.ntmps18
  go_wp2_with fail
  refine cT.mono ?_
  rintro e w4 ⟨rfl, q4, hw4⟩
  have HN4 : Hid (NodeAt w4 b n) := by rw [hw4]; exact HN.out.drewN _
  have HL4 : Hid (LogIs w4 n.recs cs) := by rw [hw4]; exact HL.out.drewN _
  have HC4 : Chg [b] w w4 := by rw [hw4]; exact (Chg.refl _ _).drewN _
  have R0 : w4.cell? ⟨r, 0, none⟩ = some (.int .u64 1) := by rw [hw4]; exact hr0
  have R1 : w4.cell? ⟨r, 1, none⟩ = some (.string cmd) := by rw [hw4]; exact hr1
  clear hw4 HN HL cT h8 h10 hf hr0 hr1
  have hl4 := HN4.out.lt
  have h8 := HN4.out.c8
  have h10 := HN4.out.c10
  rw [HR.out] at h10
  go_wp2
  all_goals refine wp_loop_rounds 1 ?_
  all_goals rw [rounds_succ]
  all_goals go_wp2
  all_goals go_quiet (fail)
  all_goals go_wp2
  all_goals
    have HN2 : NodeAt ((w4.alloc (Obj.cells #[Value.int IntKind.u64 1, Value.string cmd] 85)).drewN nq) b n := (HN4.out.alloc _).drewN _
    have HC2 : Chg [b] w ((w4.alloc (Obj.cells #[Value.int IntKind.u64 1, Value.string cmd] 85)).drewN nq) := (HC4.alloc _).drewN _
    have HL2 : LogIs ((w4.alloc (Obj.cells #[Value.int IntKind.u64 1, Value.string cmd] 85)).drewN nq) n.recs cs := (HL4.out.alloc _).drewN _
    have P0 : ((w4.alloc (Obj.cells #[Value.int IntKind.u64 1, Value.string cmd] 85)).drewN nq).cell? ⟨r, 0, none⟩ = some (.int .u64 1) := (World.cell?_alloc_some _ _ _ (by rw [R0]; rfl)).trans R0
    have P1 : ((w4.alloc (Obj.cells #[Value.int IntKind.u64 1, Value.string cmd] 85)).drewN nq).cell? ⟨r, 1, none⟩ = some (.string cmd) := (World.cell?_alloc_some _ _ _ (by rw [R1]; rfl)).trans R1
    have hsz : w.heap.size ≤ ((w4.alloc (Obj.cells #[Value.int IntKind.u64 1, Value.string cmd] 85)).drewN nq).heap.size := HC2.size
    clear HN4 HC4 HL4 R0 R1 h8 h10
    generalize (w4.alloc (Obj.cells #[Value.int IntKind.u64 1, Value.string cmd] 85)).drewN nq = w5 at HN2 HC2 HL2 P0 P1 hsz ⊢
    have H10 := HN2.c10
    rw [HR.out] at H10
    have hf := HN2.fz
    have hl5 := HN2.lt
    obtain ⟨cap, cur, happ, hown⟩ := run_append_rec (w := w5.drew) (c := c) 45 HL2 (by have := HE.out; have := HM.out; omega) (.slice (some ⟨g, 0, none⟩) m m) (Or.inr ⟨g, cap0, by rw [HE.out]; exact HR.out, by rw [HE.out]⟩) P0 P1
    rw [HE.out] at happ hown
    have HO : Hid (LogIs (w5.drew.drew.alloc (.cells cur 85)) (.slice (some ⟨w5.heap.size, 0, none⟩) (m + 1) cap) (cs ++ [cmd])) := hown
    have HA : Hid (Sem.run Yaod.prog (Builtin.append_ #[45, 45] 45 #[.slice (some ⟨g, 0, none⟩) m m, .slice (some ⟨r, 0, none⟩) 1 c]) w5.drew = .ok (.slice (some ⟨w5.heap.size, 0, none⟩) (m + 1) cap) (w5.drew.drew.alloc (.cells cur 85))) := happ
    clear hown happ HL2 P0 P1
    go_region_law (refine step_append_run rfl (.tmp 74) (.tmp 77) 45 rfl _ _ rfl rfl _ _ HA.out ?_)
    go_wp2
    go_ret2
    refine ⟨by go_num, (((HC2.setCell (by simp) _).alloc _).drew).drew, _, ((HN2.recs _).alloc _), HO.out.of_blocks fun g cu hg _ => ?_, _, rfl, hsz⟩
    have hgw : g = w5.heap.size := by simp [Value.ownBlock] at hg; exact hg.symm
    have e1 : ((w5.setCell ⟨b, 10, none⟩ (.slice (some ⟨w5.heap.size, 0, none⟩) (m + 1) cap)).alloc (.cells cur 85)).heap[w5.heap.size]? = some (.cells cur 85) := by
      have := heap_alloc_at (w5.setCell ⟨b, 10, none⟩ (.slice (some ⟨w5.heap.size, 0, none⟩) (m + 1) cap)) (.cells cur 85)
      simpa using this
    rw [hgw]
    exact e1.trans (heap_alloc_at w5 _).symm

/-- One record laid on at the end of the log. -/
theorem tryAppend_one (b : Nat) (n : Nd) (cs : List ByteArray) (w : World) (r c : Nat) (cmd : ByteArray) (hn : NodeAt w b n) (hL : LogIs w n.recs cs)
    (hr0 : w.cell? ⟨r, 0, none⟩ = some (.int .u64 1)) (hr1 : w.cell? ⟨r, 1, none⟩ = some (.string cmd))
    (hs0 : 0 ≤ n.snap) (hs : n.snap ≤ 4611686018427387903) (hm : cs.length ≤ 8796093022207) :
    Calls Yaod.prog 18 #[.pointer (some ⟨b, 8, none⟩), .int .u64 (n.snap + cs.length), .int .u64 (ltOf cs), .slice (some ⟨r, 0, none⟩) 1 c] w fun e w' =>
      e = .returned (.tuple #[.int .u64 (n.snap + cs.length + 1), .bool true]) ∧ Chg [b] w w' ∧ ∃ v', NodeAt w' b { n with recs := v' } ∧ LogIs w' v' (cs ++ [cmd]) ∧ ∃ g, v'.ownBlock = some g ∧ w.heap.size ≤ g := by
  rcases hL.form with ⟨h1, h2⟩ | ⟨g, cap, cur, h2, h3, h4, h5, h6⟩
  · subst h1
    rw [show n.snap + (([] : List ByteArray).length : Int) = n.snap from by simp]
    exact tryAppend_nil b n w r c cmd hn h2 hr0 hr1 hs0 hs
  · exact tryAppend_row b n cs w g cap r c cmd hn hL h2 h4 hr0 hr1 hs0 hs hm

set_option maxRecDepth 100000 in
set_option maxHeartbeats 1000000 in
/-- A heartbeat: no record. -/
theorem tryAppend_none (b : Nat) (n : Nd) (cs : List ByteArray) (w : World) (hn : NodeAt w b n) (hL : LogIs w n.recs cs)
    (hs0 : 0 ≤ n.snap) (hs : n.snap ≤ 4611686018427387903) (hm : cs.length ≤ 8796093022208) :
    Calls Yaod.prog 18 #[.pointer (some ⟨b, 8, none⟩), .int .u64 (n.snap + cs.length), .int .u64 (ltOf cs), .slice none 0 0] w fun e w' =>
      e = .returned (.tuple #[.int .u64 (n.snap + cs.length), .bool true]) ∧ ∃ q, w' = w.drewN q := by
  have h8 := hn.c8
  have h10 := hn.c10
  have cT := term_log b n cs w hn hL hs0 hs hm
  rcases hL.form with ⟨h1, h2⟩ | ⟨g, cap, cur, h2, h3, h4, h5, h6⟩
  · subst h1
    rw [h2] at h10
    rw [show n.snap + (([] : List ByteArray).length : Int) = n.snap from by simp] at cT ⊢
    clear hn hL h2
    generalize ltOf [] = lt at *
    go_enter Yaod.func18, Yaod.ntmps18
    go_wp2_with (first | (go_at_call 17; refine cT.mono ?_; rintro e w4 ⟨rfl, q4, rfl⟩))
    refine wp_loop_rounds 1 ?_
    rw [rounds_succ]
    go_wp2
    go_ret2
    exact ⟨rfl, q4, rfl⟩
  · rw [h2] at h10
    clear hn hL h2 h5 h6 h3
    generalize cs.length = m at *
    generalize ltOf cs = lt at *
    have hsub : n.snap + (m : Int) - n.snap = (m : Int) := by omega
    go_enter Yaod.func18, Yaod.ntmps18
    go_wp2_with (first | (go_at_call 17; refine cT.mono ?_; rintro e w4 ⟨rfl, q4, rfl⟩))
    all_goals
      refine wp_loop_rounds 1 ?_
      rw [rounds_succ]
      go_wp2
      go_ret2
      exact ⟨rfl, q4, rfl⟩
end Go.Proofs.YgdaogDoor
