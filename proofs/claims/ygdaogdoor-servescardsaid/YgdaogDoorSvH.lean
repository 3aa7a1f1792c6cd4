/-
  THE WALK OF node.HandleAppend: one record, a heartbeat, an elder term.
-/
import Derived.Test.YgdaogDoorSvT
namespace Go.Proofs.YgdaogDoor
open Go.RowKit
/-- 'max(commit, min(the leader's commit, the last new index))', as the walk writes it. -/
def commitTo (c cm li : Int) : Int := if c < if li < cm then li else cm then if li < cm then li else cm else c
/-- The world at hand under a name of its own. -/
theorem wp_world {P : Program} {c : Code} {Q : Exit → Act → World → Prop} {a : Act} {w : World} (h : ∀ W, W = w → c.wp P Q a W) : c.wp P Q a w := h w rfl
theorem then_world {K : Act → World → Prop} {Q : Exit → Act → World → Prop} {e : Exit} {a : Act} {w : World} (h : ∀ W, W = w → Exit.then K Q e a W) : Exit.then K Q e a w := h w rfl
set_option maxRecDepth 100000 in
set_option maxHeartbeats 1000000 in
/-- An append of the node's own term that lays one record on at the end. -/
theorem handleAppend_one (b : Nat) (n : Nd) (cs : List ByteArray) (lead : ByteArray) (cm cm' : Int) (w : World) (r c : Nat) (cmd : ByteArray) (hn : NodeAt w b n) (hL : LogIs w n.recs cs)
    (hr0 : w.cell? ⟨r, 0, none⟩ = some (.int .u64 1)) (hr1 : w.cell? ⟨r, 1, none⟩ = some (.string cmd))
    (hs0 : 0 ≤ n.snap) (hs : n.snap ≤ 4611686018427387903) (hm : cs.length ≤ 8796093022207) (hcm : Hid (cm' = commitTo n.commit cm (n.snap + cs.length + 1))) :
    Calls Yaod.prog 39 #[.pointer (some ⟨b, 0, none⟩), .agg #[.int .u64 n.term, .string lead, .int .u64 (n.snap + cs.length), .int .u64 (ltOf cs), .slice (some ⟨r, 0, none⟩) 1 c, .int .u64 cm]] w fun e w' =>
      e = .returned (.agg #[.int .u64 n.term, .bool true, .int .u64 0, .int .u64 0]) ∧ Chg [b] w w' ∧
      ∃ v', NodeAt w' b { n with role := 0, commit := cm', recs := v' } ∧ LogIs w' v' (cs ++ [cmd]) ∧ ∃ g, v'.ownBlock = some g ∧ w.heap.size ≤ g := by
  have hlt := hn.lt
  have h2 := hn.c2
  have h4 := hn.c4
  have hf := hn.fz
  have HN : Hid (NodeAt w b n) := hn
  have HL : Hid (LogIs w n.recs cs) := hL
  clear hn hL
  go_enter Yaod.func39, Yaod.ntmps39
  go_wp2
  go_quiet (fail)
  go_wp2
  refine wp_world ?_
  intro W hW
  have HN1 : NodeAt W b { n with role := 0 } := by rw [hW]; exact (((HN.out.alloc _).alloc _).drewN _).role _
  have HC1 : Chg [b] w W := by rw [hW]; exact ((((Chg.refl _ _).alloc _).alloc _).drewN _).setCell (by simp) _
  have HL1 : LogIs W n.recs cs := HL.out.chg HC1 (fun g cur _ hx hg => by simp at hg; rw [hg] at hx; exact HN.out.noRow cur hx)
  have HB1 : W.heap[w.heap.size]? = some (.cells #[.int .u64 n.term, .string lead, .int .u64 (n.snap + cs.length), .int .u64 (ltOf cs), .slice (some ⟨r, 0, none⟩) 1 c, .int .u64 cm] 89 (0, 0)) := by
    rw [hW, Below.heap_setCell _ _ _ _ (by simp; omega)]; exact heap_alloc2_0 w _ _
  have HR1 : W.heap[w.heap.size + 1]? = some (.cells #[.int .u64 0, .bool false, .int .u64 0, .int .u64 0] 71 (0, 0)) := by
    rw [hW, Below.heap_setCell _ _ _ _ (by simp; omega)]; exact heap_alloc2_1 w _ _
  have hrlt : r < w.heap.size := World.block_lt_of_cell? w _ hr0
  have hrb : r ≠ b := by
    intro e; subst e
    have := HN.out.c0; rw [hr0] at this; cases this
  have P0 : W.cell? ⟨r, 0, none⟩ = some (.int .u64 1) := by rw [HC1.cell (by exact hrlt) (by simp; exact hrb)]; exact hr0
  have P1 : W.cell? ⟨r, 1, none⟩ = some (.string cmd) := by rw [HC1.cell (by exact hrlt) (by simp; exact hrb)]; exact hr1
  clear hW HN HL h2 h4 hf hr0 hr1
  have hl1 := HN1.lt
  have hlb := lt_of_heap HB1
  have hlr := lt_of_heap HR1
  have b2 := cell_of_heap HB1 2
  have b3 := cell_of_heap HB1 3
  have b4 := cell_of_heap HB1 4
  simp at b2 b3 b4
  have cTA : ∀ q, Calls Yaod.prog 18 #[.pointer (some ⟨b, 8, none⟩), .int .u64 (n.snap + cs.length), .int .u64 (ltOf cs), .slice (some ⟨r, 0, none⟩) 1 c] (W.drewN q) fun e w' =>
      e = .returned (.tuple #[.int .u64 (n.snap + cs.length + 1), .bool true]) ∧ Chg [b] (W.drewN q) w' ∧ ∃ v', NodeAt w' b { n with role := 0, recs := v' } ∧ LogIs w' v' (cs ++ [cmd]) ∧ ∃ g, v'.ownBlock = some g ∧ (W.drewN q).heap.size ≤ g :=
    fun q => tryAppend_one b { n with role := 0 } cs (W.drewN q) r c cmd (HN1.drewN q) (HL1.drewN q) P0 P1 hs0 hs hm
  go_region_held3 (fun w' => w'.cell? ⟨w.heap.size, 2, none⟩ = some (.int .u64 (n.snap + cs.length)) ∧ w'.cell? ⟨w.heap.size, 3, none⟩ = some (.int .u64 (ltOf cs)) ∧ w'.cell? ⟨w.heap.size, 4, none⟩ = some (.slice (some ⟨r, 0, none⟩) 1 c))
    (go_keep)
    (first | (go_at_call 18; refine (cTA _).mono ?_; rintro e w2 ⟨rfl, hC2, v', hN2, hL2, g, hg, hgs⟩; have HB2 := hC2.at HB1 (by simp; omega); have d2 := cell_of_heap HB2 2; have d3 := cell_of_heap HB2 3; have d4 := cell_of_heap HB2 4; simp at d2 d3 d4))
  have HR2 := hC2.at HR1 (by simp; omega)
  have HC2 : Chg [b] w w2 := HC1.trans hC2.undrewN
  have hgs' : w.heap.size ≤ g := Nat.le_trans HC1.size hgs
  clear hC2 HC1 HR1 HB1 HN1 HL1 P0 P1 cTA b2 b3 b4 d2 d3 d4 hgs
  have k2 := hN2.c2
  have k6 := hN2.c6
  have kf := hN2.fz
  have hl2 := hN2.lt
  dsimp only at k2 k6
  have e5 := cell_of_heap HB2 5
  have r0 := cell_of_heap HR2 0
  have r1 := cell_of_heap HR2 1
  have r2 := cell_of_heap HR2 2
  have r3 := cell_of_heap HR2 3
  have rf := frozen_of_heap HR2
  simp at e5 r0 r1 r2 r3
  generalize hli : n.snap + (cs.length : Int) + 1 = li at *
  have HLI : Hid (n.snap + (cs.length : Int) + 1 = li) := hli
  clear hli
  go_wp2
  go_region
  refine then_world ?_
  intro W3 hW3
  have hcv : (if n.commit < if li < cm then li else cm then if li < cm then li else cm else n.commit) = cm' := by rw [hcm.out]; rfl
  rw [hcv] at hW3
  have HN3 : NodeAt W3 b { n with role := 0, recs := v', commit := cm' } := by rw [hW3]; exact hN2.commit _
  have HC3 : Chg [b] w W3 := by rw [hW3]; exact (HC2.setCell (by simp) _).drew
  have HL3 : LogIs W3 v' (cs ++ [cmd]) := by rw [hW3]; exact hL2.far _ (hN2.noRow)
  have HR3 : W3.heap[w.heap.size + 1]? = some (.cells #[.int .u64 0, .bool false, .int .u64 0, .int .u64 0] 71 (0, 0)) := by rw [hW3]; exact (Below.heap_setCell _ _ _ _ (by simp; omega)).trans HR2
  clear hW3 hcv HC2 hN2 hL2 HB2 HR2 k2 k6 kf e5 r0 r1 r2 r3 rf hcm
  have hl3 := HN3.lt
  have k2 := HN3.c2
  dsimp only at k2
  have r0 := cell_of_heap HR3 0
  have r1 := cell_of_heap HR3 1
  have r2 := cell_of_heap HR3 2
  have r3 := cell_of_heap HR3 3
  have rf := frozen_of_heap HR3
  simp at r0 r1 r2 r3
  go_wp2
  all_goals
    have HRF := heap_setCell (i := 3) (.int .u64 0) (heap_setCell (i := 2) (.int .u64 0) (heap_setCell (i := 1) (.bool true) (heap_setCell (i := 0) (.int .u64 n.term) HR3)))
    simp only [List.setIfInBounds_toArray, List.set_cons_zero, List.set_cons_succ] at HRF
    clear r0 r1 r2 r3 rf k2
    refine bodyPost_ret (results_row Yaod.results39 _ (w.heap.size + 1) rfl HRF (Yaod.isAgg71 _) (Yaod.sizeOf71 _)) rfl ?_
    have hne : w.heap.size + 1 ≠ b := by omega
    refine ⟨rfl, (((HC3.setCell (by simp) _).setCell (by simp) _).setCell (by simp) _).setCell (by simp) _, v', (((HN3.far hne.symm _).far hne.symm _).far hne.symm _).far hne.symm _, ?_, g, hg, hgs'⟩
    have hnr : ∀ cur, W3.heap[w.heap.size + 1]? ≠ some (.cells cur 85 (0, 0)) := fun cur h => by rw [HR3] at h; injection h with h; injection h with h1 h2; exact absurd h2 (by decide)
    refine HL3.of_blocks fun g' cur _ hx => ?_
    have hgne : g' ≠ w.heap.size + 1 := fun e => hnr cur (by rw [← e]; exact hx)
    rw [Below.heap_setCell _ _ _ _ (by simpa using hgne), Below.heap_setCell _ _ _ _ (by simpa using hgne), Below.heap_setCell _ _ _ _ (by simpa using hgne), Below.heap_setCell _ _ _ _ (by simpa using hgne)]

set_option maxRecDepth 100000 in
set_option maxHeartbeats 1000000 in
/-- A heartbeat of the node's own term. -/
theorem handleAppend_none (b : Nat) (n : Nd) (cs : List ByteArray) (lead : ByteArray) (cm cm' : Int) (w : World) (hn : NodeAt w b n) (hL : LogIs w n.recs cs)
    (hs0 : 0 ≤ n.snap) (hs : n.snap ≤ 4611686018427387903) (hm : cs.length ≤ 8796093022208) (hcm : Hid (cm' = commitTo n.commit cm (n.snap + cs.length))) :
    Calls Yaod.prog 39 #[.pointer (some ⟨b, 0, none⟩), .agg #[.int .u64 n.term, .string lead, .int .u64 (n.snap + cs.length), .int .u64 (ltOf cs), .slice none 0 0, .int .u64 cm]] w fun e w' =>
      e = .returned (.agg #[.int .u64 n.term, .bool true, .int .u64 0, .int .u64 0]) ∧ Chg [b] w w' ∧
      NodeAt w' b { n with role := 0, commit := cm' } := by
  have hlt := hn.lt
  have h2 := hn.c2
  have h4 := hn.c4
  have hf := hn.fz
  have HN : Hid (NodeAt w b n) := hn
  have HL : Hid (LogIs w n.recs cs) := hL
  clear hn hL
  go_enter Yaod.func39, Yaod.ntmps39
  go_wp2
  go_quiet (fail)
  go_wp2
  refine wp_world ?_
  intro W hW
  have HN1 : NodeAt W b { n with role := 0 } := by rw [hW]; exact (((HN.out.alloc _).alloc _).drewN _).role _
  have HC1 : Chg [b] w W := by rw [hW]; exact ((((Chg.refl _ _).alloc _).alloc _).drewN _).setCell (by simp) _
  have HL1 : LogIs W n.recs cs := HL.out.chg HC1 (fun g cur _ hx hg => by simp at hg; rw [hg] at hx; exact HN.out.noRow cur hx)
  have HB1 : W.heap[w.heap.size]? = some (.cells #[.int .u64 n.term, .string lead, .int .u64 (n.snap + cs.length), .int .u64 (ltOf cs), .slice none 0 0, .int .u64 cm] 89 (0, 0)) := by
    rw [hW, Below.heap_setCell _ _ _ _ (by simp; omega)]; exact heap_alloc2_0 w _ _
  have HR1 : W.heap[w.heap.size + 1]? = some (.cells #[.int .u64 0, .bool false, .int .u64 0, .int .u64 0] 71 (0, 0)) := by
    rw [hW, Below.heap_setCell _ _ _ _ (by simp; omega)]; exact heap_alloc2_1 w _ _
  clear hW HN HL h2 h4 hf
  have hl1 := HN1.lt
  have hlb := lt_of_heap HB1
  have hlr := lt_of_heap HR1
  have b2 := cell_of_heap HB1 2
  have b3 := cell_of_heap HB1 3
  have b4 := cell_of_heap HB1 4
  simp at b2 b3 b4
  have cTA : ∀ q, Calls Yaod.prog 18 #[.pointer (some ⟨b, 8, none⟩), .int .u64 (n.snap + cs.length), .int .u64 (ltOf cs), .slice none 0 0] (W.drewN q) fun e w' =>
      e = .returned (.tuple #[.int .u64 (n.snap + cs.length), .bool true]) ∧ ∃ q', w' = (W.drewN q).drewN q' :=
    fun q => tryAppend_none b { n with role := 0 } cs (W.drewN q) (HN1.drewN q) (HL1.drewN q) hs0 hs hm
  go_region_held3 (fun w' => w'.cell? ⟨w.heap.size, 2, none⟩ = some (.int .u64 (n.snap + cs.length)) ∧ w'.cell? ⟨w.heap.size, 3, none⟩ = some (.int .u64 (ltOf cs)) ∧ w'.cell? ⟨w.heap.size, 4, none⟩ = some (.slice none 0 0))
    (go_keep)
    (first | (go_at_call 18; refine (cTA _).mono ?_; rintro e w2 ⟨rfl, q2, rfl⟩))
  refine then_world ?_
  intro w2 hw2
  have hN2 : NodeAt w2 b { n with role := 0 } := by rw [hw2]; exact HN1
  have HB2 : w2.heap[w.heap.size]? = some (.cells #[.int .u64 n.term, .string lead, .int .u64 (n.snap + cs.length), .int .u64 (ltOf cs), .slice none 0 0, .int .u64 cm] 89 (0, 0)) := by rw [hw2]; exact HB1
  have HR2 : w2.heap[w.heap.size + 1]? = some (.cells #[.int .u64 0, .bool false, .int .u64 0, .int .u64 0] 71 (0, 0)) := by rw [hw2]; exact HR1
  have HC2 : Chg [b] w w2 := by rw [hw2]; first | exact (HC1.drewN _).drewN _ | exact HC1.drewN _
  clear hw2 HC1 HR1 HB1 HN1 HL1 cTA b2 b3 b4
  have k2 := hN2.c2
  have k6 := hN2.c6
  have kf := hN2.fz
  have hl2 := hN2.lt
  dsimp only at k2 k6
  have e5 := cell_of_heap HB2 5
  have r0 := cell_of_heap HR2 0
  have r1 := cell_of_heap HR2 1
  have r2 := cell_of_heap HR2 2
  have r3 := cell_of_heap HR2 3
  have rf := frozen_of_heap HR2
  simp at e5 r0 r1 r2 r3
  generalize hli : n.snap + (cs.length : Int) = li at *
  have HLI : Hid (n.snap + (cs.length : Int) = li) := hli
  clear hli
  go_wp2
  go_region
  refine then_world ?_
  intro W3 hW3
  have hcv : (if n.commit < if li < cm then li else cm then if li < cm then li else cm else n.commit) = cm' := by rw [hcm.out]; rfl
  rw [hcv] at hW3
  have HN3 : NodeAt W3 b { n with role := 0, commit := cm' } := by rw [hW3]; exact hN2.commit _
  have HC3 : Chg [b] w W3 := by rw [hW3]; exact (HC2.setCell (by simp) _).drew
  have HR3 : W3.heap[w.heap.size + 1]? = some (.cells #[.int .u64 0, .bool false, .int .u64 0, .int .u64 0] 71 (0, 0)) := by rw [hW3]; exact (Below.heap_setCell _ _ _ _ (by simp; omega)).trans HR2
  clear hW3 hcv HC2 hN2 HB2 HR2 k2 k6 kf e5 r0 r1 r2 r3 rf hcm
  have hl3 := HN3.lt
  have k2 := HN3.c2
  dsimp only at k2
  have r0 := cell_of_heap HR3 0
  have r1 := cell_of_heap HR3 1
  have r2 := cell_of_heap HR3 2
  have r3 := cell_of_heap HR3 3
  have rf := frozen_of_heap HR3
  simp at r0 r1 r2 r3
  go_wp2
  all_goals
    have HRF := heap_setCell (i := 3) (.int .u64 0) (heap_setCell (i := 2) (.int .u64 0) (heap_setCell (i := 1) (.bool true) (heap_setCell (i := 0) (.int .u64 n.term) HR3)))
    simp only [List.setIfInBounds_toArray, List.set_cons_zero, List.set_cons_succ] at HRF
    clear r0 r1 r2 r3 rf k2
    refine bodyPost_ret (results_row Yaod.results39 _ (w.heap.size + 1) rfl HRF (Yaod.isAgg71 _) (Yaod.sizeOf71 _)) rfl ?_
    have hne : w.heap.size + 1 ≠ b := by omega
    exact ⟨rfl, (((HC3.setCell (by simp) _).setCell (by simp) _).setCell (by simp) _).setCell (by simp) _, (((HN3.far hne.symm _).far hne.symm _).far hne.symm _).far hne.symm _⟩

set_option maxRecDepth 100000 in
set_option maxHeartbeats 1000000 in
/-- An append of an elder term is refused. -/
theorem handleAppend_old (b : Nat) (n : Nd) (t : Int) (lead : ByteArray) (p pt cm : Int) (w : World) (hn : NodeAt w b n) (ht : t < n.term) :
    Calls Yaod.prog 39 #[.pointer (some ⟨b, 0, none⟩), .agg #[.int .u64 t, .string lead, .int .u64 p, .int .u64 pt, .slice none 0 0, .int .u64 cm]] w fun e w' =>
      e = .returned (.agg #[.int .u64 n.term, .bool false, .int .u64 0, .int .u64 0]) ∧ Chg [] w w' := by
  have hlt := hn.lt
  have h2 := hn.c2
  clear hn
  have hle : t ≤ n.term := by omega
  go_enter Yaod.func39, Yaod.ntmps39
  go_wp2
  go_quiet (fail)
  refine then_world ?_
  intro W hW
  have HR1 : W.heap[w.heap.size + 1]? = some (.cells #[.int .u64 0, .bool false, .int .u64 0, .int .u64 0] 71 (0, 0)) := by rw [hW]; exact heap_alloc2_1 w _ _
  have HC1 : Chg [] w W := by rw [hW]; exact (((Chg.refl _ _).alloc _).alloc _).drewN _
  have k2 : W.cell? ⟨b, 2, none⟩ = some (.int .u64 n.term) := by rw [HC1.cell (by exact hlt) (by simp)]; exact h2
  clear hW h2
  have hlr := lt_of_heap HR1
  have r0 := cell_of_heap HR1 0
  have r1 := cell_of_heap HR1 1
  have r2 := cell_of_heap HR1 2
  have r3 := cell_of_heap HR1 3
  have rf := frozen_of_heap HR1
  simp at r0 r1 r2 r3
  go_wp2
  have HRF := heap_setCell (i := 3) (.int .u64 0) (heap_setCell (i := 2) (.int .u64 0) (heap_setCell (i := 1) (.bool false) (heap_setCell (i := 0) (.int .u64 n.term) HR1)))
  simp only [List.setIfInBounds_toArray, List.set_cons_zero, List.set_cons_succ] at HRF
  clear r0 r1 r2 r3 rf k2
  refine bodyPost_ret (results_row Yaod.results39 _ (w.heap.size + 1) rfl HRF (Yaod.isAgg71 _) (Yaod.sizeOf71 _)) rfl ?_
  exact ⟨rfl, (((HC1.setCell (by simp) _).setCell (by simp) _).setCell (by simp) _).setCell (by simp) _⟩
end Go.Proofs.YgdaogDoor
