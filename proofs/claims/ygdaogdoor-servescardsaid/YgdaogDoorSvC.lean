/-
  THE WALK OF node.Campaign.
-/
import Derived.Test.YgdaogDoorSvN
namespace Go.Proofs.YgdaogDoor
open Go.RowKit
theorem hvr_one (b vb : Nat) (n : Nd) (l : PairL) (f : ByteArray) (w : World) (hn : NodeAt w b n) (hr : n.role = 1) (hv : n.votes = .map (some vb)) (hM : MapIs w vb l) (hl : putL l f (.bool true) = l ++ [(f, .bool true)])
    (hlen : l.length ≤ 5) :
    Calls Yaod.prog 36 #[.pointer (some ⟨b, 0, none⟩), .agg #[.int .u64 n.term, .string f, .bool true]] w fun e w' =>
      MapIs w' vb (l ++ [(f, .bool true)]) ∧ Chg [b, vb] w w' ∧ e = .returned (.bool (decide (n.size < 2 * (l.length + 1)))) ∧ NodeAt w' b { n with role := if n.size < 2 * (l.length + 1) then 2 else 1 } := by
  refine (hvr_cand b vb n l f w hn hr hv hM hl hlen).mono ?_
  rintro e w' ⟨h1, h2, ⟨h3, rfl, h4⟩ | ⟨h3, rfl, h4⟩⟩
  · refine ⟨h1, h2, ?_, ?_⟩
    · rw [decide_eq_false (by omega)]
    · rw [if_neg (by omega), ← hr]; exact h4
  · refine ⟨h1, h2, ?_, ?_⟩
    · rw [decide_eq_true (by omega)]
    · rw [if_pos (by omega)]; exact h4
theorem run_loadVar_agg {w : World} {g : Nat} {t ty : TypeId} {cs : Array Value} {fr : Nat × Nat} (hg : w.heap[g]? = some (.cells cs t fr))
    (ha : Sem.run Yaod.prog (isAgg ty) w = .ok true w) (hz : Sem.run Yaod.prog (sizeOf ty) w = .ok cs.size w) : Sem.run Yaod.prog (loadVar ty ⟨g, 0, none⟩) w = .ok (.agg cs) w := by
  have hl := run_loadCells_list (P := Yaod.prog) w ⟨g, 0, none⟩ cs.toList (fun j v hv => by
      have hadd : (⟨g, 0, none⟩ : Addr).add j = ⟨g, j, none⟩ := by unfold Addr.add; split <;> simp_all
      rw [hadd, cell_of_heap hg]
      simpa using hv)
  simp only [Array.length_toList, Array.toArray_toList] at hl
  simp [loadVar, Sem.run_bind, ha, hz, hl]
theorem results_row {fn : Func} {p : Tmp} {ty : TypeId} (h : fn.results = #[.cell p ty]) (tmps : Array Value) (g : Nat) (hp : tmps.getD p undef = .pointer (some ⟨g, 0, none⟩)) {w : World} {t : TypeId} {cs : Array Value} {fr : Nat × Nat}
    (hg : w.heap[g]? = some (.cells cs t fr)) (ha : Sem.run Yaod.prog (isAgg ty) w = .ok true w) (hz : Sem.run Yaod.prog (sizeOf ty) w = .ok cs.size w) :
    (results fn tmps).run Yaod.prog w = .ok (.agg cs) w := by
  have hl := run_loadVar_agg hg ha hz
  simp only [results, h]
  have hp' : tmps[p]?.getD undef = .pointer (some ⟨g, 0, none⟩) := by simpa using hp
  simp [hp', asAddr, hl]
set_option maxRecDepth 100000 in
set_option maxHeartbeats 1000000 in
theorem campaign_any (b : Nat) (n : Nd) (cs : List ByteArray) (w : World) (hn : NodeAt w b n) (hL : LogIs w n.recs cs)
    (hs0 : 0 ≤ n.snap) (hs : n.snap ≤ 4611686018427387903) (hm : cs.length ≤ 8796093022208) (ht0 : 0 ≤ n.term) (ht : n.term ≤ 100) (ro : Int) (hro : Hid (ro = if n.size < 2 then 2 else 1)) :
    Calls Yaod.prog 44 #[.pointer (some ⟨b, 0, none⟩)] w fun e w' =>
      e = .returned (.agg #[.int .u64 (n.term + 1), .string n.id, .int .u64 (n.snap + cs.length), .int .u64 (ltOf cs)]) ∧ Chg [b] w w' ∧
      ∃ vb, w.heap.size ≤ vb ∧ MapIs w' vb [(n.id, .bool true)] ∧
        NodeAt w' b { n with term := n.term + 1, role := ro, voted := n.id, votes := .map (some vb) } := by
  have h0 := hn.c0
  have h1 := hn.c1
  have h2 := hn.c2
  have h3 := hn.c3
  have h4 := hn.c4
  have h5 := hn.c5
  have hlt := hn.lt
  have hf := hn.fz
  have HN : Hid (NodeAt w b n) := hn
  have HL : Hid (LogIs w n.recs cs) := hL
  have hmm := @run_makeMap Yaod.prog
  clear hn hL
  go_enter Yaod.func44, Yaod.ntmps44
  go_wp2
  let W1 : World := (((((w.setCell ⟨b, 2, none⟩ (.int .u64 (n.term + 1))).setCell ⟨b, 4, none⟩ (.int .u8 1)).setCell ⟨b, 3, none⟩ (.string n.id)).setCell ⟨b, 5, none⟩ (.map (some (w.heap.size + 1)))).alloc
      (.cells #[.int .u64 0, .string ⟨#[]⟩, .int .u64 0, .int .u64 0] 113)).alloc (.map #[] 0)
  have HN1 : NodeAt W1 b { n with term := n.term + 1, role := 1, voted := n.id, votes := .map (some (w.heap.size + 1)) } :=
    (((((HN.out.term _).role _).voted _).votes _).alloc _).alloc _
  have HM1 : MapIs W1 (w.heap.size + 1) [] := by
    have := MapIs.made (((((w.setCell ⟨b, 2, none⟩ (.int .u64 (n.term + 1))).setCell ⟨b, 4, none⟩ (.int .u8 1)).setCell ⟨b, 3, none⟩ (.string n.id)).setCell ⟨b, 5, none⟩ (.map (some (w.heap.size + 1)))).alloc
      (.cells #[.int .u64 0, .string ⟨#[]⟩, .int .u64 0, .int .u64 0] 113))
    simpa using this
  have HR1 : W1.heap[w.heap.size]? = some (.cells #[.int .u64 0, .string ⟨#[]⟩, .int .u64 0, .int .u64 0] 113 (0, 0)) := by
    refine heap_alloc_lt ?_
    have := heap_alloc_at ((((w.setCell ⟨b, 2, none⟩ (.int .u64 (n.term + 1))).setCell ⟨b, 4, none⟩ (.int .u8 1)).setCell ⟨b, 3, none⟩ (.string n.id)).setCell ⟨b, 5, none⟩ (.map (some (w.heap.size + 1)))) (.cells #[.int .u64 0, .string ⟨#[]⟩, .int .u64 0, .int .u64 0] 113)
    simpa using this
  have HC1 : Chg [b] w W1 := ((((((Chg.refl _ _).setCell (by simp) _).setCell (by simp) _).setCell (by simp) _).setCell (by simp) _).alloc _).alloc _
  have HL1 : LogIs W1 n.recs cs := HL.out.chg HC1 (fun g cur _ hx hg => by simp at hg; rw [hg] at hx; exact HN.out.noRow cur hx)
  clear h0 h1 h2 h3 h4 h5 hf HN HL hmm
  generalize hW : W1 = w1 at HN1 HM1 HR1 HC1 HL1
  have hW' : (((((w.setCell ⟨b, 2, none⟩ (.int .u64 (n.term + 1))).setCell ⟨b, 4, none⟩ (.int .u8 1)).setCell ⟨b, 3, none⟩ (.string n.id)).setCell ⟨b, 5, none⟩ (.map (some (w.heap.size + 1)))).alloc
      (.cells #[.int .u64 0, .string ⟨#[]⟩, .int .u64 0, .int .u64 0] 113)).alloc (.map #[] 0) = w1 := hW
  rw [hW']
  clear hW' hW W1
  have hcall := fun q => hvr_one b (w.heap.size + 1) _ [] n.id (w1.drewN q) (HN1.drewN q) rfl rfl (HM1.drewN q) rfl (by simp)
  have k0 := HN1.c0
  have k2 := HN1.c2
  dsimp only at k0 k2
  go_region_held3 (fun w' => w'.cell? ⟨b, 2, none⟩ = some (.int .u64 (n.term + 1)) ∧ w'.cell? ⟨b, 0, none⟩ = some (.string n.id)) (go_keep)
    (first | (go_at_call 36; refine (hcall _).mono ?_; rintro e w2 ⟨hM2, hC2, rfl, hN2⟩; have k02 := hN2.c0; have k22 := hN2.c2; dsimp only at k02 k22))
  have HN2 : NodeAt w2 b { n with term := n.term + 1, role := ro, voted := n.id, votes := .map (some (w.heap.size + 1)) } := by
    rw [hro.out]; simpa using hN2
  have HC2 : Chg [b, w.heap.size + 1] w1 w2 := hC2.undrewN
  have HL2 : LogIs w2 n.recs cs := HL1.chg HC2 (fun g cur _ hx hg => by
    simp at hg; rcases hg with hg | hg
    · rw [hg] at hx; exact HN1.noRow cur hx
    · rw [hg] at hx; exact HM1.noRow cur hx)
  have HR2 := HC2.at HR1 (by simp; omega)
  have HC : Chg [b] w w2 := ((HC1.mono (by simp)).trans HC2).fresh (by simp)
  clear hN2 hC2 HC2 HC1 HR1 HL1 HM1 HN1 k0 k2 hcall k02 k22
  have hlt2 := HN2.lt
  have hlr := lt_of_heap HR2
  have j0 := HN2.c0
  have j2 := HN2.c2
  dsimp only at j0 j2
  have cLI := lastIndex_log b _ cs w2 HN2 HL2 hs0 hs hm
  have cT := fun q => term_log b _ cs (w2.drewN q) (HN2.drewN q) (HL2.drewN q) hs0 hs hm
  have r0 := cell_of_heap HR2 0
  have r1 := cell_of_heap HR2 1
  have r2 := cell_of_heap HR2 2
  have r3 := cell_of_heap HR2 3
  have rf := frozen_of_heap HR2
  simp at r0 r1 r2 r3
  go_wp2_with (first | (go_at_call 57; refine cLI.mono ?_; rintro e w3 ⟨rfl, q3, rfl⟩) | (go_at_call 17; refine (cT _).mono ?_; rintro e w4 ⟨rfl, q4, rfl⟩))
  have hne : w.heap.size ≠ b := by omega
  go_region_held3 (fun w' => w'.cell? ⟨b, 2, none⟩ = some (.int .u64 (n.term + 1)) ∧ w'.cell? ⟨b, 0, none⟩ = some (.string n.id)) (simp [*, World.cell?_setCell_far]) (fail)
  go_wp2
  clear r0 r1 r2 r3 rf j0 j2 cT cLI
  have HRF := heap_setCell (i := 3) (.int .u64 (ltOf cs)) (heap_setCell (i := 2) (.int .u64 (n.snap + cs.length)) (heap_setCell (i := 1) (.string n.id) (heap_setCell (w := w2.drewN (q3 + q4 + 1)) (i := 0) (.int .u64 (n.term + 1)) HR2)))
  simp only [List.setIfInBounds_toArray, List.set_cons_zero, List.set_cons_succ] at HRF
  refine bodyPost_ret (results_row Yaod.results44 _ (w.heap.size) rfl HRF (Yaod.isAgg113 _) (Yaod.sizeOf113 _)) rfl ?_
  refine ⟨rfl, ((((HC.drewN _).setCell (Or.inr (Nat.le_refl _)) _).setCell (Or.inr (Nat.le_refl _)) _).setCell (Or.inr (Nat.le_refl _)) _).setCell (Or.inr (Nat.le_refl _)) _, w.heap.size + 1, by omega, ?_, ?_⟩
  · exact hM2.of_heap (by rw [Below.heap_setCell _ _ _ _ (by simp), Below.heap_setCell _ _ _ _ (by simp), Below.heap_setCell _ _ _ _ (by simp), Below.heap_setCell _ _ _ _ (by simp)]; rfl)
  · exact ((((HN2.drewN _).far hne.symm _).far hne.symm _).far hne.symm _).far hne.symm _
end Go.Proofs.YgdaogDoor
