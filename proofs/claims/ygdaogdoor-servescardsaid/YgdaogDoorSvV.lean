/-
  THE WALK OF node.HandleVote.
-/
import Derived.Test.YgdaogDoorSvC
namespace Go.Proofs.YgdaogDoor
open Go.RowKit
theorem heap_alloc2_0 (w : World) (A B : Obj) : ((w.alloc A).alloc B).heap[w.heap.size]? = some A := heap_alloc_lt (heap_alloc_at _ _)
theorem heap_alloc2_1 (w : World) (A B : Obj) : ((w.alloc A).alloc B).heap[w.heap.size + 1]? = some B := by
  have := heap_alloc_at (w.alloc A) B; simpa using this
set_option maxRecDepth 100000 in
set_option maxHeartbeats 1000000 in
theorem handleVote_any (b : Nat) (n : Nd) (cs : List ByteArray) (T : Int) (cid : ByteArray) (w : World) (hn : NodeAt w b n) (hL : LogIs w n.recs cs)
    (hs0 : 0 ≤ n.snap) (hs : n.snap ≤ 4611686018427387903) (hm : cs.length ≤ 8796093022208) (ht : n.term < T) (hcid : (cid.toList == []) = false) :
    Calls Yaod.prog 33 #[.pointer (some ⟨b, 0, none⟩), .agg #[.int .u64 T, .string cid, .int .u64 (n.snap + cs.length), .int .u64 (ltOf cs)]] w fun e w' =>
      e = .returned (.agg #[.int .u64 T, .string n.id, .bool true]) ∧ Chg [b] w w' ∧ NodeAt w' b { n with term := T, role := 0, voted := cid } := by
  have hlt := hn.lt
  have HN : Hid (NodeAt w b n) := hn
  have HL : Hid (LogIs w n.recs cs) := hL
  clear hn hL
  go_enter Yaod.func33, Yaod.ntmps33
  go_wp2_with fail
  refine (observe_high b n T _ ((HN.out.alloc _).alloc _) ht).mono ?_
  rintro e w1 ⟨rfl, hN1, hC1⟩
  have HB1 := hC1.at (heap_alloc2_0 w _ _) (by simp; omega)
  have HR1 := hC1.at (heap_alloc2_1 w _ _) (by simp; omega)
  have HC1 : Chg [b] w w1 := (((Chg.refl _ _).alloc _).alloc _).trans hC1
  have HL1 : LogIs w1 n.recs cs := HL.out.chg HC1 (fun g cur _ hx hg => by simp at hg; rw [hg] at hx; exact HN.out.noRow cur hx)
  clear hC1 HL HN
  have hl1 := hN1.lt
  have hlb := lt_of_heap HB1
  have hlr := lt_of_heap HR1
  have k0 := hN1.c0
  have k2 := hN1.c2
  have k3 := hN1.c3
  have kf := hN1.fz
  have b0 := cell_of_heap HB1 0
  have b1 := cell_of_heap HB1 1
  have b2 := cell_of_heap HB1 2
  have b3 := cell_of_heap HB1 3
  simp at b0 b1 b2 b3
  simp only [Nd.observe] at k0 k2 k3
  have hne : w.heap.size ≠ b := by omega
  have hne1 : w.heap.size + 1 ≠ b := by omega
  go_wp2_with fail
  have q0 := World.new_ne w1 _ k0
  have q1 := World.new_ne w1 _ k2
  go_region_held3 (fun w' => w'.cell? ⟨b, 2, none⟩ = some (.int .u64 T) ∧ w'.cell? ⟨b, 0, none⟩ = some (.string n.id)) (go_keep) (fail)
  have HN2 : NodeAt (w1.alloc (Obj.cells #[Value.int IntKind.u64 T, Value.string n.id, Value.bool false] 116)).drew b (n.observe T) := hN1.alloc _
  have HB2 : (w1.alloc (Obj.cells #[Value.int IntKind.u64 T, Value.string n.id, Value.bool false] 116)).drew.heap[w.heap.size]? = _ := heap_alloc_lt HB1
  have HR2 : (w1.alloc (Obj.cells #[Value.int IntKind.u64 T, Value.string n.id, Value.bool false] 116)).drew.heap[w.heap.size + 1]? = _ := heap_alloc_lt HR1
  have HP2 : (w1.alloc (Obj.cells #[Value.int IntKind.u64 T, Value.string n.id, Value.bool false] 116)).drew.heap[w1.heap.size]? = _ := heap_alloc_at _ _
  have HL2 : LogIs (w1.alloc (Obj.cells #[Value.int IntKind.u64 T, Value.string n.id, Value.bool false] 116)).drew n.recs cs := HL1.alloc _
  have HC2 : Chg [b] w (w1.alloc (Obj.cells #[Value.int IntKind.u64 T, Value.string n.id, Value.bool false] 116)).drew := (HC1.alloc _).drew
  clear hN1 HB1 HR1 HL1 HC1 k0 k2 k3 kf b0 b1 b2 b3 q0 q1
  generalize (w1.alloc (Obj.cells #[Value.int IntKind.u64 T, Value.string n.id, Value.bool false] 116)).drew = w2 at HN2 HB2 HR2 HP2 HL2 HC2 ⊢
  have hsz : w.heap.size + 2 ≤ w1.heap.size := by omega
  generalize w1.heap.size = rp at *
  have hl2 := HN2.lt
  have hlb2 := lt_of_heap HB2
  have hlr2 := lt_of_heap HR2
  have hlp2 := lt_of_heap HP2
  have k0 := HN2.c0
  have k2 := HN2.c2
  have k3 := HN2.c3
  have kf := HN2.fz
  have b0 := cell_of_heap HB2 0
  have b1 := cell_of_heap HB2 1
  have b2 := cell_of_heap HB2 2
  have b3 := cell_of_heap HB2 3
  simp at b0 b1 b2 b3
  simp only [Nd.observe] at k0 k2 k3
  go_wp2_with fail
  go_quiet (fail)
  have cLI : ∀ q, Calls Yaod.prog 57 #[.pointer (some ⟨b, 8, none⟩)] (w2.drewN q) fun e w' => e = .returned (.int .u64 (n.snap + cs.length)) ∧ ∃ q', w' = (w2.drewN q).drewN q' :=
    fun q => lastIndex_log b (n.observe T) cs (w2.drewN q) (HN2.drewN q) (HL2.drewN q) hs0 hs hm
  have cT : ∀ q, Calls Yaod.prog 17 #[.pointer (some ⟨b, 8, none⟩), .int .u64 (n.snap + cs.length)] (w2.drewN q) fun e w' => e = .returned (.tuple #[.int .u64 (ltOf cs), .nilIface]) ∧ ∃ q', w' = (w2.drewN q).drewN q' :=
    fun q => term_log b (n.observe T) cs (w2.drewN q) (HN2.drewN q) (HL2.drewN q) hs0 hs hm
  have p0 := cell_of_heap HP2 0
  have p1 := cell_of_heap HP2 1
  have p2 := cell_of_heap HP2 2
  have pf := frozen_of_heap HP2
  have r0 := cell_of_heap HR2 0
  have r1 := cell_of_heap HR2 1
  have r2 := cell_of_heap HR2 2
  have rf := frozen_of_heap HR2
  simp at p0 p1 p2 r0 r1 r2
  go_wp2_with (first | (go_at_call 57; refine (cLI _).mono ?_; rintro e w3 ⟨rfl, q3, rfl⟩) | (go_at_call 17; refine (cT _).mono ?_; rintro e w4 ⟨rfl, q4, rfl⟩))
  clear p0 p1 p2 pf r0 r1 r2 rf k0 k2 k3 kf b0 b1 b2 b3 cLI cT
  have HRA : (((w2.drewN (nq + q3 + q4)).setCell ⟨b, 3, none⟩ (.string cid)).setCell ⟨rp, 2, none⟩ (.bool true)).heap[w.heap.size + 1]? = some (.cells #[.int .u64 0, .string ⟨#[]⟩, .bool false] 116 (0, 0)) := by
    rw [Below.heap_setCell _ _ _ _ (by simp; omega), Below.heap_setCell _ _ _ _ (by simp; omega)]; exact HR2
  have HRF := heap_setCell (i := 2) (.bool true) (heap_setCell (i := 1) (.string n.id) (heap_setCell (i := 0) (.int .u64 T) HRA))
  simp only [List.setIfInBounds_toArray, List.set_cons_zero, List.set_cons_succ] at HRF
  refine bodyPost_ret (results_row Yaod.results33 _ (w.heap.size + 1) rfl HRF (Yaod.isAgg116 _) (Yaod.sizeOf116 _)) rfl ?_
  refine ⟨rfl, (((((HC2.drewN _).setCell (by simp) _).setCell (by simp; omega) _).setCell (by simp) _).setCell (by simp) _).setCell (by simp) _, ?_⟩
  exact (((((HN2.drewN _).voted _).far (by simp; omega) _).far (by simp; omega) _).far (by simp; omega) _).far (by simp; omega) _
end Go.Proofs.YgdaogDoor
