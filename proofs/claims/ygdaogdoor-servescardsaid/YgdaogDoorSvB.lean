import Derived.Test.YgdaogDoorSvW
import Derived.Test.YgdaogDoorSvZ
namespace Go.Proofs.YgdaogDoor
open Go.RowKit
theorem heap_alloc_eq {w : World} {o : Obj} {n : Nat} (h : n = w.heap.size) : (w.alloc o).heap[n]? = some o := by subst h; exact heap_alloc_at _ _
theorem MapIs.made_eq {w : World} {n : Nat} (h : n = w.heap.size) : MapIs (w.alloc (.map #[] 0)) n [] := by subst h; exact MapIs.made _
def nilRow (k : Nat) : Array Value := Array.replicate k (.pointer none)
theorem mk1 (W : World) : Sem.run Yaod.prog (Instr.makeSlice 43 (.int .i64 1) (.int .i64 1)) W = .ok (.slice (some ⟨W.heap.size, 0, none⟩) 1 1) (W.alloc (.cells (nilRow 1) 44)) := by kernel_rfl
theorem mk2 (W : World) : Sem.run Yaod.prog (Instr.makeSlice 43 (.int .i64 2) (.int .i64 2)) W = .ok (.slice (some ⟨W.heap.size, 0, none⟩) 2 2) (W.alloc (.cells (nilRow 2) 44)) := by kernel_rfl
theorem mk3 (W : World) : Sem.run Yaod.prog (Instr.makeSlice 43 (.int .i64 3) (.int .i64 3)) W = .ok (.slice (some ⟨W.heap.size, 0, none⟩) 3 3) (W.alloc (.cells (nilRow 3) 44)) := by kernel_rfl
theorem mk4 (W : World) : Sem.run Yaod.prog (Instr.makeSlice 43 (.int .i64 4) (.int .i64 4)) W = .ok (.slice (some ⟨W.heap.size, 0, none⟩) 4 4) (W.alloc (.cells (nilRow 4) 44)) := by kernel_rfl
theorem mk5 (W : World) : Sem.run Yaod.prog (Instr.makeSlice 43 (.int .i64 5) (.int .i64 5)) W = .ok (.slice (some ⟨W.heap.size, 0, none⟩) 5 5) (W.alloc (.cells (nilRow 5) 44)) := by kernel_rfl
theorem make_nodes (k : Nat) (h1 : 1 ≤ k) (h5 : k ≤ 5) (W : World) : Sem.run Yaod.prog (Instr.makeSlice 43 (.int .i64 k) (.int .i64 k)) W = .ok (.slice (some ⟨W.heap.size, 0, none⟩) k k) (W.alloc (.cells (nilRow k) 44)) := by
  have h : k = 1 ∨ k = 2 ∨ k = 3 ∨ k = 4 ∨ k = 5 := by omega
  rcases h with rfl | rfl | rfl | rfl | rfl
  · exact mk1 W
  · exact mk2 W
  · exact mk3 W
  · exact mk4 W
  · exact mk5 W
def nd0 (k : Nat) (base : Int) (j : Nat) : Nd :=
  { id := idb j, size := k, term := 0, voted := ⟨#[]⟩, role := 0, votes := .map none, commit := base, applied := base, snap := base, recs := .slice none 0 0 }
/-- While the nodes are being laid: the first i of them stand. -/
structure Laying (w0 w : World) (B k wi i : Nat) (base : Int) : Prop where
  ids : w.heap[B]? = some (.cells idsCells 41 (0, 0))
  wb : w.heap[B + 1]? = some (.cells #[.int .i64 wi] 3 (0, 0))
  row : ∃ cur, w.heap[B + 2]? = some (.cells cur 44 (0, 0)) ∧ cur.size = k ∧ ∀ j, j < i → cur[j]? = some (.pointer (some ⟨B + 6 + j, 0, none⟩))
  nv : w.heap[B + 3]? = some (.cells #[.slice (some ⟨B + 2, 0, none⟩) k k] 43 (0, 0))
  pm : MapIs w (B + 4) (peersL wi i fun _ => (0, base + 1))
  pv : w.heap[B + 5]? = some (.cells #[.map (some (B + 4))] 74 (0, 0))
  nodes : ∀ j, j < i → NodeAt w (B + 6 + j) (nd0 k base j)
  size : w.heap.size = B + 6 + i
  chg : Chg [] w0 w
theorem Beat.chg0 {w0 w w' : World} {B k wi LB hb : Nat} {base : Int} {bk : Value} {cs : List ByteArray} {nd : Nat → Nd} {j : Nat} (h : Beat w0 w B k wi LB hb base bk cs nd j) (hC : Chg [] w w') : Beat w0 w' B k wi LB hb base bk cs nd j :=
  ⟨h.st.chg hC (by simp), fun i hi => (h.nodes i hi).chg hC (by simp), h.ok, fun i hi => (h.logs i hi).chg hC (by simp), h.lec, h.com, hC.at h.lb (by simp), h.lbg, h.book.chg hC (by simp), h.hit.chg hC (by simp), h.hitb, h.wB, h.chg.trans (hC.mono (by simp))⟩
set_option maxRecDepth 1000000 in
set_option maxHeartbeats 16000000 in
theorem serves_any (hb k wi : Nat) (size who base0 base : Int) (a0 : Option Addr) (m cap : Nat) (ss : List ByteArray) (w : World) (hsz0 : 0 ≤ size) (hsz : size ≤ 255) (hw0 : 0 ≤ who) (hw1 : who ≤ 255) (hb0 : 0 ≤ base0) (hb1 : base0 ≤ 18446744073709551615)
    (hke : 1 + size % 5 = (k : Int)) (hwe : who % (k : Int) = (wi : Int)) (hbe : base0 / 4 = base)
    (hm : m ≤ 8796093022000) (hssl : m = ss.length) (hss : m = 0 ∨ ∃ cb off, a0 = some ⟨cb, off, none⟩ ∧ cb < w.heap.size ∧ ∀ i (hi : i < ss.length), w.cell? ⟨cb, off + i, none⟩ = some (.string ss[i]))
    (hhit : ∃ tc, w.heap[hb]? = some (.cells tc 27 (0, 0)) ∧ tc.size = 8 ∧ ∀ i, i < 8 → ∃ n, tc[i]? = some (.int .i64 n)) :
    Calls Yaod.prog 12 #[.int .u8 size, .int .u8 who, .int .u64 base0, .slice a0 m cap, .pointer (some ⟨hb, 0, none⟩)] w fun e w' => e = .returned (.bool true) ∧ Chg [hb] w w' := by
  have hmm := @run_makeMap Yaod.prog
  have HSL0 := hide hssl
  clear hssl
  have hk1 : 1 ≤ k := by omega
  have hk5 : k ≤ 5 := by omega
  have hwk : wi < k := by have := Int.emod_lt_of_pos who (show (0 : Int) < k by omega); omega
  have hms := make_nodes k hk1 hk5
  have hbs0 : 0 ≤ base := by omega
  have hbs1 : base ≤ 4611686018427387903 := by omega
  go_enter Yaod.func12, Yaod.ntmps12
  go_wp2
  refine wp_world ?_
  intro W hW
  have hB : ∃ B, B = w.heap.size := ⟨_, rfl⟩
  obtain ⟨B, hB⟩ := hB
  have LAY0 : Laying w W B k wi 0 base := by
    subst hB
    rw [hW]
    refine ⟨?_, ?_, ⟨nilRow k, ?_, by simp [nilRow], by omega⟩, ?_, ?_, ?_, by omega, by simp, ?_⟩
    · exact heap_alloc_lt (heap_alloc_lt (heap_alloc_lt (heap_alloc_lt (heap_alloc_lt (heap_alloc_at _ _)))))
    · exact heap_alloc_lt (heap_alloc_lt (heap_alloc_lt (heap_alloc_lt (heap_alloc2_1 _ _ _))))
    · exact heap_alloc_lt (heap_alloc_lt (heap_alloc_lt (heap_alloc_eq (by simp))))
    · exact heap_alloc_lt (heap_alloc_lt (heap_alloc_eq (by simp)))
    · exact MapIs.alloc (MapIs.made_eq (by simp)) _
    · exact heap_alloc_eq (by simp)
    · exact ((((((Chg.refl _ _).alloc _).alloc _).alloc _).alloc _).alloc _).alloc _
  rw [show w.heap.size + 1 + 1 + 1 + 1 + 1 = B + 5 from by omega, show w.heap.size + 1 + 1 + 1 + 1 = B + 4 from by omega, show w.heap.size + 1 + 1 + 1 = B + 3 from by omega, show w.heap.size + 1 + 1 = B + 2 from by omega, show w.heap.size + 1 = B + 1 from by omega, ← hB]
  have HB : Hid (B = w.heap.size) := hB
  clear hW hB hmm hms hke hwe hbe
  go_loopw [57] (fun i wr => ∃ j : Nat, j ≤ k ∧ i = .int .i64 j ∧ Laying w wr B k wi j base) (fun i _ => k - (intOf i).toNat)
  case atStart => exact ⟨0, Nat.zero_le _, rfl, LAY0⟩
  case round =>
    obtain ⟨j, hj, rfl, hLay⟩ := hrel
    by_cases hjk : j < k
    · --<<L1
      obtain ⟨cur, hrow, hcsz, hcur⟩ := hLay.row
      have a3 : wr.cell? ⟨B + 3, 0, none⟩ = some (.slice (some ⟨B + 2, 0, none⟩) k k) := cell_of_heap hLay.nv 0
      have a0 : wr.cell? ⟨B, j, none⟩ = some (.string (idb j)) := by rw [cell_of_heap hLay.ids]; exact ids_at j (by omega)
      have a1 : wr.cell? ⟨B + 1, 0, none⟩ = some (.int .i64 wi) := cell_of_heap hLay.wb 0
      have a5 : wr.cell? ⟨B + 5, 0, none⟩ = some (.map (some (B + 4))) := cell_of_heap hLay.pv 0
      have a2 : ∃ v, wr.cell? ⟨B + 2, j, none⟩ = some v := ⟨_, by rw [cell_of_heap hrow]; exact Array.getElem?_eq_getElem (by omega)⟩
      obtain ⟨v2, a2⟩ := a2
      have f2 : wr.frozen? ⟨B + 2, j, none⟩ = false := frozen_of_heap hrow j
      have hsize := hLay.size
      have HSZ : Hid (wr.heap.size = B + 6 + j) := hsize
      have s0 : B < wr.heap.size := by omega
      have s1 : B + 1 < wr.heap.size := by omega
      have s2 : B + 2 < wr.heap.size := by omega
      have s3 : B + 3 < wr.heap.size := by omega
      have s5 : B + 5 < wr.heap.size := by omega
      have n2 : wr.heap.size ≠ B + 2 := by omega
      have n3 : wr.heap.size ≠ B + 3 := by omega
      have n0 : wr.heap.size ≠ B := by omega
      have hj5 : (j : Int) < 5 := by omega
      clear hsize
      generalize hidj : idb j = idj at a0
      have HIDJ : Hid (idb j = idj) := hidj
      clear hidj
      go_wp2
      go_region_held3 (fun w' => w'.cell? ⟨B + 3, 0, none⟩ = some (.slice (some ⟨B + 2, 0, none⟩) k k) ∧ w'.cell? ⟨B, j, none⟩ = some (.string idj)) (simp [*, World.cell?_alloc_some, World.cell?_setCell_far]) (fail)
      refine then_world ?_
      intro W2 hW2
      have hne : ∀ b o, b ≠ B + 2 → wr.heap[b]? = some o → W2.heap[b]? = some o := fun b o hb ho => by
        rw [hW2]
        refine heap_alloc_lt (w := wr.setCell _ _) ?_
        rw [Below.heap_setCell _ _ _ _ (by simpa using hb)]; exact ho
      have Q0 := hne B _ (by omega) hLay.ids
      have Q1 := hne (B + 1) _ (by omega) hLay.wb
      have Q3 := hne (B + 3) _ (by omega) hLay.nv
      have Q5 := hne (B + 5) _ (by omega) hLay.pv
      have Q4 : MapIs W2 (B + 4) (peersL wi j fun _ => (0, base + 1)) := by
        obtain ⟨es, c, g1, g2⟩ := hLay.pm
        exact ⟨es, c, hne _ _ (by omega) g1, g2⟩
      have QN : ∀ i, i < j + 1 → NodeAt W2 (B + 6 + i) (nd0 k base i) := fun i hi => by
        rcases Nat.lt_or_ge i j with h | h
        · exact hne _ _ (by omega) (hLay.nodes i h)
        · have : i = j := by omega
          subst this
          rw [hW2]
          have := heap_alloc_eq (w := wr.setCell ⟨B + 2, i, none⟩ (.pointer (some ⟨wr.heap.size, 0, none⟩))) (o := .cells (nd0 k base i).cells 51) (n := B + 6 + i) (by simp; exact HSZ.out.symm)
          unfold nd0 Nd.cells at this
          rw [HIDJ.out] at this
          unfold NodeAt nd0 Nd.cells
          rw [HIDJ.out]
          exact this
      have QR : ∃ cur, W2.heap[B + 2]? = some (.cells cur 44 (0, 0)) ∧ cur.size = k ∧ ∀ i, i < j + 1 → cur[i]? = some (.pointer (some ⟨B + 6 + i, 0, none⟩)) := by
        refine ⟨cur.setIfInBounds j (.pointer (some ⟨wr.heap.size, 0, none⟩)), ?_, by simpa using hcsz, fun i hi => ?_⟩
        · rw [hW2]; exact heap_alloc_lt (heap_setCell _ hrow)
        · rcases Nat.lt_or_ge i j with h | h
          · rw [Array.getElem?_setIfInBounds_ne (by omega)]; exact hcur i h
          · have : i = j := by omega
            subst this
            rw [Array.getElem?_setIfInBounds_self_of_lt (by omega), HSZ.out]
      have QS : W2.heap.size = B + 6 + (j + 1) := by rw [hW2]; simp; have := HSZ.out; omega
      have QC : Chg [] w W2 := by rw [hW2]; exact ((hLay.chg.setCell (Or.inr (by have := HB.out; simp; omega)) _).alloc _).drew
      have b1 : W2.cell? ⟨B + 1, 0, none⟩ = some (.int .i64 wi) := cell_of_heap Q1 0
      have b5 : W2.cell? ⟨B + 5, 0, none⟩ = some (.map (some (B + 4))) := cell_of_heap Q5 0
      have b0 : W2.cell? ⟨B, j, none⟩ = some (.string idj) := by rw [cell_of_heap Q0, ← HIDJ.out]; exact ids_at j (by omega)
      by_cases hjw : j = wi
      · have e1 : ((j : Int) != (wi : Int)) = false := by rw [bne_eq_false_iff_eq]; omega
        have LAY : Laying w W2 B k wi (j + 1) base := ⟨Q0, Q1, QR, Q3, by
          have e : peersL wi (j + 1) (fun _ => (0, base + 1)) = peersL wi j (fun _ => (0, base + 1)) := by unfold peersL; rw [others_succ, if_pos hjw]
          rw [e]; exact Q4, Q5, QN, QS, QC⟩
        clear hW2 hne Q0 Q1 Q3 Q5 Q4 QN QR QS QC hLay LAY0 hrow hcur a0 a1 a2 a3 a5 f2 s0 s1 s2 s3 s5 n0 n2 n3 b0 b5
        go_wp2
        go_roundw
        case rel => exact ⟨j + 1, by omega, by go_num, LAY⟩
        case measure => simp [intOf]; omega
      · have e1 : ((j : Int) != (wi : Int)) = true := by rw [bne_iff_ne]; omega
        obtain ⟨o, hupd0, hM2⟩ := run_mapUpdate_l (P := Yaod.prog) (mty := 74) (kt := 9) (et := 87) (by kernel_rfl) (by kernel_rfl) Q4 idj (.agg #[.int .u64 0, .int .u64 (base + 1)])
        have hupd := hupd0 W2.drew rfl
        have HM2 : Hid (MapIs (setB W2.drew (B + 4) o) (B + 4) (putL (peersL wi j fun _ => (0, base + 1)) idj (.agg #[.int .u64 0, .int .u64 (base + 1)]))) := hM2 _ rfl
        have wr1 : IntKind.u64.wrap (base + 1) = base + 1 := wrap_u64_of _ (by omega) (by omega)
        have m5 : B + 5 ≠ B + 4 := by omega
        have m0 : B ≠ B + 4 := by omega
        clear hupd0 hM2
        clear hW2 hLay LAY0 hrow hcur a0 a1 a2 a3 a5 f2 s0 s1 s2 s3 s5 n0 n2 n3
        go_wp2
        go_region_held3 (fun w' => w'.cell? ⟨B + 5, 0, none⟩ = some (.map (some (B + 4))) ∧ w'.cell? ⟨B, j, none⟩ = some (.string idj)) (simp [*, cell?_setB_far]) (fail)
        have LAY : Laying w (setB W2.drew (B + 4) o) B k wi (j + 1) base := ⟨(heap_setB_ne _ (by omega)).trans Q0, (heap_setB_ne _ (by omega)).trans Q1, by
            obtain ⟨cur, g1, g2, g3⟩ := QR
            exact ⟨cur, (heap_setB_ne _ (by omega)).trans g1, g2, g3⟩, (heap_setB_ne _ (by omega)).trans Q3, by
            have e := putL_peers_new wi j (fun _ => ((0 : Int), base + 1)) hjw (by omega)
            rw [← e]; rw [HIDJ.out]; exact HM2.out, (heap_setB_ne _ (by omega)).trans Q5, fun i hi => (heap_setB_ne _ (by omega)).trans (QN i hi), by rw [size_setB]; exact QS, (QC.drew).setB (Or.inr (by have := HB.out; omega)) _⟩
        clear Q0 Q1 Q3 Q5 Q4 QN QR QS QC b0 b5 b1 hupd HM2
        go_wp2
        go_roundw
        case rel => exact ⟨j + 1, by omega, by go_num, LAY⟩
        case measure => simp [intOf]; omega
      -->>L1
    · have hjk' : j = k := by omega
      subst hjk'
      obtain ⟨cur, hrow, hcsz, hcur⟩ := hLay.row
      have a3 : wr.cell? ⟨B + 3, 0, none⟩ = some (.slice (some ⟨B + 2, 0, none⟩) j j) := cell_of_heap hLay.nv 0
      have a1 : wr.cell? ⟨B + 1, 0, none⟩ = some (.int .i64 wi) := cell_of_heap hLay.wb 0
      have a2 : wr.cell? ⟨B + 2, wi, none⟩ = some (.pointer (some ⟨B + 6 + wi, 0, none⟩)) := by rw [cell_of_heap hrow]; exact hcur wi hwk
      have s1 : B + 1 < wr.heap.size := by have := hLay.size; omega
      have s3 : B + 3 < wr.heap.size := by have := hLay.size; omega
      have hSt : Stat (wr.alloc (.cells #[.pointer (some ⟨B + 6 + wi, 0, none⟩)] 44)) B j wi :=
        ⟨heap_alloc_lt hLay.ids, heap_alloc_lt hLay.wb, ⟨cur, heap_alloc_lt hrow, hcur⟩, heap_alloc_lt hLay.nv, heap_alloc_lt hLay.pv, heap_alloc_eq hLay.size.symm⟩
      have cE := elect_any B j wi wi (nd0 j base) [] base 1 _ hSt (fun i hi => (hLay.nodes i hi).alloc _) (fun i _ => LogIs.nil _) (fun _ _ => rfl) (fun _ _ => rfl) (fun _ _ => rfl) (fun _ _ => by show (0 : Int) < 1; omega) rfl (by show (0 : Int) ≤ 0; omega) (by omega) rfl hwk hk5 hbs0 hbs1 (by simp)
      have e00 : base + (([] : List ByteArray).length : Int) = base := by simp
      rw [e00] at cE
      have hPM := hLay.pm.alloc (.cells #[.pointer (some ⟨B + 6 + wi, 0, none⟩)] 44)
      have hCA : Chg [] w (wr.alloc (.cells #[.pointer (some ⟨B + 6 + wi, 0, none⟩)] 44)) := hLay.chg.alloc _
      have hszA : wr.heap.size = B + 6 + j := hLay.size
      have HSZ : Hid (wr.heap.size = B + 6 + j) := hszA
      clear hLay LAY0 hrow hcsz hcur e00 hszA
      go_wp2_with fail
      refine cE.mono ?_
      rintro e w1 ⟨rfl, hC1, vb, hvb, hN1⟩
      have hS1 : Stat w1 B j wi := hSt.chg hC1 (fun x hx => by have := mem_nodeBlocks.1 hx; omega)
      have hP1 := hPM.chg hC1 (fun hx => by have := mem_nodeBlocks.1 hx; omega)
      have hC0 : Chg [] w w1 := ((hCA.mono (S' := nodeBlocks B j) (by simp)).trans hC1).fresh (fun x hx => Or.inr (by have := mem_nodeBlocks.1 hx; have := HB.out; omega))
      have hs1 := hC1.size
      have hs2 : B + 7 + j ≤ w1.heap.size := by have := HSZ.out; simp at hs1; omega
      clear cE hC1 hSt hPM hCA a1 a2 a3 s1 s3 hs1
      rw [HSZ.out]
      have hw1 := hwk
      have HIT0 : HitAt w hb := hhit
      have hhb : hb < B := by rw [HB.out]; exact HIT0.lt
      have hwz : w.heap.size = B := HB.out.symm
      have SV : Served w (w1.alloc (.cells #[.int .u64 base] 22)) B j wi w1.heap.size hb base (.slice none 0 0) [] (elNd (nd0 j base) wi 1 j vb j) (fun _ => (0, base + 1)) := by
        have hCc : Chg [hb] w (w1.alloc (.cells #[.int .u64 base] 22)) := (hC0.mono (by simp)).alloc _
        have e00 : base + (([] : List ByteArray).length : Int) = base := by simp
        have en : ∀ i, i < j → elNd (nd0 j base) wi 1 j vb j i = { nd0 j base i with term := 1, role := if i = wi then 2 else 0, voted := idb wi, votes := if i = wi then .map (some vb) else .map none } := fun i hi => by
          unfold elNd
          by_cases e : i = wi
          · subst e
            simp only [if_true]
            unfold crole
            rw [votesTo_all i j hwk, if_pos (by omega)]
          · rw [if_neg e, if_pos hi, if_neg e, if_neg e]; rfl
        refine ⟨⟨hS1.alloc _, hP1.alloc _, fun i hi => (hN1 i hi).alloc _, fun i hi => ?_, ?_, by omega, LogIs.nil _, fun i hi g hg => by simp [Value.ownBlock], HIT0.chg (hC0.alloc _) (by simp), hhb, by omega, hCc⟩, fun i hi => ?_, fun i hi hw => ?_, ?_, fun i hi hw => rfl, fun g hg => by simp [Value.ownBlock] at hg⟩
        · rw [en i hi]; exact ⟨rfl, rfl, rfl, rfl, rfl, rfl⟩
        · rw [e00]; exact heap_alloc_at _ _
        · rw [en i hi]; exact LogIs.nil _
        · rw [en i hi, e00]; exact Int.le_refl _
        · rw [en wi hwk, e00]; rfl
      have hss2 : m = 0 ∨ ∃ cb off, a0 = some ⟨cb, off, none⟩ ∧ ∀ W, Chg [hb] w W → ∀ i (hi : i < ss.length), W.cell? ⟨cb, off + i, none⟩ = some (.string ss[i]) := by
        rcases hss with h | ⟨cb, off, h1, h2, h3⟩
        · exact Or.inl h
        · refine Or.inr ⟨cb, off, h1, fun W hW i hi => ?_⟩
          rw [hW.cell (by exact h2) (by
            simp only [List.mem_singleton]
            rintro rfl
            have h4 := h3 i hi
            obtain ⟨tc, t1, t2, t3⟩ := HIT0
            rw [cell_of_heap t1] at h4
            by_cases h8 : off + i < 8
            · obtain ⟨x, hx⟩ := t3 _ h8
              rw [hx] at h4; cases h4
            · rw [Array.getElem?_eq_none (by omega)] at h4; cases h4)]
          exact h3 i hi
      have HSV := hide SV
      have HSS := hide hss2
      have HSL := HSL0
      have HHB := hide hwz
      clear SV hss2 hwz hS1 hP1 hN1 hC0 HIT0 hhit hss
      go_wp2
      refine loop2 w _ B j wi _ hb m cap base a0 ss _ _ _ _ _ _ _ _ _ _ _ _ _ _ _ _ _ _ _ _ _ _ _ _ _ _ _ _ _ _ _ _ _ _ _ _ _ _ _ _ _ _ _ _ _ _ _ _ _ _ _ _ _ _ _ _ _ _ _ _ _ _ _ _ _ _ _ _ _ _ _ _ _ _ _ _ _ _ _ _ _ _ _ _ _ _ _ _ _ _ _ _ _ _ _ _ _ _ _ _ _ _ _ _ _ _ _ _ _ _ _ _ _ _ _ _ _ _ _ _ _ _ _ _ _ _ _ _ _ _ _ _ _ _ _ _ _ _ _ _ _ _ _ _ _ _ _ _ _ _ _ _ _ _ _ _ _ _ _ _ _ _ _ _ _ _ _ _ _ _ _ _ _ _ _ _ _ _ _ _ _ _ _ _ _ _ _ _ _ _ _ _ _ _ _ _ _ _ _ _ _ _ _ _ _ _ _ _ _ _ _ _ _ _ _ _ _ _ _ _ _ _ _ _ _ _ _ _ _ _ _ _ _ _ _ _ _ _ _ _ _ _ _ _ _ _ _ _ _ _ _ _ _ _ _ _ _ _ _ _ _ _ _ _ _ _ _ _ _ _ _ _ _ _ _ _ _ _ _ _ _ _ _ _ _ _ _ _ _ _ _ _ _ _ _ _ _ _ _ _ _ _ _ _ _ _ _ _ _ _ _ _ _ _ _ _ _ _ _ _ _ _ _ _ _ _ _ _ _ _ _ _ _ _ _ _ _ _ _ _ _ _ _ _ _ _ _ _ _ _ _ _ _ _ _ _ _ _ _ _ _ _ _ _ _ _ _ _ _ _ _ _ _ _ _ _ _ _ _ _ _ _ _ _ _ _ _ _ _ _ _ _ _ _ _ _ _ _ _ _ _ _ _ _ _ HSV.out hwk hk5 hbs0 hbs1 HSL.out.symm hm HSS.out _ ?_
      intro q10 q23 q24 q25 q26 q27 q28 q29 q30 q31 q32 q33 q34 q97 q98 q99 q100 q101 q102 q103 q104 q105 q106 q107 q108 q109 q110 q111 q112 q113 q114 q115 q116 q117 q118 q119 q120 q121 q122 q123 q124 q125 q126 q127 q128 q129 q130 q131 q132 q133 q134 q135 q136 q137 q138 q139 q140 q141 q142 q143 q144 q145 q146 q147 q148 q149 q150 q151 q152 q153 q154 q155 q156 q157 q158 q159 q160 q161 q162 q163 q164 q165 q166 q167 q168 q169 q170 q171 q172 q173 q174 q175 q176 q177 q178 q179 q180 q181 q182 q183 q184 q185 q186 q187 q188 q189 q190 q191 q192 q193 q194 q195 q196 q197 q198 q199 q200 q201 q202 q203 q204 q205 q206 q207 q208 q209 q210 q211 q212 q213 q214 q215 q216 q217 q218 q219 q220 q221 q222 q223 q224 q225 q226 q227 q228 q229 q230 q231 q232 q233 q234 q235 q236 q237 q238 q239 q240 q241 q242 q243 q244 q245 q246 q247 q248 q249 q250 bk2 W2 nd2 f2 hSv2
      have hsl : ss.length ≤ 8796093022000 := by have := HSL.out; omega
      have HBT := hide (hSv2.beat hwk)
      have y3 := hSv2.com.st.n_at
      clear hSv2 HSV HSS
      go_wp2
      refine loop4 w _ B j wi _ hb base bk2 ss nd2 _ _ _ _ _ _ _ _ _ _ _ _ _ _ _ _ _ _ _ _ _ _ _ _ _ _ _ _ _ _ _ _ _ _ _ _ _ _ _ _ _ _ _ _ _ _ _ _ _ _ _ _ _ _ _ _ _ _ _ _ _ _ _ _ _ _ _ _ _ _ _ _ _ _ _ _ _ _ _ _ _ _ _ _ _ _ _ _ _ _ _ _ _ _ _ _ _ _ _ _ _ _ _ _ _ _ _ _ _ _ _ _ _ _ _ _ _ _ _ _ _ _ _ _ _ _ _ _ _ _ _ _ _ _ _ _ _ _ _ _ _ _ _ _ _ _ _ _ _ _ _ _ _ _ _ _ _ _ _ _ _ _ _ _ _ _ _ _ _ _ _ _ _ _ _ _ _ _ _ _ _ _ _ _ _ _ _ _ _ _ _ _ _ _ _ _ _ _ _ _ _ _ _ _ _ _ _ _ _ _ _ _ _ _ _ _ _ _ _ _ _ _ _ _ _ _ _ _ _ _ _ _ _ _ _ _ _ _ _ _ _ _ _ _ _ _ _ _ _ _ _ _ _ _ _ _ _ _ _ _ _ _ _ _ _ _ _ _ _ _ _ _ _ _ _ _ _ _ _ _ _ _ _ _ _ _ _ _ _ _ _ _ _ _ _ _ _ _ _ _ _ _ _ _ _ _ _ _ _ _ _ _ _ _ _ _ _ _ _ _ _ _ _ _ _ _ _ _ _ _ _ _ _ _ _ _ _ _ _ _ _ _ _ _ _ _ _ _ _ _ _ _ _ _ _ _ _ _ _ _ _ _ _ _ _ _ _ _ _ _ _ _ _ _ _ _ _ _ _ _ _ _ _ _ _ _ _ _ _ _ _ _ _ _ _ _ _ _ _ _ _ _ _ HBT.out hwk hk5 hbs0 hbs1 hsl _ ?_
      intro r10 r35 r36 r37 r38 r253 r254 r255 r256 r257 r258 r259 r260 r261 r262 r263 r264 r265 r266 r267 r268 r269 r270 r271 r272 r273 r274 r275 r276 r277 r278 r279 r280 r281 r282 r283 r284 r285 r286 r287 r288 r289 r290 r291 r292 r293 r294 r295 r296 r297 r298 r299 r300 r301 r302 r303 r304 r305 r306 r307 r308 r309 r310 W3 nd3 hBt
      clear HBT y3
      obtain ⟨L, hL⟩ : ∃ L, L = base + (ss.length : Int) := ⟨_, rfl⟩
      obtain ⟨LB, hLBe⟩ : ∃ LB, LB = w1.heap.size := ⟨_, rfl⟩
      rw [← hLBe] at hBt
      rw [← hLBe]
      clear hLBe
      have okw := hBt.ok wi hwk
      rw [if_pos rfl, if_pos hwk] at okw
      have cH := step_hup_leader (B + 6 + wi) (nd3 wi) W3 (hBt.nodes wi hwk) okw.role
      have xl := hBt.st.l_at
      have hn6 := neq_nil63
      have hwr : (nd3 wi).role = 2 := okw.role
      have hwt : (nd3 wi).term = 1 := okw.term
      have HBT := hide hBt
      have HL := hide hL
      have HOK := hide okw
      have HWR := hide hwr
      have HWT := hide hwt
      clear hBt okw hL hwr hwt
      by_cases hk1 : j = 1
      · --<<K1
        have HK1 := hide hk1
        have e1 : (decide ((1 : Int) < (j : Int))) = false := by rw [decide_eq_false_iff_not]; omega
        have hk1' : ¬ (1 : Int) < (j : Int) := by omega
        clear hk1
        go_wp2_with fail
        refine cH.mono ?_
        rintro e w4 ⟨rfl, hC4⟩
        have BT4 := HBT.out.chg0 hC4
        have q0 := BT4.st.l_at
        have q4 := (BT4.nodes wi hwk).c4
        have q2 := (BT4.nodes wi hwk).c2
        rw [HWR.out] at q4
        rw [HWT.out] at q2
        have HBT4 := hide BT4
        clear BT4 hC4 cH xl e1
        go_wp2_with fail
        have hcw := HBT4.out.com wi hwk (Or.inr rfl)
        rw [← HL.out] at hcw
        have HCW := hide hcw
        clear hcw
        refine (step_areply_high (B + 6 + wi) (nd3 wi) 2 false 0 0 w4 (HBT4.out.nodes wi hwk) (by rw [HWT.out]; omega)).mono ?_
        rintro e w5 ⟨rfl, hC5, hN5⟩
        have hn6 := neq_nil63
        have b5 : LogIs w5 bk2 ss := HBT4.out.book.chg hC5 (fun g cur _ hx hm => by simp at hm; subst hm; exact (HBT4.out.nodes wi hwk).noRow cur hx)
        have l5 : LogIs w5 (nd3 wi).recs ss := (HBT4.out.logs wi hwk).chg hC5 (fun g cur _ hx hm => by simp at hm; subst hm; exact (HBT4.out.nodes wi hwk).noRow cur hx)
        have cE : ∀ q, Calls Yaod.prog 20 #[(nd3 wi).recs, bk2] (w5.drewN q) fun e w' => e = .returned (.bool true) ∧ ∃ n, w' = (w5.drewN q).drewN n := fun q =>
          equal_reads _ _ ss (w5.drewN q) (l5.drewN q).reads (b5.drewN q).reads (by omega)
        have r4 := hN5.c4
        have r2 := hN5.c2
        have r3 := hN5.c3
        have r6 := hN5.c6
        have r10 := hN5.c10
        dsimp only at r4 r2 r3 r6 r10
        rw [HCW.out] at r6
        have hlg0 := HBT4.out.lbg
        have rL : w5.cell? ⟨LB, 0, none⟩ = some (.int .u64 L) := by rw [HL.out]; exact cell_of_heap (hC5.at HBT4.out.lb (by simp; omega)) 0
        have hCF : Chg [hb] w w5 := ((HBT4.out.chg.mono (S' := [hb, B + 6 + wi]) (by simp)).trans (hC5.mono (by simp))).fresh (fun x hx => by
          have := HBT.out.wB
          simp only [List.mem_cons, List.not_mem_nil, or_false] at hx ⊢
          omega)
        have HCF := hide hCF
        have hlg := HBT4.out.lbg
        clear hC5 hN5 b5 l5 hCF q0 q4 q2
        go_wp2
        go_quiet (first | (go_at_call 20; refine Calls.quiet_of (cE _)))
        go_wp2
        go_ret
        exact ⟨rfl, HCF.out.drewN _⟩
        -->>K1
      · obtain ⟨ci, hci⟩ : ∃ ci, ci = (wi + 1) % j := ⟨_, rfl⟩
        have hcj : ci < j := by rw [hci]; exact Nat.mod_lt _ (by omega)
        have hcw : ci ≠ wi := by
          rw [hci]
          by_cases h : wi + 1 < j
          · rw [Nat.mod_eq_of_lt h]; omega
          · have h2 : wi + 1 = j := by omega
            rw [h2, Nat.mod_self]; omega
        have hcI : ((wi : Int) + 1) % (j : Int) = (ci : Int) := by rw [hci, Int.natCast_emod, Int.natCast_add]; rfl
        have hk2 : (1 : Int) < (j : Int) := by omega
        have hj0 : ¬ (j : Int) = 0 := by omega
        clear hci hk1
        go_wp2_with fail
        refine cH.mono ?_
        rintro e w4 ⟨rfl, hC4⟩
        have BT4 := HBT.out.chg0 hC4
        have q0 := BT4.st.l_at
        have q4 := (BT4.nodes wi hwk).c4
        have q2 := (BT4.nodes wi hwk).c2
        rw [HWR.out] at q4
        rw [HWT.out] at q2
        have q3 := BT4.st.n_at
        have qw := BT4.st.w_at
        have qr := BT4.st.row_at ci hcj
        have qL : w4.cell? ⟨LB, 0, none⟩ = some (.int .u64 L) := by rw [HL.out]; exact cell_of_heap BT4.lb 0
        have okc := BT4.ok ci hcj
        rw [if_neg hcw, if_pos hcj] at okc
        have hcc := BT4.com ci hcj (Or.inl hcj)
        rw [← HL.out] at hcc
        have cE : ∀ q, Calls Yaod.prog 55 #[.slice (some ⟨B + 2, 0, none⟩) j j, .int .i64 ci, .int .u64 2, .int .u64 L, .int .u64 (ltOf ss)] (w4.drewN q) fun e w' =>
            e = .returned (.bool true) ∧ Chg (nodeBlocks B j) (w4.drewN q) w' ∧ ∃ vb, NodeAt w' (B + 6 + ci) { nd3 ci with term := 2, role := 2, voted := idb ci, votes := .map (some vb) } := fun q => by
          have h := elect_any B j wi ci nd3 ss base 2 (w4.drewN q) (BT4.st.drewN q) (fun i hi => (BT4.nodes i hi).drewN q) (fun i hi => (BT4.logs i hi).drewN q) (fun i hi => (BT4.ok i hi).id) (fun i hi => (BT4.ok i hi).size) (fun i hi => (BT4.ok i hi).snap)
            (fun i hi => by rw [(BT4.ok i hi).term]; omega) (by rw [okc.term]; rfl) (by rw [okc.term]; omega) (by omega) okc.role hcj hk5 hbs0 hbs1 (by omega)
          rw [← HL.out] at h
          refine h.mono ?_
          rintro e w' ⟨h1, h2, vb, _, h3⟩
          refine ⟨h1, h2, vb, ?_⟩
          have h4 := h3 ci hcj
          unfold elNd crole at h4
          rw [if_pos rfl, votesTo_all ci j hcj, if_pos (by omega)] at h4
          exact h4
        have HBT4 := hide BT4
        have HCC := hide hcc
        have hsz4 := lt_of_heap BT4.st.lv
        have hsL4 := lt_of_heap BT4.lb
        have hlg4 := BT4.lbg
        have hht4 := BT4.hitb
        have HCW := hide hcw
        clear BT4 hC4 cH xl okc hcc hcw
        have hw5 : (wi : Int) < 5 := by omega
        have hc5 : (ci : Int) < 5 := by omega
        have hcji : (ci : Int) < (j : Int) := by omega
        go_wp2_with fail
        go_quiet (fail)
        go_wp2_with fail
        have hct : ((wi : Int) + 1).tmod (j : Int) = (ci : Int) := by rw [Int.tmod_eq_emod_of_nonneg (by omega)]; exact hcI
        have hj00 : ¬ j = 0 := by omega
        have hww : IntKind.i64.wrap ((wi : Int) + 1) = (wi : Int) + 1 := by rw [IntKind.wrap_i64]; omega
        have hwc : IntKind.i64.wrap (ci : Int) = (ci : Int) := by rw [IntKind.wrap_i64]; omega
        go_region_held3 (fun w' => w'.cell? ⟨B + 3, 0, none⟩ = some (.slice (some ⟨B + 2, 0, none⟩) j j) ∧ w'.cell? ⟨B + 1, 0, none⟩ = some (.int .i64 wi) ∧ w'.cell? ⟨LB, 0, none⟩ = some (.int .u64 L)) (go_keep)
          (first | (go_at_call 55; refine (cE _).mono ?_; rintro e w5 ⟨rfl, hC5, vb, hN5⟩; have p1 := hC5.cell (p := ⟨B + 3, 0, none⟩) (by simp; omega) (by intro hx; have := mem_nodeBlocks.1 hx; dsimp only at this; omega); have p2 := hC5.cell (p := ⟨B + 1, 0, none⟩) (by simp; omega) (by intro hx; have := mem_nodeBlocks.1 hx; dsimp only at this; omega); have p3 := hC5.cell (p := ⟨LB, 0, none⟩) (by simp; omega) (by intro hx; have := mem_nodeBlocks.1 hx; dsimp only at this; omega)))
        have hC5' : Chg (nodeBlocks B j) w4 w5 := hC5.undrewN
        have hSt5 : Stat w5 B j wi := HBT4.out.st.chg hC5' (fun x hx => by have := mem_nodeBlocks.1 hx; omega)
        have x1 := hSt5.w_at
        have x2 := hSt5.id_at wi (by omega)
        have cO := step_append_old (B + 6 + ci) _ 1 (idb wi) 0 0 0 w5 hN5 (by dsimp only; omega)
        dsimp only at cO
        have hna := neq_arep
        have HN5 := hide hN5
        have HC5 := hide hC5'
        have HT5 : HitAt w5 hb := HBT4.out.hit.chg hC5' (by rw [mem_nodeBlocks]; omega)
        have HHT5 := hide HT5
        clear HT5 hC5 hC5' hN5 p1 p2 p3 q0 q4 q2 q3 qw qr qL cE hSt5
        go_wp2_with fail
        refine cO.mono ?_
        rintro e w6 ⟨rfl, hC6⟩
        have o4 := (HN5.out.chg hC6 (by simp)).c4
        dsimp only at o4
        have HT6 := HHT5.out.chg hC6 (by simp)
        have hfz := HT6.fz 2
        obtain ⟨tn, htn⟩ := HT6.cell 2 (by omega)
        have HHT6 := hide HT6
        have HC6 := hide hC6
        clear cO x1 x2 HT6 hC6
        go_wp2_with fail
        go_region
        refine then_world ?_
        intro W7 hW7
        have hC67 : Chg [hb] w6 W7 := by rw [hW7]; first | exact ((Chg.refl _ _).setCell (by simp) _).drewN _ | exact ((Chg.refl _ _).setCell (by simp) _).drew
        clear hW7 hfz htn o4
        have hC47 : Chg (hb :: nodeBlocks B j) w4 W7 := ((HC5.out.mono (fun x hx => List.mem_cons_of_mem _ hx)).trans (HC6.out.mono (by simp))).trans (hC67.mono (by simp))
        have nr47 : ∀ g cur, w4.heap[g]? = some (.cells cur 85 (0, 0)) → g ∉ hb :: nodeBlocks B j := fun g cur hx hm => by
          rcases List.mem_cons.1 hm with h | h
          · subst h; exact HBT4.out.hit.noRow cur hx
          · have h2 := mem_nodeBlocks.1 h
            have h3 := (HBT4.out.nodes (g - (B + 6)) (by omega)).noRow cur
            rw [show B + 6 + (g - (B + 6)) = g from by omega] at h3
            exact h3 hx
        have NODE7 := (HN5.out.chg HC6.out (by simp)).chg hC67 (by simp; omega)
        have BOOK7 := HBT4.out.book.chg hC47 (fun g cur _ hx => nr47 g cur hx)
        have LOGS7 := (HBT4.out.logs ci hcj).chg hC47 (fun g cur _ hx => nr47 g cur hx)
        have LB7 := hC47.at HBT4.out.lb (by
          intro hm
          rcases List.mem_cons.1 hm with h | h
          · omega
          · have := mem_nodeBlocks.1 h; omega)
        have CHG7 : Chg [hb] w W7 := ((HBT4.out.chg.mono (S' := hb :: nodeBlocks B j) (by simp)).trans hC47).fresh (fun x hx => by
          rcases List.mem_cons.1 hx with h | h
          · exact Or.inl (by rw [h]; simp)
          · have := mem_nodeBlocks.1 h; have := HBT.out.wB; exact Or.inr (by omega))
        have HN7 := hide NODE7
        have HB7 := hide BOOK7
        have HL7 := hide LOGS7
        have HLB7 := hide LB7
        have HC7 := hide CHG7
        clear NODE7 BOOK7 LOGS7 LB7 CHG7 hC47 nr47 hC67
        go_wp2_with fail
        refine (step_areply_high (B + 6 + ci) _ 3 false 0 0 W7 HN7.out (by dsimp only; omega)).mono ?_
        dsimp only
        rintro e w8 ⟨rfl, hC8, hN8⟩
        have b8 : LogIs w8 bk2 ss := HB7.out.chg hC8 (fun g cur _ hx hm => by simp at hm; subst hm; exact HN7.out.noRow cur hx)
        have l8 : LogIs w8 (nd3 ci).recs ss := HL7.out.chg hC8 (fun g cur _ hx hm => by simp at hm; subst hm; exact HN7.out.noRow cur hx)
        have cE : ∀ q, Calls Yaod.prog 20 #[(nd3 ci).recs, bk2] (w8.drewN q) fun e w' => e = .returned (.bool true) ∧ ∃ n, w' = (w8.drewN q).drewN n := fun q =>
          equal_reads _ _ ss (w8.drewN q) (l8.drewN q).reads (b8.drewN q).reads (by omega)
        have r4 := hN8.c4
        have r2 := hN8.c2
        have r3 := hN8.c3
        have r6 := hN8.c6
        have r10 := hN8.c10
        dsimp only at r4 r2 r3 r6 r10
        rw [HCC.out] at r6
        have rL : w8.cell? ⟨LB, 0, none⟩ = some (.int .u64 L) := by rw [HL.out]; exact cell_of_heap (hC8.at HLB7.out (by simp; omega)) 0
        have hCF : Chg [hb] w w8 := ((HC7.out.mono (S' := [hb, B + 6 + ci]) (by simp)).trans (hC8.mono (by simp))).fresh (fun x hx => by
          have := HBT.out.wB
          simp only [List.mem_cons, List.not_mem_nil, or_false] at hx ⊢
          omega)
        have HCF := hide hCF
        clear hC8 hN8 b8 l8 hCF
        go_wp2
        go_quiet (first | (go_at_call 20; refine Calls.quiet_of (cE _)))
        go_wp2
        go_ret
        exact ⟨rfl, HCF.out.drewN _⟩
end Go.Proofs.YgdaogDoor
