/-
  THE WALK OF laws.elect.
-/
import Derived.Test.YgdaogDoorSvL
namespace Go.Proofs.YgdaogDoor
open Go.RowKit
theorem comp113 : (Yaod.prog.info? 113).map (·.comparable) = some true := by kernel_rfl
theorem comp116 : (Yaod.prog.info? 116).map (·.comparable) = some true := by kernel_rfl
theorem comp71 : (Yaod.prog.info? 71).map (·.comparable) = some true := by kernel_rfl
theorem run_equalIn_iface63 (d : Nat) (tn : TypeId) (x y : Value) (w : World) (hc : (Yaod.prog.info? tn).map (·.comparable) = some true) :
    Sem.run Yaod.prog (Op.equalIn (d + 1) 63 (.iface tn x) (.iface tn y)) w = Sem.run Yaod.prog (Op.equalIn d tn x y) w := by
  obtain ⟨i, hi, hcc⟩ := Option.map_eq_some_iff.1 hc
  simp [Op.equalIn, run_underlying Yaod.underlying63, typeInfo, hi, hcc]
theorem neq_vreq (a c d : Int) (b : ByteArray) (w : World) : Sem.run Yaod.prog (binOp .neq 63 (.iface 113 (.agg #[.int .u64 a, .string b, .int .u64 c, .int .u64 d])) (.iface 113 (.agg #[.int .u64 a, .string b, .int .u64 c, .int .u64 d]))) w = .ok (.bool false) w := by
  simp only [binOp, Op.equal, Op.maxDepth, Sem.run_bind]
  rw [run_equalIn_iface63 9999 113 _ _ w comp113]
  go_simp
theorem neq_vrep (a : Int) (b : ByteArray) (g : Bool) (w : World) : Sem.run Yaod.prog (binOp .neq 63 (.iface 116 (.agg #[.int .u64 a, .string b, .bool g])) (.iface 116 (.agg #[.int .u64 a, .string b, .bool g]))) w = .ok (.bool false) w := by
  simp only [binOp, Op.equal, Op.maxDepth, Sem.run_bind]
  rw [run_equalIn_iface63 9999 116 _ _ w comp116]
  go_simp
theorem neq_arep (a c d : Int) (g : Bool) (w : World) : Sem.run Yaod.prog (binOp .neq 63 (.iface 71 (.agg #[.int .u64 a, .bool g, .int .u64 c, .int .u64 d])) (.iface 71 (.agg #[.int .u64 a, .bool g, .int .u64 c, .int .u64 d]))) w = .ok (.bool false) w := by
  simp only [binOp, Op.equal, Op.maxDepth, Sem.run_bind]
  rw [run_equalIn_iface63 9999 71 _ _ w comp71]
  go_simp
theorem neq_nil63 (w : World) : Sem.run Yaod.prog (binOp .neq 63 .nilIface .nilIface) w = .ok (.bool false) w := by kernel_rfl

/-! ### The nodes -/
def nodeBlocks (B k : Nat) : List Nat := (List.range k).map (B + 6 + ·)
theorem mem_nodeBlocks {B k j : Nat} : j ∈ nodeBlocks B k ↔ B + 6 ≤ j ∧ j < B + 6 + k := by
  simp only [nodeBlocks, List.mem_map, List.mem_range]
  exact ⟨fun ⟨i, h, e⟩ => by omega, fun ⟨h1, h2⟩ => ⟨j - (B + 6), by omega, by omega⟩⟩

theorem idb_ne (i : Nat) : ((idb i).toList == []) = false := by rw [ByteArray.toList_eq]; rfl
def votesTo (ci j : Nat) : Nat := 1 + (othersTo ci j).length
def votesL (ci j : Nat) : PairL := (idb ci, .bool true) :: (othersTo ci j).map fun i => (idb i, .bool true)
def crole (k ci j : Nat) : Int := if k < 2 * votesTo ci j then 2 else 1
theorem votesL_length (ci j : Nat) : (votesL ci j).length = votesTo ci j := by simp [votesL, votesTo]; omega
theorem votesTo_same (ci : Nat) : votesTo ci (ci + 1) = votesTo ci ci := by unfold votesTo; rw [others_succ, if_pos rfl]
theorem votesTo_more (ci j : Nat) (h : j ≠ ci) : votesTo ci (j + 1) = votesTo ci j + 1 := by unfold votesTo; rw [others_succ, if_neg h]; simp; omega
theorem votesL_same (ci : Nat) : votesL ci (ci + 1) = votesL ci ci := by unfold votesL; rw [others_succ, if_pos rfl]
theorem votesL_more (ci j : Nat) (h : j ≠ ci) : votesL ci (j + 1) = votesL ci j ++ [(idb j, .bool true)] := by unfold votesL; rw [others_succ, if_neg h]; simp
theorem votesL_new (ci j : Nat) (h : j ≠ ci) (hj : j < 5) (hc : ci < 5) : putL (votesL ci j) (idb j) (.bool true) = votesL ci j ++ [(idb j, .bool true)] := by
  refine putL_new _ _ _ fun p hp => ?_
  simp only [votesL, List.mem_cons, List.mem_map] at hp
  rcases hp with rfl | ⟨i, hi, rfl⟩
  · exact fun e => h (idb_inj hj hc e)
  · have := mem_others.1 hi
    exact fun e => by have := idb_inj hj (by omega) e; omega
theorem votesTo_le (ci j k : Nat) (hj : j ≤ k) (hc : ci < k) : votesTo ci j ≤ k := by
  unfold votesTo; rw [others_length]; split <;> omega
theorem votesTo_all (ci k : Nat) (hc : ci < k) : votesTo ci k = k := by
  unfold votesTo; rw [others_length, if_pos hc]; omega

theorem crole_zero (k ci : Nat) : crole k ci 0 = if (k : Int) < 2 then 2 else 1 := by
  have : votesTo ci 0 = 1 := rfl
  unfold crole
  rw [this]
  by_cases h : k < 2
  · rw [if_pos (by omega), if_pos (by omega)]
  · rw [if_neg (by omega), if_neg (by omega)]
/-- The candidate hears of one more vote. -/
theorem step_reply_c (b vb k ci j : Nat) (n : Nd) (w : World) (hn : NodeAt w b { n with role := crole k ci j }) (hv : n.votes = .map (some vb)) (hM : 2 * votesTo ci j ≤ k → MapIs w vb (votesL ci j)) (hsz : n.size = k)
    (hj : j < k) (hjc : j ≠ ci) (hck : ci < k) (hk : k ≤ 5) :
    Calls Yaod.prog 13 #[.pointer (some ⟨b, 0, none⟩), .iface 116 (.agg #[.int .u64 n.term, .string (idb j), .bool true])] w fun e w' =>
      e = .returned .nilIface ∧ Chg [b, vb] w w' ∧ NodeAt w' b { n with role := crole k ci (j + 1) } ∧ (2 * votesTo ci (j + 1) ≤ k → MapIs w' vb (votesL ci (j + 1))) := by
  have hmore := votesTo_more ci j hjc
  by_cases hp : k < 2 * votesTo ci j
  · have e1 : crole k ci j = 2 := if_pos hp
    have e2 : crole k ci (j + 1) = 2 := if_pos (by omega)
    rw [e1] at hn
    refine (step_reply_not b _ (idb j) w hn (by rfl)).mono ?_
    rintro e w' ⟨rfl, hC⟩
    exact ⟨rfl, hC.mono (by simp), by rw [e2]; exact hn.chg hC (by simp), fun h => by omega⟩
  · have e1 : crole k ci j = 1 := if_neg hp
    rw [e1] at hn
    have hM' := hM (by omega)
    refine (step_reply_cand b vb _ (votesL ci j) (idb j) w hn rfl hv hM' (votesL_new ci j hjc (by omega) (by omega)) (by rw [votesL_length]; omega) (crole k ci (j + 1)) ?_).mono ?_
    · show _ = _
      unfold crole
      rw [votesL_length, hmore]
      simp only [hsz]
      by_cases hq : k < 2 * (votesTo ci j + 1)
      · rw [if_pos hq, if_pos (by omega)]
      · rw [if_neg hq, if_neg (by omega)]
    · rintro e w' ⟨rfl, hM2, hC, hN⟩
      exact ⟨rfl, hC, hN, fun _ => by rw [votesL_more ci j hjc]; exact hM2⟩

def elNd (nd : Nat → Nd) (ci : Nat) (T : Int) (k vb j i : Nat) : Nd :=
  if i = ci then { nd ci with term := T, role := crole k ci j, voted := idb ci, votes := .map (some vb) }
  else if i < j then { nd i with term := T, role := 0, voted := idb ci } else nd i

set_option maxRecDepth 100000 in
set_option maxHeartbeats 2000000 in
theorem elect_any (B k wi ci : Nat) (nd : Nat → Nd) (cs : List ByteArray) (base T : Int) (w : World) (hS : Stat w B k wi) (hN : ∀ i, i < k → NodeAt w (B + 6 + i) (nd i)) (hLg : ∀ i, i < k → LogIs w (nd i).recs cs)
    (hid : ∀ i, i < k → (nd i).id = idb i) (hsz : ∀ i, i < k → (nd i).size = k) (hsn : ∀ i, i < k → (nd i).snap = base) (hterm : ∀ i, i < k → (nd i).term < T) (hT : (nd ci).term + 1 = T) (hT0 : 0 ≤ (nd ci).term) (hT1 : T ≤ 100)
    (hr : (nd ci).role = 0) (hck : ci < k) (hk : k ≤ 5) (hs0 : 0 ≤ base) (hs : base ≤ 4611686018427387903) (hm : cs.length ≤ 8796093022208) :
    Calls Yaod.prog 55 #[.slice (some ⟨B + 2, 0, none⟩) k k, .int .i64 ci, .int .u64 T, .int .u64 (base + cs.length), .int .u64 (ltOf cs)] w fun e w' =>
      e = .returned (.bool true) ∧ Chg (nodeBlocks B k) w w' ∧ ∃ vb, w.heap.size ≤ vb ∧ ∀ i, i < k → NodeAt w' (B + 6 + i) (elNd nd ci T k vb k i) := by
  have hrow := hS.row_at ci hck
  have HS : Hid (Stat w B k wi) := hS
  have hsize := lt_of_heap hS.lv
  have cH := step_hup_camp (B + 6 + ci) (nd ci) cs w (hN ci hck) (hLg ci hck) hr (by rw [hsn ci hck]; exact hs0) (by rw [hsn ci hck]; exact hs) hm hT0 (by omega) (crole k ci 0) (by show _ = _; rw [hsz ci hck]; exact crole_zero k ci)
  rw [hsn ci hck, hT, hid ci hck] at cH
  clear hS
  go_enter Yaod.func55, Yaod.ntmps55
  go_wp2_with fail
  refine cH.mono ?_
  rintro e w1 ⟨rfl, hC1, vb, hvb, hM1, hN1⟩
  have HC1 : Chg (nodeBlocks B k) w w1 := hC1.mono (by simp; exact mem_nodeBlocks.2 ⟨by omega, by omega⟩)
  have HA1 : ∀ i, i < k → NodeAt w1 (B + 6 + i) (elNd nd ci T k vb 0 i) := fun i hi => by
    by_cases h : i = ci
    · subst h; unfold elNd; rw [if_pos rfl]; simp only [hid i hi, hsn i hi]; exact hN1
    · unfold elNd; rw [if_neg h, if_neg (by omega)]; exact (hN i hi).chg hC1 (by simp; omega)
  have HM1 : 2 * votesTo ci 0 ≤ k → MapIs w1 vb (votesL ci 0) := fun _ => hM1
  have k0 := hN1.c0
  dsimp only at k0
  clear hC1 hM1 hN1 cH
  have hnv := neq_vreq
  go_wp2
  have HN : Hid (∀ i, i < k → NodeAt w (B + 6 + i) (nd i)) := hN
  have HLG : Hid (∀ i, i < k → LogIs w (nd i).recs cs) := hLg
  have HID : Hid (∀ i, i < k → (nd i).id = idb i) := hid
  have HSZ : Hid (∀ i, i < k → (nd i).size = k) := hsz
  have HSN : Hid (∀ i, i < k → (nd i).snap = base) := hsn
  have HTE : Hid (∀ i, i < k → (nd i).term < T) := hterm
  have HNR : Hid (∀ g cur, w.heap[g]? = some (.cells cur 85 (0, 0)) → g ∉ nodeBlocks B k) := fun g cur hg hm => by
    have h := mem_nodeBlocks.1 hm
    have hh := hN (g - (B + 6)) (by omega)
    rw [show B + 6 + (g - (B + 6)) = g from by omega] at hh
    exact hh.noRow cur hg
  clear hN hLg hid hsz hsn hterm hT hT0 hr hrow k0 hnv
  go_loopw [38, 13] (fun i vt wr => ∃ j : Nat, j ≤ k ∧ i = .int .i64 j ∧ vt = .int .i64 (votesTo ci j) ∧ Chg (nodeBlocks B k) w wr ∧ (∀ i, i < k → NodeAt wr (B + 6 + i) (elNd nd ci T k vb j i)) ∧ (2 * votesTo ci j ≤ k → MapIs wr vb (votesL ci j)))
    (fun i _ _ => k - (intOf i).toNat)
  case atStart => exact ⟨0, Nat.zero_le _, rfl, rfl, HC1, HA1, HM1⟩
  case round =>
    obtain ⟨j, hj, rfl, rfl, hC, hA, hM⟩ := hrel
    have hSr : Stat wr B k wi := HS.out.chg hC (fun j hj => by have := mem_nodeBlocks.1 hj; omega)
    by_cases hjk : j < k
    · have hrw := hSr.row_at j hjk
      by_cases hjc : j = ci
      · have e1 : ((j : Int) == (ci : Int)) = true := by rw [beq_iff_eq]; omega
        have R1 : ∀ i, i < k → NodeAt wr (B + 6 + i) (elNd nd ci T k vb (j + 1) i) := fun i hi => by
          have := hA i hi
          have e : elNd nd ci T k vb (j + 1) i = elNd nd ci T k vb j i := by
            subst hjc
            unfold elNd crole
            rw [votesTo_same]
            by_cases h : i = j
            · rw [if_pos h, if_pos h]
            · rw [if_neg h, if_neg h]
              by_cases h2 : i < j
              · rw [if_pos (by omega), if_pos h2]
              · rw [if_neg (by omega), if_neg h2]
          rw [e]; exact this
        have R2 : 2 * votesTo ci (j + 1) ≤ k → MapIs wr vb (votesL ci (j + 1)) := by subst hjc; rw [votesTo_same, votesL_same]; exact hM
        have R3 : votesTo ci (j + 1) = votesTo ci j := by subst hjc; exact votesTo_same j
        have HR1 : Hid _ := R1
        have HR2 : Hid _ := R2
        have HR3 : Hid _ := R3
        clear R1 R2 R3 hA hM hSr hjc HA1 HM1
        go_wp2
        go_roundw
        case rel => exact ⟨j + 1, by omega, by go_num, by rw [HR3.out], hC, HR1.out, HR2.out⟩
        case measure => simp [intOf]; omega
      · have e1 : ((j : Int) == (ci : Int)) = false := by rw [beq_eq_false_iff_ne]; omega
        have hNj : NodeAt wr (B + 6 + j) (nd j) := by
          have := hA j hjk
          unfold elNd at this
          rw [if_neg hjc, if_neg (by omega)] at this
          exact this
        have hLj : LogIs wr (nd j).recs cs := (HLG.out j hjk).chg hC (fun g cur _ hx => HNR.out g cur hx)
        have cV := step_vote (B + 6 + j) (nd j) cs T (idb ci) wr hNj hLj (by rw [HSN.out j hjk]; exact hs0) (by rw [HSN.out j hjk]; exact hs) hm (HTE.out j hjk) (idb_ne ci)
        rw [HSN.out j hjk, HID.out j hjk] at cV
        have HA : Hid (∀ i, i < k → NodeAt wr (B + 6 + i) (elNd nd ci T k vb j i)) := hA
        have HM : Hid (2 * votesTo ci j ≤ k → MapIs wr vb (votesL ci j)) := hM
        clear hA hM hNj hLj HA1 HM1
        go_wp2_with fail
        refine cV.mono ?_
        rintro e w2 ⟨rfl, hC2, hN2⟩
        have HC2 : Chg (nodeBlocks B k) w w2 := hC.trans (hC2.mono (by simp; exact mem_nodeBlocks.2 ⟨by omega, by omega⟩))
        have HA2 : ∀ i, i < k → i ≠ ci → NodeAt w2 (B + 6 + i) (elNd nd ci T k vb (j + 1) i) := fun i hi hic => by
          unfold elNd
          rw [if_neg hic]
          by_cases h : i = j
          · subst h
            rw [if_pos (by omega)]
            simp only [HID.out i hi, HSN.out i hi]
            exact hN2
          · have := (HA.out i hi).chg hC2 (by simp; omega)
            unfold elNd at this
            rw [if_neg hic] at this
            by_cases h2 : i < j
            · rw [if_pos h2] at this; rw [if_pos (by omega)]; exact this
            · rw [if_neg h2] at this; rw [if_neg (by omega)]; exact this
        have hNc : NodeAt w2 (B + 6 + ci) { nd ci with term := T, role := crole k ci j, voted := idb ci, votes := .map (some vb) } := by
          have := (HA.out ci hck).chg hC2 (by simp; omega)
          unfold elNd at this
          rw [if_pos rfl] at this
          exact this
        have hM2 : 2 * votesTo ci j ≤ k → MapIs w2 vb (votesL ci j) := fun h => (HM.out h).chg hC2 (by
          have h1 := (HM.out h).ne_node (HA.out j hjk)
          simp; exact h1)
        have hvbk : vb ∉ nodeBlocks B k := fun h => by have := mem_nodeBlocks.1 h; omega
        have cR : ∀ q, Calls Yaod.prog 13 #[.pointer (some ⟨B + 6 + ci, 0, none⟩), .iface 116 (.agg #[.int .u64 T, .string (idb j), .bool true])] (w2.drewN q) fun e w' =>
            e = .returned .nilIface ∧ Chg [B + 6 + ci, vb] (w2.drewN q) w' ∧ NodeAt w' (B + 6 + ci) { nd ci with term := T, role := crole k ci (j + 1), voted := idb ci, votes := .map (some vb) } ∧ (2 * votesTo ci (j + 1) ≤ k → MapIs w' vb (votesL ci (j + 1))) :=
          fun q => step_reply_c (B + 6 + ci) vb k ci j { nd ci with term := T, voted := idb ci, votes := .map (some vb) } (w2.drewN q) (hNc.drewN q) rfl (fun h => (hM2 h).drewN q) (HSZ.out ci hck) hjk hjc hck hk
        have f0 := hN2.c0
        have f2 := hN2.c2
        have f3 := hN2.c3
        have f4 := hN2.c4
        have g0 := hNc.c0
        dsimp only at f0 f2 f3 f4 g0
        rw [HID.out ci hck] at g0
        have HA2' : Hid _ := HA2
        clear hC2 cV hC HA HM hM2 HA2 hSr hrw
        have hnr := neq_vrep
        have hn6 := neq_nil63
        have hlt2 := hNc.lt
        have hlt3 := hN2.lt
        go_wp2
        go_region_held3 (fun w' => w'.cell? ⟨B + 6 + j, 4, none⟩ = some (.int .u8 0) ∧ w'.cell? ⟨B + 6 + j, 3, none⟩ = some (.string (idb ci)) ∧ w'.cell? ⟨B + 6 + j, 2, none⟩ = some (.int .u64 T) ∧ w'.cell? ⟨B + 6 + ci, 0, none⟩ = some (.string (idb ci))) (go_keep)
          (first | (go_at_call 13; refine (cR _).mono ?_; rintro e w3 ⟨rfl, hC3, hN3, hM3⟩; have p4 := hC3.cell (p := ⟨B + 6 + j, 4, none⟩) (by exact hlt3) (by simp; omega); have p3 := hC3.cell (p := ⟨B + 6 + j, 3, none⟩) (by exact hlt3) (by simp; omega); have p2 := hC3.cell (p := ⟨B + 6 + j, 2, none⟩) (by exact hlt3) (by simp; omega); have p0 := hN3.c0; dsimp only at p0; rw [HID.out ci hck] at p0))
        have R1 : ∀ i, i < k → NodeAt w3 (B + 6 + i) (elNd nd ci T k vb (j + 1) i) := fun i hi => by
          by_cases h : i = ci
          · subst h; unfold elNd; rw [if_pos rfl]; exact hN3
          · exact (HA2'.out i hi h).chg hC3.undrewN (by
              simp only [List.mem_cons, List.not_mem_nil, or_false, not_or]
              exact ⟨by omega, fun e => hvbk (e ▸ mem_nodeBlocks.2 ⟨by omega, by omega⟩)⟩)
        have R3 : Chg (nodeBlocks B k) w w3 := (((HC2.mono (S' := vb :: nodeBlocks B k) (by simp; exact fun _ h => Or.inr h)).trans (hC3.undrewN.mono (by
            intro x hx
            simp only [List.mem_cons, List.not_mem_nil, or_false] at hx
            rcases hx with rfl | rfl
            · exact List.mem_cons_of_mem _ (mem_nodeBlocks.2 ⟨by omega, by omega⟩)
            · simp)))).fresh (by
              intro x hx
              simp only [List.mem_cons] at hx
              rcases hx with rfl | hx
              · exact Or.inr hvb
              · exact Or.inl hx)
        have hmore : (votesTo ci j : Int) + 1 = (votesTo ci (j + 1) : Int) := by rw [votesTo_more ci j hjc]; omega
        have hv5 : votesTo ci (j + 1) ≤ k := votesTo_le ci (j + 1) k (by omega) hck
        have c4 := hN3.c4
        dsimp only at c4
        have HR1 : Hid _ := R1
        have HM3 : Hid _ := hM3
        clear R1 hM3 HA2' hC3 hN3 hNc hN2 cR HC2 f0 f2 f3 f4 g0 p0 p2 p3 p4 hnr
        generalize votesTo ci j = v0 at *
        by_cases hq : k < 2 * votesTo ci (j + 1)
        · have e2 : crole k ci (j + 1) = 2 := if_pos hq
          rw [e2] at c4
          clear e2
          generalize hvv : votesTo ci (j + 1) = v1 at *
          have HVV : Hid (votesTo ci (j + 1) = v1) := hvv
          clear hvv
          have hq' : decide ((k : Int) < 2 * (v1 : Int)) = true := by simp; omega
          go_wp2
          go_roundw
          case rel => exact ⟨j + 1, by omega, by go_num, by rw [HVV.out], R3, HR1.out, by have := HM3.out; rw [HVV.out]; exact this⟩
          case measure => simp [intOf]; omega
        · have e2 : crole k ci (j + 1) = 1 := if_neg hq
          rw [e2] at c4
          clear e2
          generalize hvv : votesTo ci (j + 1) = v1 at *
          have HVV : Hid (votesTo ci (j + 1) = v1) := hvv
          clear hvv
          have hq' : decide ((k : Int) < 2 * (v1 : Int)) = false := by simp; omega
          go_wp2
          go_roundw
          case rel => exact ⟨j + 1, by omega, by go_num, by rw [HVV.out], R3, HR1.out, by have := HM3.out; rw [HVV.out]; exact this⟩
          case measure => simp [intOf]; omega
    · have hjk' : j = k := by omega
      subst hjk'
      have hNc := hA ci hck
      unfold elNd at hNc
      rw [if_pos rfl] at hNc
      have e2 : crole j ci j = 2 := if_pos (by rw [votesTo_all ci j hck]; omega)
      rw [e2] at hNc
      have c0 := hNc.c0
      have c2 := hNc.c2
      have c3 := hNc.c3
      have c4 := hNc.c4
      dsimp only at c0 c2 c3 c4
      rw [HID.out ci hck] at c0
      have HA : Hid _ := hA
      clear hA hM hNc HA1 HM1 hSr e2
      go_wp2
      go_quiet (fail)
      go_wp2
      go_ret
      exact ⟨rfl, hC.drewN _, vb, hvb, fun i hi => (HA.out i hi).drewN _⟩
end Go.Proofs.YgdaogDoor
