/-
  THE LAYOUT OF serves' MEMORY; THE WALK OF ITS CLOSURE count.
-/
import Derived.Test.YgdaogDoorSvU
import Derived.Deep.AppendLies
namespace Go.Proofs.YgdaogDoor
open Go.RowKit

/-! ### Names and books -/
def idb (i : Nat) : ByteArray := ⟨#[UInt8.ofNat (97 + i)]⟩
def idsCells : Array Value := #[.string ⟨#[97]⟩, .string ⟨#[98]⟩, .string ⟨#[99]⟩, .string ⟨#[100]⟩, .string ⟨#[101]⟩]
theorem ids_at (i : Nat) (h : i < 5) : idsCells[i]? = some (.string (idb i)) := by
  match i, h with
  | 0, _ => rfl
  | 1, _ => rfl
  | 2, _ => rfl
  | 3, _ => rfl
  | 4, _ => rfl
theorem idb_inj {i j : Nat} (hi : i < 5) (hj : j < 5) (h : idb i = idb j) : i = j := by
  simp only [idb, ByteArray.mk.injEq, Array.mk.injEq, List.cons.injEq, and_true] at h
  have := congrArg UInt8.toNat h
  simp [UInt8.toNat_ofNat'] at this
  omega
def othersTo (wi j : Nat) : List Nat := (List.range j).filter (· ≠ wi)
theorem mem_others {wi j i : Nat} : i ∈ othersTo wi j ↔ i < j ∧ i ≠ wi := by simp [othersTo]
theorem others_succ (wi j : Nat) : othersTo wi (j + 1) = if j = wi then othersTo wi j else othersTo wi j ++ [j] := by
  unfold othersTo
  rw [List.range_succ, List.filter_append]
  by_cases h : j = wi
  · simp [h]
  · simp [h]
theorem others_length (wi j : Nat) : (othersTo wi j).length = if wi < j then j - 1 else j := by
  induction j with
  | zero => simp [othersTo]
  | succ j ih =>
    rw [others_succ]
    split
    · rename_i h; subst h; rw [ih]; simp
    · rename_i h
      rw [List.length_append, ih]
      simp only [List.length_cons, List.length_nil]
      split <;> split <;> omega
theorem others_nodup (wi j : Nat) : (othersTo wi j).Nodup := List.Pairwise.filter _ List.nodup_range

def progV (p : Int × Int) : Value := .agg #[.int .u64 p.1, .int .u64 p.2]
def peersL (wi j : Nat) (f : Nat → Int × Int) : PairL := (othersTo wi j).map fun i => (idb i, progV (f i))

theorem getL_map (js : List Nat) (g : Nat → Value) (j : Nat) (hj : j ∈ js) (h5 : ∀ i ∈ js, i < 5) : getL (js.map fun i => (idb i, g i)) (idb j) = some (g j) := by
  induction js with
  | nil => simp at hj
  | cons i r ih =>
    simp only [List.map_cons, getL]
    by_cases h : idb j = idb i
    · have : j = i := idb_inj (h5 j hj) (h5 i (by simp)) h
      subst this; simp
    · rw [if_neg h]
      refine ih ?_ (fun x hx => h5 x (by simp [hx]))
      rcases List.mem_cons.1 hj with rfl | hj
      · exact absurd rfl h
      · exact hj
theorem putL_map (js : List Nat) (g : Nat → Value) (j : Nat) (v : Value) (hj : j ∈ js) (hn : js.Nodup) (h5 : ∀ i ∈ js, i < 5) :
    putL (js.map fun i => (idb i, g i)) (idb j) v = js.map fun i => (idb i, if i = j then v else g i) := by
  induction js with
  | nil => simp at hj
  | cons i r ih =>
    simp only [List.map_cons, putL]
    have hn' := List.nodup_cons.1 hn
    by_cases h : idb j = idb i
    · have : j = i := idb_inj (h5 j hj) (h5 i (by simp)) h
      subst this
      simp only [if_true]
      congr 1
      refine List.map_congr_left fun x hx => ?_
      have : x ≠ j := fun e => hn'.1 (e ▸ hx)
      simp [this]
    · have hji : j ≠ i := fun e => h (by rw [e])
      rw [if_neg h, ih (by rcases List.mem_cons.1 hj with h1 | h1; exact absurd h1 hji; exact h1) hn'.2 (fun x hx => h5 x (by simp [hx])), if_neg (Ne.symm hji)]
theorem getL_peers (wi k : Nat) (f : Nat → Int × Int) (j : Nat) (hj : j < k) (hw : j ≠ wi) (h5 : k ≤ 5) : getL (peersL wi k f) (idb j) = some (progV (f j)) :=
  getL_map _ (fun i => progV (f i)) j (mem_others.2 ⟨hj, hw⟩) (fun i hi => by have := mem_others.1 hi; omega)
theorem putL_peers (wi k : Nat) (f : Nat → Int × Int) (j : Nat) (p : Int × Int) (hj : j < k) (hw : j ≠ wi) (h5 : k ≤ 5) :
    putL (peersL wi k f) (idb j) (progV p) = peersL wi k (fun i => if i = j then p else f i) := by
  unfold peersL
  rw [putL_map _ (fun i => progV (f i)) j (progV p) (mem_others.2 ⟨hj, hw⟩) (others_nodup _ _) (fun i hi => by have := mem_others.1 hi; omega)]
  refine List.map_congr_left fun x _ => ?_
  dsimp only
  split <;> rfl
theorem putL_peers_new (wi k : Nat) (f : Nat → Int × Int) (hw : k ≠ wi) (h5 : k < 5) : putL (peersL wi k f) (idb k) (progV (f k)) = peersL wi (k + 1) f := by
  unfold peersL
  rw [putL_new _ _ _ (fun p hp => by
    obtain ⟨i, hi, rfl⟩ := List.mem_map.1 hp
    have := mem_others.1 hi
    exact fun e => by have := idb_inj (by omega) (by omega) e; omega), others_succ, if_neg hw]
  simp

/-! ### What stands still while 'serves' runs -/
structure Stat (w : World) (B k wi : Nat) : Prop where
  ids : w.heap[B]? = some (.cells idsCells 41 (0, 0))
  wb : w.heap[B + 1]? = some (.cells #[.int .i64 wi] 3 (0, 0))
  row : ∃ cur, w.heap[B + 2]? = some (.cells cur 44 (0, 0)) ∧ ∀ i, i < k → cur[i]? = some (.pointer (some ⟨B + 6 + i, 0, none⟩))
  nv : w.heap[B + 3]? = some (.cells #[.slice (some ⟨B + 2, 0, none⟩) k k] 43 (0, 0))
  pv : w.heap[B + 5]? = some (.cells #[.map (some (B + 4))] 74 (0, 0))
  lv : w.heap[B + 6 + k]? = some (.cells #[.pointer (some ⟨B + 6 + wi, 0, none⟩)] 44 (0, 0))
theorem Stat.chg {w w' : World} {B k wi : Nat} {S : List Nat} (h : Stat w B k wi) (hc : Chg S w w') (hs : ∀ j ∈ S, B + 6 + k < j ∨ j < B ∨ j = B + 4 ∨ (B + 6 ≤ j ∧ j < B + 6 + k)) : Stat w' B k wi := by
  have hn : ∀ j, (B ≤ j ∧ j ≤ B + 3) ∨ j = B + 5 ∨ j = B + 6 + k → j ∉ S := fun j hj hm => by have := hs j hm; omega
  obtain ⟨cur, h1, h2⟩ := h.row
  exact ⟨hc.at h.ids (hn _ (by omega)), hc.at h.wb (hn _ (by omega)), ⟨cur, hc.at h1 (hn _ (by omega)), h2⟩, hc.at h.nv (hn _ (by omega)), hc.at h.pv (hn _ (by omega)), hc.at h.lv (hn _ (by omega))⟩
theorem Stat.drewN {w : World} {B k wi : Nat} (h : Stat w B k wi) (q : Nat) : Stat (w.drewN q) B k wi := ⟨h.ids, h.wb, h.row, h.nv, h.pv, h.lv⟩
theorem Stat.alloc {w : World} {B k wi : Nat} (h : Stat w B k wi) (o : Obj) : Stat (w.alloc o) B k wi := h.chg (S := []) ((Chg.refl _ _).alloc o) (by simp)
theorem Stat.id_at {w : World} {B k wi : Nat} (h : Stat w B k wi) (i : Nat) (hi : i < 5) : w.cell? ⟨B, i, none⟩ = some (.string (idb i)) := by
  rw [cell_of_heap h.ids]; exact ids_at i hi
theorem Stat.w_at {w : World} {B k wi : Nat} (h : Stat w B k wi) : w.cell? ⟨B + 1, 0, none⟩ = some (.int .i64 wi) := cell_of_heap h.wb 0
theorem Stat.n_at {w : World} {B k wi : Nat} (h : Stat w B k wi) : w.cell? ⟨B + 3, 0, none⟩ = some (.slice (some ⟨B + 2, 0, none⟩) k k) := cell_of_heap h.nv 0
theorem Stat.p_at {w : World} {B k wi : Nat} (h : Stat w B k wi) : w.cell? ⟨B + 5, 0, none⟩ = some (.map (some (B + 4))) := cell_of_heap h.pv 0
theorem Stat.l_at {w : World} {B k wi : Nat} (h : Stat w B k wi) : w.cell? ⟨B + 6 + k, 0, none⟩ = some (.pointer (some ⟨B + 6 + wi, 0, none⟩)) := cell_of_heap h.lv 0
theorem Stat.row_at {w : World} {B k wi : Nat} (h : Stat w B k wi) (i : Nat) (hi : i < k) : w.cell? ⟨B + 2, i, none⟩ = some (.pointer (some ⟨B + 6 + i, 0, none⟩)) := by
  obtain ⟨cur, h1, h2⟩ := h.row
  rw [cell_of_heap h1]; exact h2 i hi

def msTo (wi j : Nat) (L : Int) (f : Nat → Int × Int) : List Int := L :: (othersTo wi j).map fun i => (f i).1
theorem msTo_same (wi : Nat) (L : Int) (f : Nat → Int × Int) : msTo wi (wi + 1) L f = msTo wi wi L f := by unfold msTo; rw [others_succ, if_pos rfl]
theorem msTo_more (wi j : Nat) (L : Int) (f : Nat → Int × Int) (h : j ≠ wi) : msTo wi (j + 1) L f = msTo wi j L f ++ [(f j).1] := by unfold msTo; rw [others_succ, if_neg h]; simp
theorem msTo_length (wi j : Nat) (L : Int) (f : Nat → Int × Int) : (msTo wi j L f).length = if wi < j then j else j + 1 := by
  unfold msTo; simp only [List.length_cons, List.length_map, others_length]; split <;> omega
theorem field87 (a b : Value) (w : World) : Sem.run Yaod.prog (Instr.field 87 (.agg #[a, b]) 0) w = .ok a w := by kernel_rfl
set_option maxRecDepth 100000 in
set_option maxHeartbeats 1000000 in
/-- The closure 'count'. -/
theorem count_any (B k wi LB a : Nat) (n : Nd) (cs : List ByteArray) (f : Nat → Int × Int) (x L r : Int) (w : World) (hS : Stat w B k wi) (hP : MapIs w (B + 4) (peersL wi k f))
    (hl : w.cell? ⟨LB, 0, none⟩ = some (.int .u64 L)) (hn : NodeAt w (B + 6 + wi) n) (hL : LogIs w n.recs cs) (hw : wi < k) (hk : k ≤ 5)
    (hs0 : 0 ≤ n.snap) (hs : n.snap ≤ 4611686018427387903) (hm : cs.length ≤ 8796093022208) (hlt : ltOf cs = 1) (hLe : L = n.snap + cs.length)
    (hall : ∀ i, i < k → i ≠ wi → (f i).1 = L ∨ (f i).1 = x) (hx : x < L) (hxc : x ≤ n.commit) (hcL : n.commit ≤ L)
    (hca : (msTo wi k L f).count L = a) (hr : Hid (r = if k < 2 * a then L else n.commit)) :
    Calls Yaod.prog 56 #[.pointer (some ⟨LB, 0, none⟩), .pointer (some ⟨B + 3, 0, none⟩), .pointer (some ⟨B + 1, 0, none⟩), .pointer (some ⟨B + 5, 0, none⟩), .pointer (some ⟨B, 0, none⟩), .pointer (some ⟨B + 6 + k, 0, none⟩)] w
      fun e w' => e = .returned (.int .u64 r) ∧ Chg [] w w' := by
  have h1 := hS.n_at
  have h2 := hS.w_at
  have h3 := hS.p_at
  have h4 := hS.l_at
  have hid := hS.id_at
  have hsz := lt_of_heap hS.lv
  have s0 : B < w.heap.size := by omega
  have s1 : B + 1 < w.heap.size := by omega
  have s3 : B + 3 < w.heap.size := by omega
  have s5 : B + 5 < w.heap.size := by omega
  have HS : Hid (Stat w B k wi) := hS
  have HLE : Hid (L = n.snap + cs.length) := hLe
  clear hS hLe
  have HP : Hid (MapIs w (B + 4) (peersL wi k f)) := hP
  have HN : Hid (NodeAt w (B + 6 + wi) n) := hn
  have HL : Hid (LogIs w n.recs cs) := hL
  clear hP hn hL
  go_enter Yaod.func56, Yaod.ntmps56
  go_wp2
  obtain ⟨i0, hi0, hz0, hz1, hz2⟩ := info_parts info22
  have HI : Hid (Yaod.prog.info? 22 = some i0) := hi0
  have HZ0 : Hid (i0.zero = some (.int .u64 0)) := hz0
  have HZ1 : Hid (i0.size = 1) := hz1
  have HZ2 : Hid (i0.bytes = 8) := hz2
  clear hi0 hz0 hz1 hz2
  go_loopw [13, 7] (fun i mt wr => ∃ j : Nat, j ≤ k ∧ i = .int .i64 j ∧ wr.ownsRow w.heap.size 22 1 mt (msTo wi j L f).length ((msTo wi j L f).map (Value.int .u64)) ∧ Chg [] w wr) (fun i _ _ => k - (intOf i).toNat)
  case atStart =>
    refine ⟨0, Nat.zero_le _, rfl, ?_, (Chg.refl _ _).alloc _⟩
    exact World.ownsRow_lit w _ 1 (Nat.le_refl _) (by unfold maxLen; omega) (by simp)
  case round =>
    obtain ⟨j, hj, rfl, hown, hC⟩ := hrel
    have g2 : wr.cell? ⟨B + 1, 0, none⟩ = some (.int .i64 wi) := by rw [hC.cell (by exact s1) (by simp)]; exact h2
    have g3 : wr.cell? ⟨B + 5, 0, none⟩ = some (.map (some (B + 4))) := by rw [hC.cell (by exact s5) (by simp)]; exact h3
    have g4 : wr.cell? ⟨B + 6 + k, 0, none⟩ = some (.pointer (some ⟨B + 6 + wi, 0, none⟩)) := by rw [hC.cell (by exact hsz) (by simp)]; exact h4
    have hwl := hC.size
    have hml : (msTo wi j L f).length ≤ 6 := by rw [msTo_length]; split <;> omega
    by_cases hjk : j < k
    · by_cases hjw : j = wi
      · have e1 : ((j : Int) != (wi : Int)) = false := by rw [bne_eq_false_iff_eq]; omega
        go_wp2
        go_roundw
        case rel => exact ⟨j + 1, by omega, by go_num, by rw [hjw, msTo_same]; rw [hjw] at hown; exact hown, hC⟩
        case measure => simp [intOf]; omega
      · have e1 : ((j : Int) != (wi : Int)) = true := by rw [bne_iff_ne]; omega
        have gid : wr.cell? ⟨B, j, none⟩ = some (.string (idb j)) := by rw [hC.cell (by exact s0) (by simp)]; exact hid j (by omega)
        have hlook := fun q => run_lookup_l (P := Yaod.prog) (mty := 74) (kt := 9) (et := 87) (by kernel_rfl) (by kernel_rfl) ((HP.out.chg hC (by simp)).drewN q) (idb j) _ (getL_peers wi k f j hjk hjw hk) false
        have HMS := msTo_more wi j L f hjw
        have HMS' : Hid _ := HMS
        clear HMS
        have hj5 : (j : Int) < 5 := by omega
        generalize idb j = idj at gid hlook
        generalize f j = fj at hlook HMS'
        obtain ⟨fj1, fj2⟩ := fj
        simp only [progV, Bool.false_eq_true, if_false] at hlook
        have hlook1 : Sem.run Yaod.prog (Instr.lookup 74 (.map (some (B + 4))) (.string idj) false) wr.drew = .ok (.agg #[.int .u64 fj1, .int .u64 fj2]) wr.drew := hlook 1
        clear hlook
        have hfd := field87
        have hob : ∀ b, b < w.heap.size → some b ≠ u7.ownBlock := fun b hb e => by have := (hown.lt b e.symm).1; omega
        clear hid
        go_wp2
        go_region_held2 (fun w' => w'.cell? ⟨B + 5, 0, none⟩ = some (.map (some (B + 4))) ∧ w'.cell? ⟨B, j, none⟩ = some (.string idj)) (go_keep)
          (first | (refine step_append_lies _ rfl (.tmp 19) (.tmp 26) 53 rfl w.heap.size 22 i0 (.int .u64 0) 1 8 Yaod.underlying53 HI.out HZ0.out HZ1.out HZ2.out rfl (by decide) u7 _ _ rfl (by exact hown.alloc _) ⟨wr.heap.size, 0, none⟩ 1 1 [.int .u64 fj1] rfl rfl (by exact World.news_of_block (heap_alloc_at wr _)) (by intro u hu; simp at hu; subst hu; rfl) (by decide) (by unfold maxLen; omega) (by omega) (by simp; omega) (wr.heap.size + 1) (by simp) ?_; intro g cap w1 hown1 hgrow1 _ hgl; have k1 := hgrow1.cell_far ⟨B + 5, 0, none⟩ (by simp; omega) (by exact hob (B + 5) (by omega)); have k2 := hgrow1.cell_far ⟨B, j, none⟩ (by simp; omega) (by exact hob B (by omega))))
        have R1 : w1.ownsRow w.heap.size 22 1 (.slice (some ⟨g, 0, none⟩) ((msTo wi j L f).length + 1) cap) (msTo wi (j + 1) L f).length ((msTo wi (j + 1) L f).map (Value.int .u64)) := by
          rw [HMS'.out]; simpa using hown1
        have R2 : Chg [] w w1 := (hC.alloc (.cells #[.int .u64 fj1] 22)).grown (row := u7.ownBlock) ⟨hgrow1.os, hgrow1.tape, hgrow1.output, hgrow1.size, hgrow1.block⟩ (fun b e => Or.inr (by have := (hown.lt b e).1; omega))
        clear hown1 hgrow1 hown k1 k2 hlook1 hob HMS' gid g2 g3 g4
        go_wp2
        go_roundw
        case rel => exact ⟨j + 1, by omega, by go_num, R1, R2⟩
        case measure => simp [intOf]; omega
    · have hjk' : j = k := by omega
      subst hjk'
      have hlen : (msTo wi j L f).length = j := by rw [msTo_length, if_pos hw]
      have HN1 : NodeAt wr (B + 6 + wi) n := HN.out.chg hC (by simp)
      have HL1 : LogIs wr n.recs cs := HL.out.chg hC (by simp)
      have m6 := HN1.c6
      obtain ⟨ho1, ho2⟩ := hown
      rw [hlen] at ho1 ho2
      rcases ho2 with ⟨_, h⟩ | ⟨g, cap, cur, rfl, hg1, hg2, hg3, _, _, hg4⟩
      · omega
      have hcc : ∀ i (hi : i < (msTo wi j L f).length), wr.cell? ⟨g, i, none⟩ = some (.int .u64 (msTo wi j L f)[i]) := fun i hi => by
        rw [cell_of_heap hg2, ← Array.getElem?_toList, ← List.getElem?_take_of_lt (by omega : i < j * 1), hg4]
        simp [hi]
      have cA := fun q => advance_two (B + 6 + wi) g j cap a n cs (msTo wi j L f) x L n.commit r (wr.drewN q) (HN1.drewN q) (HL1.drewN q) hs0 hs hm hlt HLE.out hlen (by omega) hk hcc
        (fun y hy => by
          simp only [msTo, List.mem_cons, List.mem_map] at hy
          rcases hy with rfl | ⟨i, hi, rfl⟩
          · exact Or.inl rfl
          · have := mem_others.1 hi; exact hall i this.1 this.2) hx hxc hcL hca hr
      clear hcc hg4 hg2 ho1 HN1 HL1 HN HL HP HS hall hca hid
      go_wp2
      go_region_held3 (fun w' => w'.cell? ⟨B + 6 + j, 0, none⟩ = some (.pointer (some ⟨B + 6 + wi, 0, none⟩)) ∧ w'.cell? ⟨B + 6 + wi, 6, none⟩ = some (.int .u64 n.commit)) (go_keep)
        (first | (go_at_call 50; refine (cA _).mono ?_; rintro e w2 ⟨rfl, hC2⟩; have k1 := hC2.cell (p := ⟨B + 6 + j, 0, none⟩) (by simp; omega) (by simp); have k2 := hC2.cell (p := ⟨B + 6 + wi, 6, none⟩) (by simp; omega) (by simp)))
      go_wp2
      go_ret
      exact ⟨rfl, hC.trans hC2.undrewN⟩
end Go.Proofs.YgdaogDoor
