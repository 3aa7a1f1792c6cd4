/-
  THE WALKS OF rlog.Log.LastIndex, rlog.Log.Term, node.HandleVoteReply.
-/
import Derived.Test.YgdaogDoorSvM
namespace Go.Proofs.YgdaogDoor
open Go.RowKit

/-! ### A log's row: every record bears the term 1 -/
def flat (cs : List ByteArray) : List Value := cs.flatMap fun c => [.int .u64 1, .string c]
def LogIs (w : World) (v : Value) (cs : List ByteArray) : Prop := w.ownsRow 0 85 2 v cs.length (flat cs)
def ltOf : List ByteArray → Int
  | [] => 0
  | _ :: _ => 1
theorem flat_length (cs : List ByteArray) : (flat cs).length = cs.length * 2 := by
  induction cs with
  | nil => rfl
  | cons c r ih => simp only [flat, List.flatMap_cons, List.length_append] at *; simp [ih]; omega
theorem flat_append (a b : List ByteArray) : flat (a ++ b) = flat a ++ flat b := by simp [flat]
theorem flat_even (cs : List ByteArray) (i : Nat) (h : i < cs.length) : (flat cs)[i * 2]? = some (.int .u64 1) := by
  induction cs generalizing i with
  | nil => simp at h
  | cons c r ih =>
    cases i with
    | zero => simp [flat]
    | succ i =>
      have := ih i (by simpa using h)
      simp only [flat, List.flatMap_cons] at *
      rw [show (i + 1) * 2 = i * 2 + 2 from by omega]
      simpa using this
theorem flat_odd (cs : List ByteArray) (i : Nat) (h : i < cs.length) : (flat cs)[i * 2 + 1]? = some (.string cs[i]) := by
  induction cs generalizing i with
  | nil => simp at h
  | cons c r ih =>
    cases i with
    | zero => simp [flat]
    | succ i =>
      have := ih i (by simpa using h)
      simp only [flat, List.flatMap_cons] at *
      rw [show (i + 1) * 2 + 1 = (i * 2 + 1) + 2 from by omega]
      simpa using this
theorem LogIs.nil (w : World) : LogIs w (.slice none 0 0) [] := World.ownsRow_nil w 0 85 2
/-- The shape of a log's slice. -/
theorem LogIs.form {w : World} {v : Value} {cs : List ByteArray} (h : LogIs w v cs) :
    (cs = [] ∧ v = .slice none 0 0) ∨ ∃ g cap cur, v = .slice (some ⟨g, 0, none⟩) cs.length cap ∧ w.heap[g]? = some (.cells cur 85 (0, 0)) ∧ cs.length ≤ cap ∧
      (∀ i, i < cs.length → w.cell? ⟨g, i * 2, none⟩ = some (.int .u64 1)) ∧ (∀ i (hi : i < cs.length), w.cell? ⟨g, i * 2 + 1, none⟩ = some (.string cs[i])) := by
  obtain ⟨h1, h2⟩ := h
  rcases h2 with ⟨h3, h4⟩ | ⟨g, cap, cur, h3, _, h4, h5, _, _, h6⟩
  · exact Or.inl ⟨List.eq_nil_of_length_eq_zero h4, h3⟩
  · have hc : ∀ j, j < cs.length * 2 → w.cell? ⟨g, j, none⟩ = (flat cs)[j]? := fun j hj => by
      rw [cell_of_heap h4, ← h6, ← Array.getElem?_toList, List.getElem?_take_of_lt hj]
    refine Or.inr ⟨g, cap, cur, h3, h4, h5, fun i hi => ?_, fun i hi => ?_⟩
    · rw [hc _ (by omega)]; exact flat_even cs i hi
    · rw [hc _ (by omega)]; exact flat_odd cs i hi
theorem LogIs.of_blocks {w w' : World} {v : Value} {cs : List ByteArray} (h : LogIs w v cs) (hb : ∀ g cur, v.ownBlock = some g → w.heap[g]? = some (.cells cur 85 (0, 0)) → w'.heap[g]? = w.heap[g]?) : LogIs w' v cs := by
  obtain ⟨h1, h2⟩ := h
  refine ⟨h1, ?_⟩
  rcases h2 with h2 | ⟨g, cap, cur, h3, h4, h5, h6⟩
  · exact Or.inl h2
  · exact Or.inr ⟨g, cap, cur, h3, h4, by rw [hb g cur (by rw [h3]; rfl) h5]; exact h5, h6⟩
theorem LogIs.chg {S : List Nat} {w w' : World} {v : Value} {cs : List ByteArray} (h : LogIs w v cs) (hc : Chg S w w') (hs : ∀ g cur, v.ownBlock = some g → w.heap[g]? = some (.cells cur 85 (0, 0)) → g ∉ S) : LogIs w' v cs :=
  h.of_blocks fun g cur h1 h2 => hc.block g (lt_of_heap h2) (hs g cur h1 h2)
theorem LogIs.alloc {w : World} {v : Value} {cs : List ByteArray} (h : LogIs w v cs) (o : Obj) : LogIs (w.alloc o) v cs :=
  h.of_blocks fun _ _ _ h2 => Below.heap_alloc _ _ _ (lt_of_heap h2)
theorem LogIs.drewN {w : World} {v : Value} {cs : List ByteArray} (h : LogIs w v cs) (q : Nat) : LogIs (w.drewN q) v cs := h
theorem LogIs.far {w : World} {v : Value} {cs : List ByteArray} (h : LogIs w v cs) {p : Addr} (u : Value) (hp : ∀ cur, w.heap[p.block]? ≠ some (.cells cur 85 (0, 0))) : LogIs (w.setCell p u) v cs :=
  h.of_blocks fun g cur _ h2 => Below.heap_setCell _ _ _ _ (fun e => hp cur (by rw [← e]; exact h2))
theorem NodeAt.noRow {w : World} {b : Nat} {n : Nd} (h : NodeAt w b n) (cur : Array Value) : w.heap[b]? ≠ some (.cells cur 85 (0, 0)) := by
  intro h2; have h' : w.heap[b]? = some (.cells n.cells 51 (0, 0)) := h
  rw [h'] at h2; injection h2 with h3; injection h3 with h4 h5; exact absurd h5 (by decide)
theorem MapIs.noRow {w : World} {b : Nat} {l : PairL} (h : MapIs w b l) (cur : Array Value) : w.heap[b]? ≠ some (.cells cur 85 (0, 0)) := by
  obtain ⟨es, c, h', _⟩ := h
  rw [h']; intro h2; cases h2
theorem MapIs.ne_node {w : World} {b vb : Nat} {n : Nd} {l : PairL} (hM : MapIs w vb l) (hn : NodeAt w b n) : vb ≠ b := by
  intro e; subst e
  obtain ⟨es, c, h, _⟩ := hM
  have h' : w.heap[vb]? = some (.cells n.cells 51 (0, 0)) := hn
  rw [h'] at h; cases h

theorem wrap_u64_of (x : Int) (h0 : 0 ≤ x) (h1 : x < 18446744073709551616) : IntKind.u64.wrap x = x := by
  simp only [IntKind.wrap, IntKind.signed, IntKind.bits, Bool.false_and]
  simp
  omega

set_option maxHeartbeats 400000 in
theorem lastIndex_any (b : Nat) (s : Int) (p : Option Addr) (m c : Nat) (w : World) (h8 : w.cell? ⟨b, 8, none⟩ = some (.int .u64 s)) (h10 : w.cell? ⟨b, 10, none⟩ = some (.slice p m c))
    (hs0 : 0 ≤ s) (hs : s ≤ 4611686018427387903) (hm : m ≤ 8796093022208) :
    Calls Yaod.prog 57 #[.pointer (some ⟨b, 8, none⟩)] w fun e w' => e = .returned (.int .u64 (s + m)) ∧ ∃ q, w' = w.drewN q := by
  go_enter Yaod.func57, Yaod.ntmps57
  go_wp2
  go_quiet (fail)
  go_wp2
  go_ret
  exact ⟨rfl, _, rfl⟩

theorem lastIndex_log (b : Nat) (n : Nd) (cs : List ByteArray) (w : World) (hn : NodeAt w b n) (hL : LogIs w n.recs cs) (hs0 : 0 ≤ n.snap) (hs : n.snap ≤ 4611686018427387903) (hm : cs.length ≤ 8796093022208) :
    Calls Yaod.prog 57 #[.pointer (some ⟨b, 8, none⟩)] w fun e w' => e = .returned (.int .u64 (n.snap + cs.length)) ∧ ∃ q, w' = w.drewN q := by
  have h10 := hn.c10
  rcases hL.form with ⟨h1, h2⟩ | ⟨g, cap, cur, h2, _⟩
  · rw [h2] at h10; subst h1
    exact lastIndex_any b n.snap none 0 0 w hn.c8 h10 hs0 hs (by omega)
  · rw [h2] at h10
    exact lastIndex_any b n.snap _ _ _ w hn.c8 h10 hs0 hs hm

set_option maxHeartbeats 400000 in
theorem term_snap (b : Nat) (s : Int) (w : World) (h8 : w.cell? ⟨b, 8, none⟩ = some (.int .u64 s)) (h9 : w.cell? ⟨b, 9, none⟩ = some (.int .u64 0)) :
    Calls Yaod.prog 17 #[.pointer (some ⟨b, 8, none⟩), .int .u64 s] w fun e w' => e = .returned (.tuple #[.int .u64 0, .nilIface]) ∧ w' = w := by
  go_enter Yaod.func17, Yaod.ntmps17
  go_wp2
  go_ret2
  exact ⟨rfl, rfl⟩

set_option maxHeartbeats 400000 in
theorem term_in (b g i : Nat) (s t T : Int) (m c : Nat) (w : World) (h8 : w.cell? ⟨b, 8, none⟩ = some (.int .u64 s)) (h10 : w.cell? ⟨b, 10, none⟩ = some (.slice (some ⟨g, 0, none⟩) m c))
    (hc : w.cell? ⟨g, i * 2, none⟩ = some (.int .u64 T)) (hti : Hid (t = s + i + 1))
    (hs0 : 0 ≤ s) (ht : t ≤ 4611700000000000000) (hm : i < m) (hm2 : m ≤ 8796093022208) :
    Calls Yaod.prog 17 #[.pointer (some ⟨b, 8, none⟩), .int .u64 t] w fun e w' => e = .returned (.tuple #[.int .u64 T, .nilIface]) ∧ ∃ q, w' = w.drewN q := by
  have e0 : s < t := by have := hti.out; omega
  have e1 : (t == s) = false := by simp; omega
  have e2 : IntKind.u64.wrap (t - s) = (i : Int) + 1 := by have := hti.out; rw [wrap_u64_of _ (by omega) (by omega)]; omega
  have e3 : IntKind.u64.wrap (i : Int) = (i : Int) := wrap_u64_of _ (by omega) (by omega)
  have e6 : ¬ ((m : Int) < i + 1) := by omega
  go_enter Yaod.func17, Yaod.ntmps17
  go_wp2
  go_quiet (fail)
  go_wp2
  go_quiet (fail)
  go_wp2
  go_ret2
  exact ⟨rfl, _, World.drewN_drewN _ _ _⟩

theorem term_log (b : Nat) (n : Nd) (cs : List ByteArray) (w : World) (hn : NodeAt w b n) (hL : LogIs w n.recs cs) (hs0 : 0 ≤ n.snap) (hs : n.snap ≤ 4611686018427387903) (hm : cs.length ≤ 8796093022208) :
    Calls Yaod.prog 17 #[.pointer (some ⟨b, 8, none⟩), .int .u64 (n.snap + cs.length)] w fun e w' => e = .returned (.tuple #[.int .u64 (ltOf cs), .nilIface]) ∧ ∃ q, w' = w.drewN q := by
  have h10 := hn.c10
  rcases hL.form with ⟨h1, h2⟩ | ⟨g, cap, cur, h2, h3, h4, h5, h6⟩
  · subst h1
    rw [show n.snap + (([] : List ByteArray).length : Int) = n.snap from by simp]
    exact (term_snap b n.snap w hn.c8 hn.c9).mono fun e w' ⟨he, hw⟩ => ⟨he, 0, hw⟩
  · cases cs with
    | nil =>
      rw [show n.snap + (([] : List ByteArray).length : Int) = n.snap from by simp]
      exact (term_snap b n.snap w hn.c8 hn.c9).mono fun e w' ⟨he, hw⟩ => ⟨he, 0, hw⟩
    | cons c r =>
      rw [h2] at h10
      exact term_in b g r.length n.snap _ 1 _ cap w hn.c8 h10 (h5 r.length (by simp)) (by show _ = _; simp; omega) hs0 (by simp at *; omega) (by simp) hm

set_option maxHeartbeats 400000 in
theorem hvr_not (b : Nat) (n : Nd) (f : ByteArray) (w : World) (hn : NodeAt w b n) (hr : (n.role != 1) = true) :
    Calls Yaod.prog 36 #[.pointer (some ⟨b, 0, none⟩), .agg #[.int .u64 n.term, .string f, .bool true]] w fun e w' => e = .returned (.bool false) ∧ Chg [] w w' := by
  have h2 := hn.c2
  have h4 := hn.c4
  have hlt := hn.lt
  clear hn
  go_enter Yaod.func36, Yaod.ntmps36
  go_wp2
  go_quiet (fail)
  go_wp2
  go_ret
  exact ⟨rfl, ((Chg.refl _ _).alloc _).drewN _⟩

set_option maxRecDepth 100000 in
set_option maxHeartbeats 1000000 in
theorem hvr_cand (b vb : Nat) (n : Nd) (l : PairL) (f : ByteArray) (w : World) (hn : NodeAt w b n) (hr : n.role = 1) (hv : n.votes = .map (some vb)) (hM : MapIs w vb l) (hl : putL l f (.bool true) = l ++ [(f, .bool true)])
    (hlen : l.length ≤ 5) :
    Calls Yaod.prog 36 #[.pointer (some ⟨b, 0, none⟩), .agg #[.int .u64 n.term, .string f, .bool true]] w fun e w' =>
      MapIs w' vb (l ++ [(f, .bool true)]) ∧ Chg [b, vb] w w' ∧
      ((2 * (l.length + 1) ≤ n.size ∧ e = .returned (.bool false) ∧ NodeAt w' b n) ∨ (n.size < 2 * (l.length + 1) ∧ e = .returned (.bool true) ∧ NodeAt w' b { n with role := 2 })) := by
  have h1 := hn.c1
  have h2 := hn.c2
  have h4 := hn.c4
  have h5 := hn.c5
  rw [hv] at h5
  rw [hr] at h4
  have hlt := hn.lt
  have hlv := hM.lt
  have hf := hn.fz
  have HN : Hid (NodeAt w b n) := hn
  have hvb : vb ≠ b := by
    intro e; subst e
    obtain ⟨es, c, h, _⟩ := hM
    have h' : w.heap[vb]? = some (.cells n.cells 51 (0, 0)) := hn
    rw [h'] at h; cases h
  have hmn := run_eql_map_nil vb
  have hvb' : b ≠ vb := hvb.symm
  have hvs : w.heap.size ≠ vb := by omega
  clear hn
  go_enter Yaod.func36, Yaod.ntmps36
  go_wp2
  go_quiet (fail)
  go_wp2
  obtain ⟨o, hupd0, hM2⟩ := run_mapUpdate_l (P := Yaod.prog) (mty := 49) (kt := 9) (et := 4) (by kernel_rfl) (by kernel_rfl) (hM.alloc (.cells #[.int .u64 n.term, .string f, .bool true] 116)) f (.bool true)
  have hupd := fun q => hupd0 ((w.alloc (.cells #[.int .u64 n.term, .string f, .bool true] 116)).drewN q) rfl
  clear hupd0
  have HM : Hid (MapIs (setB (w.alloc (.cells #[.int .u64 n.term, .string f, .bool true] 116)) vb o) vb (putL l f (.bool true))) := hM2 _ rfl
  clear hM2
  go_region_held3 (fun w' => w'.cell? ⟨b, 5, none⟩ = some (.map (some vb)) ∧ w'.cell? ⟨w.heap.size, 1, none⟩ = some (.string f)) (simp [*, World.cell?_alloc_some, cell?_setB_far]) (fail)
  go_wp2
  have HN2 : NodeAt (setB ((w.alloc (Obj.cells #[Value.int IntKind.u64 n.term, Value.string f, Value.bool true] 116)).drewN (nq + 1)) vb o) b n := ((HN.out.alloc _).drewN _).setB hvb' _
  have HM2 : MapIs (setB ((w.alloc (Obj.cells #[Value.int IntKind.u64 n.term, Value.string f, Value.bool true] 116)).drewN (nq + 1)) vb o) vb (l ++ [(f, .bool true)]) := by
    rw [← hl]; exact HM.out
  have HC : Chg [b, vb] w (setB ((w.alloc (Obj.cells #[Value.int IntKind.u64 n.term, Value.string f, Value.bool true] 116)).drewN (nq + 1)) vb o) := (((Chg.refl _ _).alloc _).drewN _).setB (by simp) _
  clear hupd HM hM h1 h2 h4 h5 hf HN hmn
  generalize setB ((w.alloc (Obj.cells #[Value.int IntKind.u64 n.term, Value.string f, Value.bool true] 116)).drewN (nq + 1)) vb o = w2 at HN2 HM2 HC ⊢
  have h1 := HN2.c1
  have h5 := HN2.c5
  have h4 := HN2.c4
  have hf := HN2.fz
  rw [hv] at h5
  have hln : ∀ q ty, Sem.run Yaod.prog (Builtin.len_ #[49] ty #[.map (some vb)]) (w2.drewN q) = .ok (.int .i64 ((l.length : Int) + 1)) (w2.drewN q) := fun q ty => by
    rw [run_len_l (P := Yaod.prog) (mty := 49) (kt := 9) (et := 4) (by kernel_rfl) HM2 q ty]; simp
  by_cases hc : 2 * ((l.length : Int) + 1) ≤ n.size
  · go_quiet (fail)
    go_wp2
    go_ret
    exact ⟨HM2, HC.drewN _, Or.inl ⟨hc, rfl, HN2⟩⟩
  · go_quiet (fail)
    go_wp2
    go_ret
    exact ⟨HM2.of_heap (Below.heap_setCell _ _ _ _ hvb), (HC.drewN _).setCell (by simp) _, Or.inr ⟨rfl, by have HR := (HN2.drewN nq).role 2; rw [hv] at HR; exact HR⟩⟩
end Go.Proofs.YgdaogDoor
