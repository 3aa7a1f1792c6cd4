/-
  THE WALK OF node.Step, a case each.
-/
import Derived.Test.YgdaogDoorSvH
import Derived.Laws.EntriesVeiled
namespace Go.Proofs.YgdaogDoor
open Go.RowKit
theorem ta_66_66 (v : Value) (w : World) : Sem.run Yaod.prog (Instr.typeAssert (.iface 66 v) 63 66 true) w = .ok (.tuple #[v, .bool true]) w := by kernel_rfl
theorem ta_113_66 (v : Value) (w : World) : Sem.run Yaod.prog (Instr.typeAssert (.iface 113 v) 63 66 true) w = .ok (.tuple #[.agg #[], .bool false]) w := by kernel_rfl
theorem ta_116_66 (v : Value) (w : World) : Sem.run Yaod.prog (Instr.typeAssert (.iface 116 v) 63 66 true) w = .ok (.tuple #[.agg #[], .bool false]) w := by kernel_rfl
theorem ta_89_66 (v : Value) (w : World) : Sem.run Yaod.prog (Instr.typeAssert (.iface 89 v) 63 66 true) w = .ok (.tuple #[.agg #[], .bool false]) w := by kernel_rfl
theorem ta_71_66 (v : Value) (w : World) : Sem.run Yaod.prog (Instr.typeAssert (.iface 71 v) 63 66 true) w = .ok (.tuple #[.agg #[], .bool false]) w := by kernel_rfl
theorem ta_113_113 (v : Value) (w : World) : Sem.run Yaod.prog (Instr.typeAssert (.iface 113 v) 63 113 true) w = .ok (.tuple #[v, .bool true]) w := by kernel_rfl
theorem ta_116_113 (v : Value) (w : World) : Sem.run Yaod.prog (Instr.typeAssert (.iface 116 v) 63 113 true) w = .ok (.tuple #[.agg #[.int .u64 0, .string ⟨#[]⟩, .int .u64 0, .int .u64 0], .bool false]) w := by kernel_rfl
theorem ta_89_113 (v : Value) (w : World) : Sem.run Yaod.prog (Instr.typeAssert (.iface 89 v) 63 113 true) w = .ok (.tuple #[.agg #[.int .u64 0, .string ⟨#[]⟩, .int .u64 0, .int .u64 0], .bool false]) w := by kernel_rfl
theorem ta_71_113 (v : Value) (w : World) : Sem.run Yaod.prog (Instr.typeAssert (.iface 71 v) 63 113 true) w = .ok (.tuple #[.agg #[.int .u64 0, .string ⟨#[]⟩, .int .u64 0, .int .u64 0], .bool false]) w := by kernel_rfl
theorem ta_116_116 (v : Value) (w : World) : Sem.run Yaod.prog (Instr.typeAssert (.iface 116 v) 63 116 true) w = .ok (.tuple #[v, .bool true]) w := by kernel_rfl
theorem ta_89_116 (v : Value) (w : World) : Sem.run Yaod.prog (Instr.typeAssert (.iface 89 v) 63 116 true) w = .ok (.tuple #[.agg #[.int .u64 0, .string ⟨#[]⟩, .bool false], .bool false]) w := by kernel_rfl
theorem ta_71_116 (v : Value) (w : World) : Sem.run Yaod.prog (Instr.typeAssert (.iface 71 v) 63 116 true) w = .ok (.tuple #[.agg #[.int .u64 0, .string ⟨#[]⟩, .bool false], .bool false]) w := by kernel_rfl
theorem ta_89_89 (v : Value) (w : World) : Sem.run Yaod.prog (Instr.typeAssert (.iface 89 v) 63 89 true) w = .ok (.tuple #[v, .bool true]) w := by kernel_rfl
theorem ta_71_89 (v : Value) (w : World) : Sem.run Yaod.prog (Instr.typeAssert (.iface 71 v) 63 89 true) w = .ok (.tuple #[.agg #[.int .u64 0, .string ⟨#[]⟩, .int .u64 0, .int .u64 0, .slice none 0 0, .int .u64 0], .bool false]) w := by kernel_rfl
theorem meth71 (v : Value) (w : World) : Sem.run Yaod.prog (method 281 71 v "MsgTerm") w = .ok (42, v) w := by kernel_rfl
theorem neq_nilFunc (w : World) : Sem.run Yaod.prog (binOp .neq 114 .nilFunc .nilFunc) w = .ok (.bool false) w := by kernel_rfl
theorem neq_func (f : Fn) (x y : Array Value) (w : World) : Sem.run Yaod.prog (binOp .neq 114 (.func f x y) .nilFunc) w = .ok (.bool true) w := by kernel_rfl

set_option maxRecDepth 100000 in
set_option maxHeartbeats 1000000 in
/-- A timer at a leader: nothing. -/
theorem step_hup_leader (b : Nat) (n : Nd) (w : World) (hn : NodeAt w b n) (hr : n.role = 2) :
    Calls Yaod.prog 13 #[.pointer (some ⟨b, 0, none⟩), .iface 66 (.agg #[])] w fun e w' => e = .returned .nilIface ∧ Chg [] w w' := by
  have h4 := hn.c4
  have hlt := hn.lt
  rw [hr] at h4
  clear hn hr
  have h66 := ta_66_66
  have hnf := neq_nilFunc
  go_enter Yaod.func13, Yaod.ntmps13
  go_wp2
  go_ret
  exact ⟨rfl, ((Chg.refl _ _).alloc _).alloc _⟩

set_option maxRecDepth 100000 in
set_option maxHeartbeats 1000000 in
/-- A timer at a follower: it campaigns. -/
theorem step_hup_camp (b : Nat) (n : Nd) (cs : List ByteArray) (w : World) (hn : NodeAt w b n) (hL : LogIs w n.recs cs) (hr : n.role = 0)
    (hs0 : 0 ≤ n.snap) (hs : n.snap ≤ 4611686018427387903) (hm : cs.length ≤ 8796093022208) (ht0 : 0 ≤ n.term) (ht : n.term ≤ 100) (ro : Int) (hro : Hid (ro = if n.size < 2 then 2 else 1)) :
    Calls Yaod.prog 13 #[.pointer (some ⟨b, 0, none⟩), .iface 66 (.agg #[])] w fun e w' =>
      e = .returned (.iface 113 (.agg #[.int .u64 (n.term + 1), .string n.id, .int .u64 (n.snap + cs.length), .int .u64 (ltOf cs)])) ∧ Chg [b] w w' ∧
      ∃ vb, w.heap.size ≤ vb ∧ MapIs w' vb [(n.id, .bool true)] ∧
        NodeAt w' b { n with term := n.term + 1, role := ro, voted := n.id, votes := .map (some vb) } := by
  have h4 := hn.c4
  have hlt := hn.lt
  rw [hr] at h4
  have HN : Hid (NodeAt w b n) := hn
  have HL : Hid (LogIs w n.recs cs) := hL
  clear hn hr hL
  have h66 := ta_66_66
  have hnf := neq_func
  go_enter Yaod.func13, Yaod.ntmps13
  go_wp2_with fail
  refine (campaign_any b n cs _ ((HN.out.alloc _).alloc _) ((HL.out.alloc _).alloc _) hs0 hs hm ht0 ht ro hro).mono ?_
  rintro e w1 ⟨rfl, hC, vb, hvb, hM, hN⟩
  go_wp2
  go_ret
  refine ⟨rfl, (((Chg.refl _ _).alloc _).alloc _).trans hC, vb, ?_, hM, hN⟩
  simp at hvb; omega

set_option maxRecDepth 100000 in
set_option maxHeartbeats 1000000 in
theorem step_vote (b : Nat) (n : Nd) (cs : List ByteArray) (T : Int) (cid : ByteArray) (w : World) (hn : NodeAt w b n) (hL : LogIs w n.recs cs)
    (hs0 : 0 ≤ n.snap) (hs : n.snap ≤ 4611686018427387903) (hm : cs.length ≤ 8796093022208) (ht : n.term < T) (hcid : (cid.toList == []) = false) :
    Calls Yaod.prog 13 #[.pointer (some ⟨b, 0, none⟩), .iface 113 (.agg #[.int .u64 T, .string cid, .int .u64 (n.snap + cs.length), .int .u64 (ltOf cs)])] w fun e w' =>
      e = .returned (.iface 116 (.agg #[.int .u64 T, .string n.id, .bool true])) ∧ Chg [b] w w' ∧ NodeAt w' b { n with term := T, role := 0, voted := cid } := by
  have hlt := hn.lt
  have HN : Hid (NodeAt w b n) := hn
  have HL : Hid (LogIs w n.recs cs) := hL
  clear hn hL
  have t1 := ta_113_66
  have t2 := ta_113_113
  go_enter Yaod.func13, Yaod.ntmps13
  go_wp2_with fail
  refine (handleVote_any b n cs T cid _ (HN.out.alloc _) (HL.out.alloc _) hs0 hs hm ht hcid).mono ?_
  rintro e w1 ⟨rfl, hC, hN⟩
  go_wp2
  go_ret
  exact ⟨rfl, ((Chg.refl _ _).alloc _).trans hC, hN⟩

set_option maxRecDepth 100000 in
set_option maxHeartbeats 1000000 in
theorem step_reply_not (b : Nat) (n : Nd) (f : ByteArray) (w : World) (hn : NodeAt w b n) (hr : (n.role != 1) = true) :
    Calls Yaod.prog 13 #[.pointer (some ⟨b, 0, none⟩), .iface 116 (.agg #[.int .u64 n.term, .string f, .bool true])] w fun e w' => e = .returned .nilIface ∧ Chg [] w w' := by
  have hlt := hn.lt
  have HN : Hid (NodeAt w b n) := hn
  clear hn
  have t1 := ta_116_66
  have t2 := ta_116_113
  have t3 := ta_116_116
  go_enter Yaod.func13, Yaod.ntmps13
  go_wp2_with fail
  refine (hvr_not b n f _ (HN.out.alloc _) hr).mono ?_
  rintro e w1 ⟨rfl, hC⟩
  go_wp2
  go_ret
  exact ⟨rfl, ((Chg.refl _ _).alloc _).trans hC⟩

set_option maxRecDepth 100000 in
set_option maxHeartbeats 1000000 in
theorem step_reply_cand (b vb : Nat) (n : Nd) (l : PairL) (f : ByteArray) (w : World) (hn : NodeAt w b n) (hr : n.role = 1) (hv : n.votes = .map (some vb)) (hM : MapIs w vb l) (hl : putL l f (.bool true) = l ++ [(f, .bool true)])
    (hlen : l.length ≤ 5) (ro : Int) (hro : Hid (ro = if n.size < 2 * (l.length + 1) then 2 else 1)) :
    Calls Yaod.prog 13 #[.pointer (some ⟨b, 0, none⟩), .iface 116 (.agg #[.int .u64 n.term, .string f, .bool true])] w fun e w' =>
      e = .returned .nilIface ∧ MapIs w' vb (l ++ [(f, .bool true)]) ∧ Chg [b, vb] w w' ∧ NodeAt w' b { n with role := ro } := by
  have hlt := hn.lt
  have c := hvr_one b vb n l f (w.alloc (.cells #[.int .u64 n.term, .string f, .bool true] 116)) (hn.alloc _) hr hv (hM.alloc _) hl hlen
  rw [← hro.out] at c
  clear hn hM hv hr hl
  have t1 := ta_116_66
  have t2 := ta_116_113
  have t3 := ta_116_116
  go_enter Yaod.func13, Yaod.ntmps13
  go_wp2_with fail
  refine c.mono ?_
  rintro e w1 ⟨hM, hC, rfl, hN⟩
  go_wp2
  go_ret
  exact ⟨rfl, hM, ((Chg.refl _ _).alloc _).trans hC, hN⟩

set_option maxRecDepth 100000 in
set_option maxHeartbeats 1000000 in
theorem step_append_one (b : Nat) (n : Nd) (cs : List ByteArray) (lead : ByteArray) (cm cm' : Int) (w : World) (r c : Nat) (cmd : ByteArray) (hn : NodeAt w b n) (hL : LogIs w n.recs cs)
    (hr0 : w.cell? ⟨r, 0, none⟩ = some (.int .u64 1)) (hr1 : w.cell? ⟨r, 1, none⟩ = some (.string cmd))
    (hs0 : 0 ≤ n.snap) (hs : n.snap ≤ 4611686018427387903) (hm : cs.length ≤ 8796093022207) (hcm : Hid (cm' = commitTo n.commit cm (n.snap + cs.length + 1))) :
    Calls Yaod.prog 13 #[.pointer (some ⟨b, 0, none⟩), .iface 89 (.agg #[.int .u64 n.term, .string lead, .int .u64 (n.snap + cs.length), .int .u64 (ltOf cs), .slice (some ⟨r, 0, none⟩) 1 c, .int .u64 cm])] w fun e w' =>
      e = .returned (.iface 71 (.agg #[.int .u64 n.term, .bool true, .int .u64 0, .int .u64 0])) ∧ Chg [b] w w' ∧
      ∃ v', NodeAt w' b { n with role := 0, commit := cm', recs := v' } ∧ LogIs w' v' (cs ++ [cmd]) ∧ ∃ g, v'.ownBlock = some g ∧ w.heap.size ≤ g := by
  have hlt := hn.lt
  have ct := fun o => handleAppend_one b n cs lead cm cm' (w.alloc o) r c cmd (hn.alloc _) (hL.alloc _) ((World.cell?_alloc_some _ _ _ (by rw [hr0]; rfl)).trans hr0) ((World.cell?_alloc_some _ _ _ (by rw [hr1]; rfl)).trans hr1) hs0 hs hm hcm
  clear hn hL hr0 hr1
  have t1 := ta_89_66
  have t2 := ta_89_113
  have t3 := ta_89_116
  have t4 := ta_89_89
  go_enter Yaod.func13, Yaod.ntmps13
  go_wp2_with fail
  refine (ct _).mono ?_
  rintro e w1 ⟨rfl, hC, v', hN, hL, g, hg, hgs⟩
  go_wp2
  go_ret
  refine ⟨rfl, ((Chg.refl _ _).alloc _).trans hC, v', hN, hL, g, hg, ?_⟩
  simp at hgs; omega

set_option maxRecDepth 100000 in
set_option maxHeartbeats 1000000 in
theorem step_append_none (b : Nat) (n : Nd) (cs : List ByteArray) (lead : ByteArray) (cm cm' : Int) (w : World) (hn : NodeAt w b n) (hL : LogIs w n.recs cs)
    (hs0 : 0 ≤ n.snap) (hs : n.snap ≤ 4611686018427387903) (hm : cs.length ≤ 8796093022208) (hcm : Hid (cm' = commitTo n.commit cm (n.snap + cs.length))) :
    Calls Yaod.prog 13 #[.pointer (some ⟨b, 0, none⟩), .iface 89 (.agg #[.int .u64 n.term, .string lead, .int .u64 (n.snap + cs.length), .int .u64 (ltOf cs), .slice none 0 0, .int .u64 cm])] w fun e w' =>
      e = .returned (.iface 71 (.agg #[.int .u64 n.term, .bool true, .int .u64 0, .int .u64 0])) ∧ Chg [b] w w' ∧ NodeAt w' b { n with role := 0, commit := cm' } := by
  have hlt := hn.lt
  have ct := fun o => handleAppend_none b n cs lead cm cm' (w.alloc o) (hn.alloc _) (hL.alloc _) hs0 hs hm hcm
  clear hn hL
  have t1 := ta_89_66
  have t2 := ta_89_113
  have t3 := ta_89_116
  have t4 := ta_89_89
  go_enter Yaod.func13, Yaod.ntmps13
  go_wp2_with fail
  refine (ct _).mono ?_
  rintro e w1 ⟨rfl, hC, hN⟩
  go_wp2
  go_ret
  exact ⟨rfl, ((Chg.refl _ _).alloc _).trans hC, hN⟩

set_option maxRecDepth 100000 in
set_option maxHeartbeats 1000000 in
theorem step_append_old (b : Nat) (n : Nd) (t : Int) (lead : ByteArray) (p pt cm : Int) (w : World) (hn : NodeAt w b n) (ht : t < n.term) :
    Calls Yaod.prog 13 #[.pointer (some ⟨b, 0, none⟩), .iface 89 (.agg #[.int .u64 t, .string lead, .int .u64 p, .int .u64 pt, .slice none 0 0, .int .u64 cm])] w fun e w' =>
      e = .returned (.iface 71 (.agg #[.int .u64 n.term, .bool false, .int .u64 0, .int .u64 0])) ∧ Chg [] w w' := by
  have hlt := hn.lt
  have ct := fun o => handleAppend_old b n t lead p pt cm (w.alloc o) (hn.alloc _) ht
  clear hn
  have t1 := ta_89_66
  have t2 := ta_89_113
  have t3 := ta_89_116
  have t4 := ta_89_89
  go_enter Yaod.func13, Yaod.ntmps13
  go_wp2_with fail
  refine (ct _).mono ?_
  rintro e w1 ⟨rfl, hC⟩
  go_wp2
  go_ret
  exact ⟨rfl, ((Chg.refl _ _).alloc _).trans hC⟩

set_option maxRecDepth 100000 in
set_option maxHeartbeats 1000000 in
theorem step_areply_low (b : Nat) (n : Nd) (t : Int) (s : Bool) (ct ci : Int) (w : World) (hn : NodeAt w b n) (ht : t ≤ n.term) :
    Calls Yaod.prog 13 #[.pointer (some ⟨b, 0, none⟩), .iface 71 (.agg #[.int .u64 t, .bool s, .int .u64 ct, .int .u64 ci])] w fun e w' =>
      e = .returned .nilIface ∧ Chg [] w w' := by
  have hlt := hn.lt
  have h2 := hn.c2
  clear hn
  have t1 := ta_71_66
  have t2 := ta_71_113
  have t3 := ta_71_116
  have t4 := ta_71_89
  have mt := meth71
  go_enter Yaod.func13, Yaod.ntmps13
  go_wp2
  go_ret
  exact ⟨rfl, (Chg.refl _ _).alloc _⟩

set_option maxRecDepth 100000 in
set_option maxHeartbeats 1000000 in
theorem step_areply_high (b : Nat) (n : Nd) (t : Int) (s : Bool) (ct ci : Int) (w : World) (hn : NodeAt w b n) (ht : n.term < t) :
    Calls Yaod.prog 13 #[.pointer (some ⟨b, 0, none⟩), .iface 71 (.agg #[.int .u64 t, .bool s, .int .u64 ct, .int .u64 ci])] w fun e w' =>
      e = .returned .nilIface ∧ Chg [b] w w' ∧ NodeAt w' b { n with term := t, voted := ⟨#[]⟩, role := 0 } := by
  have hlt := hn.lt
  have h2 := hn.c2
  have h3 := hn.c3
  have h4 := hn.c4
  have hf := hn.fz
  have HN : Hid (NodeAt w b n) := hn
  clear hn
  have t1 := ta_71_66
  have t2 := ta_71_113
  have t3 := ta_71_116
  have t4 := ta_71_89
  have mt := meth71
  go_enter Yaod.func13, Yaod.ntmps13
  go_wp2
  go_ret
  exact ⟨rfl, ((((Chg.refl _ _).setCell (by simp) _).setCell (by simp) _).setCell (by simp) _).alloc _, (((HN.out.term _).voted _).role _).alloc _⟩
end Go.Proofs.YgdaogDoor
