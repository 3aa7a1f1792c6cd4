/-
  THE WALK OF node.TakeCommitted.
-/
import Derived.Test.YgdaogDoorSvH
namespace Go.Proofs.YgdaogDoor
open Go.RowKit
set_option maxRecDepth 100000 in
set_option maxHeartbeats 1000000 in
/-- Nothing is left to apply. -/
theorem take_none (b : Nat) (n : Nd) (cs : List ByteArray) (w : World) (hn : NodeAt w b n) (hL : LogIs w n.recs cs)
    (hs0 : 0 ≤ n.snap) (hs : n.snap ≤ 4611686018427387903) (hm : cs.length ≤ 8796093022208) (hc : n.commit = n.snap + cs.length) (ha : n.applied = n.snap + cs.length) :
    Calls Yaod.prog 19 #[.pointer (some ⟨b, 0, none⟩)] w fun e w' => e = .returned (.slice none 0 0) ∧ ∃ q, w' = w.drewN q := by
  have h6 := hn.c6
  have h7 := hn.c7
  have h8 := hn.c8
  rw [hc] at h6
  rw [ha] at h7
  have cLI := fun q => lastIndex_log b n cs (w.drewN q) (hn.drewN q) (hL.drewN q) hs0 hs hm
  clear hn hL hc ha
  generalize hli : n.snap + (cs.length : Int) = li at *
  have e1 : n.snap ≤ li := by omega
  clear hli
  go_enter Yaod.func19, Yaod.ntmps19
  go_wp2
  go_region_held3 (fun w' => w'.cell? ⟨b, 6, none⟩ = some (.int .u64 li)) (go_keep) (first | (go_at_call 57; refine (cLI _).mono ?_; rintro e w2 ⟨rfl, q2, rfl⟩))
  go_wp2
  go_ret
  exact ⟨rfl, _, rfl⟩

set_option maxRecDepth 100000 in
set_option maxHeartbeats 1000000 in
/-- The whole log is applied. -/
theorem take_all (b g cap : Nat) (n : Nd) (cs : List ByteArray) (w : World) (hn : NodeAt w b n) (hL : LogIs w n.recs cs) (hr : n.recs = .slice (some ⟨g, 0, none⟩) cs.length cap) (hcap : cs.length ≤ cap)
    (hs0 : 0 ≤ n.snap) (hs : n.snap ≤ 4611686018427387903) (hm : cs.length ≤ 8796093022208) (hpos : 0 < cs.length) (hc : n.commit = n.snap + cs.length) (ha : n.applied = n.snap) :
    Calls Yaod.prog 19 #[.pointer (some ⟨b, 0, none⟩)] w fun e w' => e = .returned (.slice (some ⟨g, 0, none⟩) cs.length cs.length) ∧ Chg [b] w w' ∧ NodeAt w' b { n with applied := n.snap + cs.length } := by
  have h6 := hn.c6
  have h7 := hn.c7
  have h8 := hn.c8
  have h10 := hn.c10
  have hlt := hn.lt
  have hf := hn.fz
  rw [hc] at h6
  rw [ha] at h7
  rw [hr] at h10
  have cLI := fun q => lastIndex_log b n cs (w.drewN q) (hn.drewN q) (hL.drewN q) hs0 hs hm
  have HN : Hid (NodeAt w b n) := hn
  clear hn hL hc ha hr
  have hsub : n.snap + (cs.length : Int) - n.snap = (cs.length : Int) := by omega
  generalize cs.length = m at *
  go_enter Yaod.func19, Yaod.ntmps19
  go_wp2
  go_region_held3 (fun w' => w'.cell? ⟨b, 6, none⟩ = some (.int .u64 (n.snap + m))) (go_keep) (first | (go_at_call 57; refine (cLI _).mono ?_; rintro e w2 ⟨rfl, q2, rfl⟩))
  go_wp2
  go_ret
  all_goals exact ⟨rfl, ((Chg.refl _ _).drewN _).setCell (by simp) _, (HN.out.drewN _).applied _⟩
end Go.Proofs.YgdaogDoor
