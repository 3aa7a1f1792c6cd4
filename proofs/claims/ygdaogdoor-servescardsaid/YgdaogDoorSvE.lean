/-
  THE WALK OF slices.Equal at records.
-/
import Derived.Test.YgdaogDoorSvS
namespace Go.Proofs.YgdaogDoor
open Go.RowKit
theorem neq_rec (c : ByteArray) (w : World) : Sem.run Yaod.prog (binOp .neq 85 (.agg #[.int .u64 1, .string c]) (.agg #[.int .u64 1, .string c])) w = .ok (.bool false) w := by
  go_simp
set_option maxRecDepth 100000 in
set_option maxHeartbeats 1000000 in
theorem equal_rows (g1 g2 c1 c2 m : Nat) (f : Nat → ByteArray) (w : World)
    (a0 : ∀ i, i < m → w.cell? ⟨g1, i * 2, none⟩ = some (.int .u64 1)) (a1 : ∀ i, i < m → w.cell? ⟨g1, i * 2 + 1, none⟩ = some (.string (f i)))
    (b0 : ∀ i, i < m → w.cell? ⟨g2, i * 2, none⟩ = some (.int .u64 1)) (b1 : ∀ i, i < m → w.cell? ⟨g2, i * 2 + 1, none⟩ = some (.string (f i)))
    (hm : m ≤ 8796093022208) :
    Calls Yaod.prog 20 #[.slice (some ⟨g1, 0, none⟩) m c1, .slice (some ⟨g2, 0, none⟩) m c2] w fun e w' => e = .returned (.bool true) ∧ ∃ q, w' = w.drewN q := by
  have A0 := fun i => (show Hid _ from a0 i)
  have A1 := fun i => (show Hid _ from a1 i)
  have B0 := fun i => (show Hid _ from b0 i)
  have B1 := fun i => (show Hid _ from b1 i)
  clear a0 a1 b0 b1
  go_enter Yaod.func20, Yaod.ntmps20
  go_wp2
  go_loopw [13] (fun i wr => ∃ k : Nat, k ≤ m ∧ i = .int .i64 k ∧ ∃ q, wr = w.drewN q) (fun i _ => m - (intOf i).toNat)
  case atStart => exact ⟨0, Nat.zero_le _, rfl, 0, rfl⟩
  case round =>
    obtain ⟨k, hk, rfl, q, rfl⟩ := hrel
    by_cases hlt : k < m
    · have x0 := (A0 k).out hlt
      have x1 := (A1 k).out hlt
      have y0 := (B0 k).out hlt
      have y1 := (B1 k).out hlt
      clear A0 A1 B0 B1
      generalize f k = c at *
      have hn := neq_rec c
      go_wp2
      go_quiet (fail)
      go_wp2
      exact ⟨⟨k + 1, by omega, by go_num, _, rfl⟩, by simp [intOf]; omega⟩
    · go_wp2
      go_ret
      exact ⟨rfl, _, rfl⟩

/-- Two slices of records of length 0. -/
theorem equal_zero (p1 p2 : Option Addr) (c1 c2 : Nat) (w : World) : Calls Yaod.prog 20 #[.slice p1 0 c1, .slice p2 0 c2] w fun e w' => e = .returned (.bool true) ∧ ∃ q, w' = w.drewN q := by
  go_enter Yaod.func20, Yaod.ntmps20
  go_wp2
  refine wp_loop_rounds 1 ?_
  rw [rounds_succ]
  go_wp2
  go_ret
  exact ⟨rfl, 0, rfl⟩

/-- A slice that reads as the log 'cs': a log's own, or a window over the whole of it. -/
def Reads (w : World) (v : Value) (cs : List ByteArray) : Prop :=
  (cs = [] ∧ ∃ p c, v = .slice p 0 c) ∨ ∃ g cap, v = .slice (some ⟨g, 0, none⟩) cs.length cap ∧
    (∀ i, i < cs.length → w.cell? ⟨g, i * 2, none⟩ = some (.int .u64 1)) ∧ (∀ i (hi : i < cs.length), w.cell? ⟨g, i * 2 + 1, none⟩ = some (.string cs[i]))
theorem LogIs.reads {w : World} {v : Value} {cs : List ByteArray} (h : LogIs w v cs) : Reads w v cs := by
  rcases h.form with ⟨h1, h2⟩ | ⟨g, cap, cur, h2, h3, h4, h5, h6⟩
  · exact Or.inl ⟨h1, _, _, h2⟩
  · exact Or.inr ⟨g, cap, h2, h5, h6⟩
theorem equal_reads (v1 v2 : Value) (cs : List ByteArray) (w : World) (h1 : Reads w v1 cs) (h2 : Reads w v2 cs) (hm : cs.length ≤ 8796093022208) :
    Calls Yaod.prog 20 #[v1, v2] w fun e w' => e = .returned (.bool true) ∧ ∃ q, w' = w.drewN q := by
  by_cases hz : cs = []
  · subst hz
    have z : ∀ v, Reads w v [] → ∃ p c, v = .slice p 0 c := by
      rintro v (⟨_, h⟩ | ⟨g, cap, h, _⟩)
      · exact h
      · exact ⟨_, _, h⟩
    obtain ⟨p1, c1, rfl⟩ := z v1 h1
    obtain ⟨p2, c2, rfl⟩ := z v2 h2
    exact equal_zero p1 p2 c1 c2 w
  · rcases h1 with ⟨h, _⟩ | ⟨g1, c1, rfl, a0, a1⟩
    · exact absurd h hz
    · rcases h2 with ⟨h, _⟩ | ⟨g2, c2, rfl, b0, b1⟩
      · exact absurd h hz
      · exact equal_rows g1 g2 c1 c2 cs.length (fun i => cs.getD i ByteArray.empty) w a0 (fun i hi => by rw [a1 i hi]; simp [List.getD, hi]) b0 (fun i hi => by rw [b1 i hi]; simp [List.getD, hi]) hm
end Go.Proofs.YgdaogDoor
