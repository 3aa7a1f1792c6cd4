/-
  THE WALK OF leader.Update at a success.
-/
import Derived.Test.YgdaogDoorSvD
namespace Go.Proofs.YgdaogDoor
open Go.RowKit
set_option maxRecDepth 100000 in
set_option maxHeartbeats 1000000 in
/-- A success booked: Match = prev + 1, Next = prev + 2. -/
theorem update_ok (pm : Nat) (l : PairL) (id : ByteArray) (lp : Value) (m0 n0 prev : Int) (w : World) (hM : MapIs w pm l) (hg : getL l id = some (.agg #[.int .u64 m0, .int .u64 n0]))
    (hp0 : 0 ≤ prev) (hp : prev ≤ 4611700000000000000) :
    Calls Yaod.prog 14 #[.map (some pm), .string id, lp, .int .u64 prev, .int .u64 1, .agg #[.int .u64 1, .bool true, .int .u64 0, .int .u64 0]] w fun e w' =>
      e = .returned (.bool true) ∧ MapIs w' pm (putL l id (.agg #[.int .u64 (prev + 1), .int .u64 (prev + 1 + 1)])) ∧ Chg [pm] w w' := by
  have hlm := hM.lt
  have hlook := fun q => run_lookup_l (P := Yaod.prog) (mty := 74) (kt := 9) (et := 87) (by kernel_rfl) (by kernel_rfl) ((hM.alloc (.cells #[.int .u64 1, .bool true, .int .u64 0, .int .u64 0] 71)).drewN q) id _ hg true
  have HM : Hid (MapIs w pm l) := hM
  clear hM hg
  have hlook0 := hlook 0
  simp only [World.drewN_zero, if_true] at hlook0
  clear hlook
  obtain ⟨o, hupd0, hM2⟩ := run_mapUpdate_l (P := Yaod.prog) (mty := 74) (kt := 9) (et := 87) (by kernel_rfl) (by kernel_rfl) ((HM.out.alloc (.cells #[.int .u64 1, .bool true, .int .u64 0, .int .u64 0] 71)).alloc (.cells #[.int .u64 (prev + 1), .int .u64 (prev + 1 + 1)] 87)) id (.agg #[.int .u64 (prev + 1), .int .u64 (prev + 1 + 1)])
  have hupd := hupd0 _ rfl
  have HM2 : Hid _ := hM2 _ rfl
  clear hupd0 hM2
  go_enter Yaod.func14, Yaod.ntmps14
  go_wp2
  go_ret
  exact ⟨rfl, HM2.out, (((Chg.refl _ _).alloc _).alloc _).setB (by simp) _⟩
end Go.Proofs.YgdaogDoor
