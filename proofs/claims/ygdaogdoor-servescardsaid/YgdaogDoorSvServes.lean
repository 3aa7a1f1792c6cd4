/-
  laws.Serves: THE ROW AND THE CARD.
-/
import Derived.Test.YgdaogDoorSvB
import Derived.Test.YgdaogDoorTie
import Derived.Test.YgdaogDoorCards
import Derived.ProofKit
import Derived.LaidMore
import Derived.OpenShut
import Derived.SizedLaws
import Derived.SliceStrings
import Derived.Stop.Joined
import Derived.SevenTiedAt
namespace Go.Proofs.YgdaogDoor
open Go.ChangeShapes Go.WideShapes Go.ChangeAt Go.RowKit

set_option maxRecDepth 100000 in
set_option maxHeartbeats 2000000 in
theorem serves7 (size who base0 : Int) (a0 : Option Addr) (m cap : Nat) (ss : List ByteArray) (w : World) (hsz0 : 0 ≤ size) (hsz : size ≤ 255) (hw0 : 0 ≤ who) (hw1 : who ≤ 255) (hb0 : 0 ≤ base0) (hb1 : base0 ≤ 18446744073709551615)
    (hm : m ≤ 8796093022000) (hssl : m = ss.length) (hss : m = 0 ∨ ∃ cb off, a0 = some ⟨cb, off, none⟩ ∧ cb < w.heap.size ∧ ∀ i (hi : i < ss.length), w.cell? ⟨cb, off + i, none⟩ = some (.string ss[i])) :
    Calls Yaod.prog 7 #[.int .u8 size, .int .u8 who, .int .u64 base0, .slice a0 m cap] w fun e w' => e = .returned (.bool true) ∧ Chg [] w w' := by
  have cS : Calls Yaod.prog 12 #[.int .u8 size, .int .u8 who, .int .u64 base0, .slice a0 m cap, .pointer (some ⟨w.heap.size, 0, none⟩)]
      (w.alloc (.cells #[.int .i64 0, .int .i64 0, .int .i64 0, .int .i64 0, .int .i64 0, .int .i64 0, .int .i64 0, .int .i64 0] 27)) fun e w' =>
      e = .returned (.bool true) ∧ Chg [w.heap.size] (w.alloc (.cells #[.int .i64 0, .int .i64 0, .int .i64 0, .int .i64 0, .int .i64 0, .int .i64 0, .int .i64 0, .int .i64 0] 27)) w' := by
    have hk : 1 + size % 5 = ((1 + size % 5).toNat : Int) := by omega
    refine serves_any w.heap.size (1 + size % 5).toNat (who % ((1 + size % 5).toNat : Int)).toNat size who base0 (base0 / 4) a0 m cap ss _ hsz0 hsz hw0 hw1 hb0 hb1 hk ?_ rfl hm hssl ?_ ⟨_, heap_alloc_at _ _, rfl, ?_⟩
    · have := Int.emod_nonneg who (show ((1 + size % 5).toNat : Int) ≠ 0 by omega)
      omega
    · rcases hss with h | ⟨cb, off, h1, h2, h3⟩
      · exact Or.inl h
      · exact Or.inr ⟨cb, off, h1, by simp; omega, fun i hi => (((Chg.refl [] w).alloc _).cell (p := ⟨cb, off + i, none⟩) h2 (by simp)).trans (h3 i hi)⟩
    · intro i hi
      match i, hi with
      | 0, _ => exact ⟨0, rfl⟩
      | 1, _ => exact ⟨0, rfl⟩
      | 2, _ => exact ⟨0, rfl⟩
      | 3, _ => exact ⟨0, rfl⟩
      | 4, _ => exact ⟨0, rfl⟩
      | 5, _ => exact ⟨0, rfl⟩
      | 6, _ => exact ⟨0, rfl⟩
      | 7, _ => exact ⟨0, rfl⟩
  clear hssl hss hm
  go_enter Yaod.func7, Yaod.ntmps7
  go_wp2_with fail
  refine cS.mono ?_
  rintro e w1 ⟨rfl, hC⟩
  go_wp2
  go_ret
  exact ⟨rfl, (((Chg.refl _ _).alloc _).trans hC).fresh (fun x hx => Or.inr (by simp at hx; omega))⟩

theorem Yaod.own : ownKnob Yaod.prog.godebug = none := by kernel_rfl
theorem Yaod.laidOut : laidOutB Yaod.prog = true := by kernel_rfl
theorem Yaod.cells9 : Yaod.prog.cellsOf 9 = 1 := by kernel_rfl
theorem Yaod.bytes9 : Yaod.prog.bytesOf 9 = 16 := by kernel_rfl

theorem door_met (os : Os) (args : Array Value) : laidMetH Yaod.prog Rows.servesRow.laid ((World.doorLaid Yaod.prog 400 os).forCall (fun _ _ => 0) ⟨#[], args, []⟩).memory :=
  laidMetH_of_parts3 (fuel := 8) (laidMet_of_run' 8 (by kernel_rfl) (by kernel_rfl)) (by kernel_rfl) (by kernel_rfl)

set_option maxRecDepth 100000 in
theorem serves_lifted (os : Os) (started : os.Started) (H : Type) (enc : TypeId × Value → H) :
    ReturnsInHanded {} Yaod.checked os 7 .any (fun w args => (Rows.servesSpec.pre enc Yaod.prog Yaod.f7 [] false w args ∧ laidMetH Yaod.prog Rows.servesRow.laid w) ∧ sizedMet enc Yaod.prog Yaod.f7 (OpenSpec.ofChange Rows.servesSpec) false w args)
      (Rows.servesSpec.post enc Yaod.prog Yaod.f7 false true false false) := by
  refine returnsInHanded_of_change_and (C := Yaod.checked) (X := fun w _ => laidMetH Yaod.prog Rows.servesRow.laid w) (fun _ _ _ hh h => h.of_heap hh) Yaod.own started (by kernel_rfl) Yaod.func7
    (ChangeSpec.witness_shaped (enc := enc) (C := Yaod.checked) (os := os) (X := fun w _ => laidMetH Yaod.prog Rows.servesRow.laid w) false (World.doorLaid Yaod.prog 400 os) #[.int .u8 0, .int .u8 0, .int .u64 0, .slice none 0 0] 8 rfl (World.shaped_of_RefB (by kernel_rfl) (by kernel_rfl)) (by kernel_rfl) (by kernel_rfl) (by kernel_rfl) (door_met os _)) ?_
  intro W base args ds gs before hval0 hW _ hsz0 _ _
  have hsz : (DataW.weightsEach Yaod.prog (Yaod.f7.params.toList ++ Rows.servesSpec.plain.varTypes Yaod.prog) (ds ++ gs)).all (· ≤ reachBytes) = true := hsz0
  clear hsz0
  have hval : ∀ (j : Nat) t v, Yaod.f7.params[j]? = some t → args[j]? = some v → Value.okWide Yaod.prog W .any base t v := hval0
  have hW' := hW
  obtain ⟨p, q, hA0, hV, rfl, _, _⟩ := hW
  have hA : DataW.TrodAll enc Yaod.prog W 0 (fun _ => true) true Yaod.f7.params.toList args.toList ds p := hA0
  rw [Yaod.params7] at hA hval hsz
  obtain ⟨v0, v1, v2, v3, d0, d1, d2, d3, p0, p1, p2, p3, rfl, rfl, rfl, h0, h1, h2, h3⟩ := trodAll_four hA
  obtain ⟨rfl, rfl⟩ := trodVars_none hV
  obtain ⟨size, rfl, rfl, rfl, hwf0⟩ := open_int Yaod.underlying5 (hval 0 5 v0 rfl rfl) h0
  obtain ⟨who, rfl, rfl, rfl, hwf1⟩ := open_int Yaod.underlying5 (hval 1 5 v1 rfl rfl) h1
  obtain ⟨bs, rfl, rfl, rfl, hwf2⟩ := open_int Yaod.underlying22 (hval 2 22 v2 rfl rfl) h2
  obtain ⟨a0, len, cap, rfl⟩ := okWide_slice Yaod.underlying38 (hval 3 38 v3 rfl rfl)
  have h3k := h3
  obtain ⟨fuel, hf⟩ := h3
  clear hA0 hval0
  simp only [List.append_nil, List.nil_append] at hW'
  have hlt : ∀ x ∈ p3, x.block < W.heap.size := fun x hx => by simpa using hW'.lt x (by simpa using hx)
  have w8 : ∀ n : Int, (Lit.int .u8 n).wf = true → 0 ≤ n ∧ n ≤ 255 := fun n h => by
    have g1 : IntKind.u8.min = 0 := rfl
    have g2 : IntKind.u8.max = 255 := rfl
    simp only [Lit.wf, Bool.and_eq_true, decide_eq_true_eq] at h
    omega
  have w64 : ∀ n : Int, (Lit.int .u64 n).wf = true → 0 ≤ n ∧ n ≤ 18446744073709551615 := fun n h => by
    have g1 : IntKind.u64.min = 0 := rfl
    have g2 : IntKind.u64.max = 18446744073709551615 := rfl
    simp only [Lit.wf, Bool.and_eq_true, decide_eq_true_eq] at h
    omega
  have fin : ∀ W' : World, Below W.heap.size W W' →
      Rows.servesSpec.post enc Yaod.checked.prog Yaod.f7 false true false false W #[.int .u8 size, .int .u8 who, .int .u64 bs, .slice a0 len cap] (.bool true) W' := by
    intro W' hnx
    have e1 : Rows.servesSpec.fn H ([.lit (.int .u8 size), .lit (.int .u8 who), .lit (.int .u64 bs), d3] ++ []) = { results := [.lit (.bool true)], args := [.lit (.int .u8 size), .lit (.int .u8 who), .lit (.int .u64 bs), d3] } := rfl
    refine ⟨_, _, _, [] ++ [], p3, [], hW', ?_, ?_, by rw [e1]; rfl, hnx.frame _, fun h => by cases h⟩
    · rw [e1]; exact trodAll_mk1 (shut_bool Yaod.underlying4 true)
    · rw [e1]; exact trodAll_mk4 (shut_int Yaod.underlying5 hwf0) (shut_int Yaod.underlying5 hwf1) (shut_int Yaod.underlying22 hwf2) (Below.trod Yaod.laidOut (by kernel_rfl) (of_decide_eq_true (by kernel_rfl)) h3k hnx hlt)
  have run : ∀ sl : List ByteArray, len ≤ 8796093022000 → len = sl.length → (len = 0 ∨ ∃ cb off, a0 = some ⟨cb, off, none⟩ ∧ cb < W.heap.size ∧ ∀ i (hi : i < sl.length), W.cell? ⟨cb, off + i, none⟩ = some (.string sl[i])) →
      Calls Yaod.checked.prog 7 #[.int .u8 size, .int .u8 who, .int .u64 bs, .slice a0 len cap] W fun e W' => ∃ v, e = Ending.returned v ∧ Rows.servesSpec.post enc Yaod.checked.prog Yaod.f7 false true false false W #[.int .u8 size, .int .u8 who, .int .u64 bs, .slice a0 len cap] v W' := by
    intro sl hl he hs
    refine (serves7 size who bs a0 len cap sl W (w8 _ hwf0).1 (w8 _ hwf0).2 (w8 _ hwf1).1 (w8 _ hwf1).2 (w64 _ hwf2).1 (w64 _ hwf2).2 hl he hs).mono ?_
    rintro e W' ⟨rfl, hC⟩
    exact ⟨_, rfl, fin W' (hC.below (Nat.le_refl _) (by simp))⟩
  rcases open_strings Yaod.underlying38 Yaod.underlying9 Yaod.cells9 hf with ⟨hcs, hx⟩ | ⟨a, len', cap', ss, hcs, _, hl, hm, hz, hx, hcell, hws⟩
  · simp [Value.cells] at hcs
    obtain ⟨rfl, rfl, rfl⟩ := hcs
    exact run [] (by omega) rfl (Or.inl rfl)
  · simp [Value.cells] at hcs
    obtain ⟨rfl, rfl, rfl⟩ := hcs
    simp only [Prod.mk.injEq] at hx
    obtain ⟨rfl, rfl⟩ := hx
    simp only [if_true] at hz
    have hreach : len * 16 ≤ 140737488351232 := by
      have := sized_slice hsz (j := 3) (t := 38) (e := 9) rfl rfl Yaod.underlying38
      rw [Yaod.bytes9] at this
      simp only [strs, List.length_map, List.length_take, List.length_drop, reachBytes] at this
      omega
    have htl : len = (ss.take len).length := by rw [List.length_take]; omega
    refine run (ss.take len) (by omega) htl ?_
    by_cases hl0 : len = 0
    · exact Or.inl hl0
    · obtain ⟨b, off, spot⟩ := a
      have hspot : spot = none := by simpa [Addr.add] using World.cell?_spot (hcell 0 (by omega))
      subst hspot
      have hbW : b < W.heap.size := hlt (.cell b off) (MemPlace.mem_row.2 ⟨0, by omega, by simp⟩)
      refine Or.inr ⟨b, off, rfl, hbW, fun i hi => ?_⟩
      have hi2 : i < ss.length := by rw [← htl] at hi; omega
      have := hcell i hi2
      rw [add_plain] at this
      rw [this, List.getElem_take]
      simp [List.getD_eq_getElem?_getD, List.getElem?_eq_getElem hi2]

theorem serves_holds : Rows.ServesSaid :=
  OpenClaim.holds_of_wide 7 Yaod.f7 rfl rfl rfl rfl rfl rfl rfl ⟨rfl, rfl, rfl, rfl, rfl⟩ rfl rfl rfl rfl rfl (by kernel_rfl) Yaod.func7 (by kernel_rfl)
    (of_decide_eq_true (by kernel_rfl)) (by unfold Func.isWrapper; first | (rw [if_pos (by decide +kernel)]; kernel_rfl) | (rw [if_neg (by decide +kernel)]; exact ⟨rfl, rfl⟩))
    (fun os started H enc _ => serves_lifted os started H enc)

theorem serves_card : Rows.ServesCardSaid :=
  Claim7.holds_tied_plain_at .later [] [.sentinel, .sentinel] true (true, "2463b3ecccc27eaf43ac71ee65b82ea8f65c41a2db4bc416837e4004ce83eea4") true
    serves_holds (fun _ h => by cases h) (by kernel_rfl) (fun _ h => by cases h) serves_row_tie rfl ⟨rfl, rfl⟩ (by kernel_rfl) rfl
    (fun f fn hf hfn => by
      obtain rfl : f = 7 := Option.some.inj ((show Yaod.prog.funcNamed Rows.servesRow.func = some 7 by kernel_rfl).symm.trans hf) |>.symm
      obtain rfl : fn = Yaod.f7 := (Option.some.inj (Yaod.func7.symm.trans hfn)).symm
      exact ⟨by kernel_rfl, fun j t ht => by
        rw [Yaod.params7] at ht
        match j, ht with
        | 0, ht => obtain rfl : 5 = t := by simpa using ht
                   exact (show Yaod.prog.wantsStandIn 5 = false by kernel_rfl)
        | 1, ht => obtain rfl : 5 = t := by simpa using ht
                   exact (show Yaod.prog.wantsStandIn 5 = false by kernel_rfl)
        | 2, ht => obtain rfl : 22 = t := by simpa using ht
                   exact (show Yaod.prog.wantsStandIn 22 = false by kernel_rfl)
        | 3, ht => obtain rfl : 38 = t := by simpa using ht
                   exact (show Yaod.prog.wantsStandIn 38 = false by kernel_rfl)
        | _ + 4, ht => simp at ht⟩)
    (by kernel_rfl)
end Go.Proofs.YgdaogDoor
