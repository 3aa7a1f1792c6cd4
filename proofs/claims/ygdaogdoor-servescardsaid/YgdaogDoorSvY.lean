/-
  THE HEARTBEAT: each node has committed and applies all that was served.
-/
import Derived.Test.YgdaogDoorSvR
import Derived.Test.YgdaogDoorSvQ
import Derived.Test.YgdaogDoorSvK
import Derived.Test.YgdaogDoorSvE
namespace Go.Proofs.YgdaogDoor
open Go.RowKit

/-- 'TakeCommitted' when all of the log is committed and none of it applied. -/
theorem take_any (b : Nat) (n : Nd) (cs : List ByteArray) (w : World) (hn : NodeAt w b n) (hL : LogIs w n.recs cs)
    (hs0 : 0 ≤ n.snap) (hs : n.snap ≤ 4611686018427387903) (hm : cs.length ≤ 8796093022208) (hc : n.commit = n.snap + cs.length) (ha : n.applied = n.snap) :
    Calls Yaod.prog 19 #[.pointer (some ⟨b, 0, none⟩)] w fun e w' => ∃ v, e = .returned v ∧ Reads w' v cs ∧ Chg [b] w w' ∧ NodeAt w' b { n with applied := n.snap + cs.length } := by
  by_cases hz : cs = []
  · subst hz
    refine (take_none b n [] w hn hL hs0 hs hm hc (by simpa using ha)).mono ?_
    rintro e w' ⟨rfl, q, rfl⟩
    refine ⟨_, rfl, Or.inl ⟨rfl, _, _, rfl⟩, (Chg.refl _ _).drewN q, ?_⟩
    have e1 : ({ n with applied := n.snap + (([] : List ByteArray).length : Int) } : Nd) = n := by
      have : n.snap + (([] : List ByteArray).length : Int) = n.applied := by simp [ha]
      rw [this]
    rw [e1]
    exact hn.drewN q
  · have hpos : 0 < cs.length := List.length_pos_iff.2 hz
    rcases hL.form with ⟨h1, _⟩ | ⟨g, cap, cur, h2, h3, h4, h5, h6⟩
    · exact absurd h1 hz
    · refine (take_all b g cap n cs w hn hL h2 h4 hs0 hs hm hpos hc ha).mono ?_
      rintro e w' ⟨rfl, hC, hN⟩
      refine ⟨_, rfl, ?_, hC, hN⟩
      have hL' : LogIs w' n.recs cs := hL.chg hC (fun x cur _ hx hm => by simp at hm; subst hm; exact hn.noRow cur hx)
      rcases hL'.form with ⟨h1, _⟩ | ⟨g', cap', cur', k2, k3, k4, k5, k6⟩
      · exact absurd h1 hz
      · rw [h2] at k2
        simp at k2
        obtain ⟨rfl, rfl⟩ := k2
        exact Or.inr ⟨g, cs.length, rfl, k5, k6⟩

/-! ### What stands while the nodes are asked, the first j of them asked -/
structure BOk (n : Nd) (i k : Nat) (base ro ap : Int) : Prop where
  id : n.id = idb i
  size : n.size = k
  snap : n.snap = base
  term : n.term = 1
  applied : n.applied = ap
  role : n.role = ro
structure Beat (w0 w : World) (B k wi LB hb : Nat) (base : Int) (bk : Value) (cs : List ByteArray) (nd : Nat → Nd) (j : Nat) : Prop where
  st : Stat w B k wi
  nodes : ∀ i, i < k → NodeAt w (B + 6 + i) (nd i)
  ok : ∀ i, i < k → BOk (nd i) i k base (if i = wi then 2 else 0) (if i < j then base + cs.length else base)
  logs : ∀ i, i < k → LogIs w (nd i).recs cs
  lec : ∀ i, i < k → (nd i).commit ≤ base + cs.length
  com : ∀ i, i < k → (i < j ∨ i = wi) → (nd i).commit = base + cs.length
  lb : w.heap[LB]? = some (.cells #[.int .u64 (base + cs.length)] 22 (0, 0))
  lbg : B + 6 + k < LB
  book : LogIs w bk cs
  hit : HitAt w hb
  hitb : hb < B
  wB : w0.heap.size ≤ B
  chg : Chg [hb] w0 w
theorem Served.beat {w0 w : World} {B k wi LB hb : Nat} {base : Int} {bk : Value} {cs : List ByteArray} {nd : Nat → Nd} {f : Nat → Int × Int} (h : Served w0 w B k wi LB hb base bk cs nd f) (hwi : wi < k) :
    Beat w0 w B k wi LB hb base bk cs nd 0 := by
  refine ⟨h.com.st, h.com.nodes, fun i hi => ?_, h.logs, fun i hi => ?_, fun i hi hw => ?_, h.com.lb, h.com.lbg, h.com.book, h.com.hit, h.com.hitb, h.com.wB, h.com.chg⟩
  · have h0 := h.com.ok i hi
    rw [if_neg (show ¬ i < 0 by omega)]
    exact ⟨h0.id, h0.size, h0.snap, h0.term, h0.applied, h0.role⟩
  · by_cases e : i = wi
    · subst e; rw [h.lcom]; exact Int.le_refl _
    · exact h.comm i hi e
  · rcases hw with hw | hw
    · omega
    · subst hw; exact h.lcom
theorem Beat.next {w0 w w' : World} {B k wi LB hb : Nat} {base : Int} {bk : Value} {cs : List ByteArray} {nd : Nat → Nd} {j : Nat} (h : Beat w0 w B k wi LB hb base bk cs nd j) (hj : j < k) (hC : Chg [B + 6 + j] w w')
    (hN : NodeAt w' (B + 6 + j) { nd j with commit := base + cs.length, applied := base + cs.length }) :
    Beat w0 w' B k wi LB hb base bk cs (fun i => if i = j then { nd j with commit := base + cs.length, applied := base + cs.length } else nd i) (j + 1) := by
  have hl := h.lbg
  have hh := h.hitb
  have nr : ∀ g cur, w.heap[g]? = some (.cells cur 85 (0, 0)) → g ∉ [B + 6 + j] := fun g cur hx hm => by simp at hm; subst hm; exact (h.nodes j hj).noRow cur hx
  refine ⟨h.st.chg hC (fun x hx => by simp at hx; omega), fun i hi => ?_, fun i hi => ?_, fun i hi => ?_, fun i hi => ?_, fun i hi hw => ?_, hC.at h.lb (by simp; omega), hl, h.book.chg hC (fun g cur _ hx => nr g cur hx), h.hit.chg hC (by simp; omega), hh, h.wB, ?_⟩
  · by_cases e : i = j
    · subst e; rw [if_pos rfl]; exact hN
    · rw [if_neg e]; exact (h.nodes i hi).chg hC (by simp; omega)
  · have h0 := h.ok i hi
    by_cases e : i = j
    · subst e; rw [if_pos rfl, if_pos (show i < i + 1 by omega)]; exact ⟨h0.id, h0.size, h0.snap, h0.term, rfl, h0.role⟩
    · rw [if_neg e]
      have e2 : (i < j + 1) ↔ (i < j) := by omega
      simp only [e2]; exact h0
  · by_cases e : i = j
    · subst e; rw [if_pos rfl]; exact (h.logs i hi).chg hC (fun g cur _ hx => nr g cur hx)
    · rw [if_neg e]; exact (h.logs i hi).chg hC (fun g cur _ hx => nr g cur hx)
  · by_cases e : i = j
    · subst e; rw [if_pos rfl]; exact Int.le_refl _
    · rw [if_neg e]; exact h.lec i hi
  · by_cases e : i = j
    · subst e; rw [if_pos rfl]
    · rw [if_neg e]; exact h.com i hi (by omega)
  · refine ((h.chg.mono (S' := [hb, B + 6 + j]) (by simp)).trans (hC.mono (by simp))).fresh ?_
    intro x hx
    have := h.wB
    simp only [List.mem_cons, List.not_mem_nil, or_false] at hx ⊢
    omega
end Go.Proofs.YgdaogDoor
