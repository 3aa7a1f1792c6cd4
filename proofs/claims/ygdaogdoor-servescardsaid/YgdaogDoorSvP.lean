/-
  WHAT STANDS IN MEMORY WHILE laws.serves SERVES COMMANDS; one follower more.
-/
import Derived.Test.YgdaogDoorSvI
namespace Go.Proofs.YgdaogDoor
open Go.RowKit

/-! ### The code's loops, by their number -/
def loopsIn : Code → List Code
  | .loop c => [c]
  | .seq a b => loopsIn a ++ loopsIn b
  | .block _ c => loopsIn c
  | .scope c => loopsIn c
  | .cond _ a b => loopsIn a ++ loopsIn b
  | _ => []
def loopOf (o : Option Code) (i : Nat) : Code := match o with
  | some c => (loopsIn c).getD i .skip
  | none => .skip

/-! ### What stands in memory while commands are served -/
structure FOk (n : Nd) (i k : Nat) (base ro : Int) : Prop where
  id : n.id = idb i
  size : n.size = k
  snap : n.snap = base
  term : n.term = 1
  applied : n.applied = base
  role : n.role = ro
def HitAt (w : World) (hb : Nat) : Prop := ∃ tc, w.heap[hb]? = some (.cells tc 27 (0, 0)) ∧ tc.size = 8 ∧ ∀ i, i < 8 → ∃ n, tc[i]? = some (.int .i64 n)
structure Com (w0 w : World) (B k wi LB hb : Nat) (nd : Nat → Nd) (f : Nat → Int × Int) (base L : Int) (bk : Value) (bcs : List ByteArray) : Prop where
  st : Stat w B k wi
  pm : MapIs w (B + 4) (peersL wi k f)
  nodes : ∀ i, i < k → NodeAt w (B + 6 + i) (nd i)
  ok : ∀ i, i < k → FOk (nd i) i k base (if i = wi then 2 else 0)
  lb : w.heap[LB]? = some (.cells #[.int .u64 L] 22 (0, 0))
  lbg : B + 6 + k < LB
  book : LogIs w bk bcs
  apart : ∀ i, i < k → ∀ g, (nd i).recs.ownBlock = some g → bk.ownBlock ≠ some g
  hit : HitAt w hb
  hitb : hb < B
  wB : w0.heap.size ≤ B
  chg : Chg [hb] w0 w
def mx (base : Int) : List ByteArray → Int
  | [] => 0
  | c :: r => base + ((c :: r).length : Int)
def wantOf (k wi j : Nat) (pv : Int) : Int := if k < 2 * votesTo wi j then pv + 1 else pv
structure Mid (w0 w : World) (B k wi LB hb RB : Nat) (base pv : Int) (bk : Value) (cs : List ByteArray) (c : ByteArray) (j : Nat) (nd : Nat → Nd) (f : Nat → Int × Int) : Prop where
  com : Com w0 w B k wi LB hb nd f base (pv + 1) bk (cs ++ [c])
  logs : ∀ i, i < k → LogIs w (nd i).recs (if i = wi ∨ i < j then cs ++ [c] else cs)
  comm : ∀ i, i < k → i ≠ wi → (nd i).commit ≤ if i < j then pv + 1 else pv
  lcom : (nd wi).commit = wantOf k wi j pv
  fm : ∀ i, i < k → i ≠ wi → (f i).1 = if i < j then pv + 1 else mx base cs
  rbx : w.heap[RB]? = some (.cells #[.int .u64 1, .string c] 85 (0, 0))

theorem mx_le (base : Int) (cs : List ByteArray) (h : 0 ≤ base) : mx base cs ≤ base + cs.length := by
  cases cs with
  | nil => simp [mx]; exact h
  | cons c r => exact Int.le_refl _
theorem wantOf_ge (k wi j : Nat) (pv : Int) : pv ≤ wantOf k wi j pv ∧ wantOf k wi j pv ≤ pv + 1 := by unfold wantOf; split <;> omega
/-- How many of the books hold the last index. -/
theorem count_ms (wi k j : Nat) (L x : Int) (f : Nat → Int × Int) (hx : x ≠ L) (hj : j ≤ k) (hf : ∀ i, i < k → i ≠ wi → (f i).1 = if i < j then L else x) : (msTo wi k L f).count L = votesTo wi j := by
  have key : ∀ m, m ≤ k → ((othersTo wi m).map fun i => (f i).1).count L = (othersTo wi (min m j)).length := by
    intro m
    induction m with
    | zero => intro _; simp [othersTo]
    | succ m ih =>
      intro hm
      rw [others_succ]
      by_cases h : m = wi
      · rw [if_pos h, ih (by omega)]
        by_cases h2 : m < j
        · rw [show min (m + 1) j = m + 1 from by omega, show min m j = m from by omega, others_succ, if_pos h]
        · rw [show min (m + 1) j = j from by omega, show min m j = j from by omega]
      · rw [if_neg h, List.map_append, List.count_append, ih (by omega)]
        have hfm := hf m (by omega) h
        by_cases h2 : m < j
        · rw [if_pos h2] at hfm
          rw [show min (m + 1) j = m + 1 from by omega, show min m j = m from by omega, others_succ, if_neg h]
          simp [hfm]
        · rw [if_neg h2] at hfm
          rw [show min (m + 1) j = j from by omega, show min m j = j from by omega]
          simp [hfm, hx]
  unfold msTo votesTo
  rw [List.count_cons_self, key k (Nat.le_refl _), show min k j = j from by omega]
  omega
theorem Com.noRow {w0 w : World} {B k wi LB hb : Nat} {nd : Nat → Nd} {f : Nat → Int × Int} {base L : Int} {bk : Value} {bcs : List ByteArray} (h : Com w0 w B k wi LB hb nd f base L bk bcs) {j : Nat} (hj : j < k) (hwi : wi < k) :
    ∀ g cur, w.heap[g]? = some (.cells cur 85 (0, 0)) → g ∉ [B + 6 + j, B + 6 + wi, B + 4, hb] := fun g cur hg hm => by
  simp only [List.mem_cons, List.not_mem_nil, or_false] at hm
  rcases hm with rfl | rfl | rfl | rfl
  · exact (h.nodes j hj).noRow cur hg
  · exact (h.nodes wi hwi).noRow cur hg
  · exact h.pm.noRow cur hg
  · obtain ⟨tc, h1, _⟩ := h.hit
    rw [h1] at hg; injection hg with hg; injection hg with h2 h3; exact absurd h3 (by decide)

/-- One follower more has taken the command. -/
theorem Mid.next {w0 w w' : World} {B k wi LB hb RB : Nat} {base pv : Int} {bk : Value} {cs : List ByteArray} {c : ByteArray} {j : Nat} {nd : Nat → Nd} {f : Nat → Int × Int}
    (h : Mid w0 w B k wi LB hb RB base pv bk cs c j nd f) (hj : j < k) (hjw : j ≠ wi) (hwi : wi < k) (hk5 : k ≤ 5) (hC : Chg [B + 6 + j, B + 6 + wi, B + 4, hb] w w') (v' : Value)
    (hNj : NodeAt w' (B + 6 + j) { nd j with role := 0, commit := wantOf k wi j pv, recs := v' }) (hLj : LogIs w' v' (cs ++ [c])) (hv : ∃ g, v'.ownBlock = some g ∧ w.heap.size ≤ g)
    (hNw : NodeAt w' (B + 6 + wi) { nd wi with commit := wantOf k wi (j + 1) pv }) (hP : MapIs w' (B + 4) (putL (peersL wi k f) (idb j) (progV (pv + 1, pv + 1 + 1)))) (hH : HitAt w' hb) :
    Mid w0 w' B k wi LB hb RB base pv bk cs c (j + 1) (fun i => if i = j then { nd j with role := 0, commit := wantOf k wi j pv, recs := v' } else if i = wi then { nd wi with commit := wantOf k wi (j + 1) pv } else nd i)
      (fun i => if i = j then (pv + 1, pv + 1 + 1) else f i) := by
  have hcom := h.com
  have hlbg := hcom.lbg
  have hhit := hcom.hitb
  have nr := hcom.noRow hj hwi
  have hbkl : ∀ g, bk.ownBlock = some g → g < w.heap.size := fun g hg => by
    rcases hcom.book.2 with ⟨e, _⟩ | ⟨g', cap, cur, e, _, hh, _⟩
    · rw [e] at hg; cases hg
    · rw [e] at hg; simp [Value.ownBlock] at hg; subst hg; exact lt_of_heap hh
  refine ⟨⟨hcom.st.chg hC ?_, ?_, ?_, ?_, hC.at hcom.lb ?_, hlbg, hcom.book.chg hC (fun g cur _ hx => nr g cur hx), ?_, hH, hhit, hcom.wB, ?_⟩, ?_, ?_, ?_, ?_, ?_⟩
  · intro x hx; simp only [List.mem_cons, List.not_mem_nil, or_false] at hx; omega
  · rw [putL_peers wi k f j _ hj hjw hk5] at hP; exact hP
  · intro i hi
    by_cases h1 : i = j
    · subst h1; rw [if_pos rfl]; exact hNj
    · by_cases h2 : i = wi
      · subst h2; rw [if_neg h1, if_pos rfl]; exact hNw
      · rw [if_neg h1, if_neg h2]; exact (hcom.nodes i hi).chg hC (by simp only [List.mem_cons, List.not_mem_nil, or_false]; omega)
  · intro i hi
    have h0 := hcom.ok i hi
    by_cases h1 : i = j
    · subst h1; rw [if_pos rfl, if_neg hjw]; exact ⟨h0.id, h0.size, h0.snap, h0.term, h0.applied, rfl⟩
    · by_cases h2 : i = wi
      · subst h2; rw [if_neg h1, if_pos rfl]; exact ⟨h0.id, h0.size, h0.snap, h0.term, h0.applied, h0.role⟩
      · rw [if_neg h1, if_neg h2]; exact h0
  · simp only [List.mem_cons, List.not_mem_nil, or_false]; omega
  · intro i hi g hg
    by_cases h1 : i = j
    · subst h1; rw [if_pos rfl] at hg
      obtain ⟨g', hg', hge⟩ := hv
      intro e
      have := hbkl g e
      have e2 : some g = some g' := hg.symm.trans hg'
      injection e2 with e2
      omega
    · by_cases h2 : i = wi
      · subst h2; rw [if_neg h1, if_pos rfl] at hg; exact hcom.apart i hi g hg
      · rw [if_neg h1, if_neg h2] at hg; exact hcom.apart i hi g hg
  · refine ((hcom.chg.mono (S' := [hb, B + 6 + j, B + 6 + wi, B + 4]) (by simp)).trans (hC.mono (by intro x hx; simp only [List.mem_cons, List.not_mem_nil, or_false] at hx ⊢; omega))).fresh ?_
    intro x hx
    have := hcom.wB
    simp only [List.mem_cons, List.not_mem_nil, or_false] at hx ⊢
    omega
  · intro i hi
    by_cases h1 : i = j
    · subst h1; rw [if_pos rfl, if_pos (Or.inr (by omega))]; exact hLj
    · have h0 := h.logs i hi
      have e : (i = wi ∨ i < j + 1) ↔ (i = wi ∨ i < j) := by omega
      by_cases h2 : i = wi
      · subst h2; rw [if_neg h1, if_pos rfl, if_pos (Or.inl rfl)]; rw [if_pos (Or.inl rfl)] at h0; exact h0.chg hC (fun g cur _ hx => nr g cur hx)
      · rw [if_neg h1, if_neg h2]; simp only [e]; exact h0.chg hC (fun g cur _ hx => nr g cur hx)
  · intro i hi hiw
    by_cases h1 : i = j
    · subst h1; rw [if_pos rfl, if_pos (by omega)]; exact (wantOf_ge k wi i pv).2
    · rw [if_neg h1, if_neg hiw]
      have h0 := h.comm i hi hiw
      by_cases h2 : i < j
      · rw [if_pos h2] at h0; rw [if_pos (by omega)]; exact h0
      · rw [if_neg h2] at h0; rw [if_neg (by omega)]; exact h0
  · rw [if_neg (Ne.symm hjw), if_pos rfl]
  · intro i hi hiw
    by_cases h1 : i = j
    · subst h1; rw [if_pos rfl, if_pos (by omega)]
    · have h0 := h.fm i hi hiw
      simp only [if_neg h1]
      rw [h0]
      by_cases h2 : i < j
      · rw [if_pos h2, if_pos (by omega)]
      · rw [if_neg h2, if_neg (by omega)]
  · exact hC.at h.rbx (nr RB _ h.rbx)
end Go.Proofs.YgdaogDoor
