/-
  A COMMAND IS SERVED: the book's append; what stands when a round begins and when it ends.
-/
import Derived.Test.YgdaogDoorSvP
import Derived.Deep.DeepAppendWide
namespace Go.Proofs.YgdaogDoor
open Go.RowKit

/-- 'book = append(book, rec)'. -/
theorem run_append_book {w : World} {r c : Nat} {cmd : ByteArray} {v : Value} {cs : List ByteArray} (ty : TypeId) (hL : LogIs w v cs) (hm : cs.length ≤ 8796093022000)
    (hr0 : w.cell? ⟨r, 0, none⟩ = some (.int .u64 1)) (hr1 : w.cell? ⟨r, 1, none⟩ = some (.string cmd)) :
    ∃ v' w', Sem.run Yaod.prog (Builtin.append_ #[45, 45] ty #[v, .slice (some ⟨r, 0, none⟩) 1 c]) w = .ok v' w' ∧ LogIs w' v' (cs ++ [cmd]) ∧ w.grownBy w' v.ownBlock ∧ (v'.ownBlock = v.ownBlock ∨ v'.ownBlock = some w.heap.size) := by
  obtain ⟨i, hi, hz, hsz, hby⟩ := info_parts info85
  have hf : flat (cs ++ [cmd]) = flat cs ++ [.int .u64 1, .string cmd] := by rw [flat_append]; rfl
  have hn1 : ∀ u ∈ ([.int .u64 1, .string cmd] : List Value), u.oneCell' = true := by intro u hu; simp at hu; rcases hu with rfl | rfl <;> rfl
  obtain ⟨v', w', hr, hown, hg, _⟩ := run_append_own_wide (P := Yaod.prog) w 0 45 ty 85 i _ 2 24 Yaod.underlying45 hi hz hsz hby rfl (by omega) v cs.length (flat cs) hL ⟨r, 0, none⟩ 1 c [.int .u64 1, .string cmd] rfl (rec_news hr0 hr1) hn1 (by unfold maxLen; omega) (by omega) (Nat.zero_le _)
  refine ⟨v', w', hr, ?_, hg, ?_⟩
  · have e : (cs ++ [cmd]).length = cs.length + 1 := by simp
    unfold LogIs
    rw [hf, e]; exact hown
  · rcases hL.2 with ⟨rfl, h0⟩ | ⟨g, cap, cur, rfl, hb, hh, hcap, hmx, hcs, htk⟩
    · have hrun := run_append_nil (P := Yaod.prog) w 45 ty 85 i _ Yaod.underlying45 hi hz ⟨r, 0, none⟩ 1 c [.int .u64 1, .string cmd] (by rw [hsz]; rfl) (rec_news hr0 hr1) (by omega) (by omega) (by rw [hby]; omega)
      rw [hr] at hrun
      injection hrun with h1 h2
      right; rw [h1]; rfl
    · by_cases hroom : cs.length + 1 ≤ cap
      · have hrun := run_append_room (P := Yaod.prog) w 45 ty 85 i Yaod.underlying45 hi g cs.length cap cur hh ⟨r, 0, none⟩ 1 c [.int .u64 1, .string cmd] (by rw [hsz]; rfl) (rec_news hr0 hr1) hn1 hroom (by rw [hsz, hcs]; simp; omega)
        rw [hr] at hrun
        injection hrun with h1 h2
        left; rw [h1]; rfl
      · have holds : ∀ j u, (flat cs)[j]? = some u → w.cell? ((⟨g, 0, none⟩ : Addr).add j) = some u := World.ownsRow.cells hL rfl
        have hcl : cap = cs.length := by omega
        subst hcl
        have hrun := run_append_grow (P := Yaod.prog) w 45 ty 85 i _ Yaod.underlying45 hi hz ⟨g, 0, none⟩ cs.length cs.length (flat cs) (by rw [hsz]; exact flat_length cs) holds
          ⟨r, 0, none⟩ 1 c [.int .u64 1, .string cmd] (by rw [hsz]; rfl) (rec_news hr0 hr1) (by omega) (by omega) (by rw [hby]; exact nextslicecap_fit _ (by omega))
        rw [hr] at hrun
        injection hrun with h1 h2
        right; rw [h1]; rfl

/-! ### Between two rounds -/
structure Served (w0 w : World) (B k wi LB hb : Nat) (base : Int) (bk : Value) (cs : List ByteArray) (nd : Nat → Nd) (f : Nat → Int × Int) : Prop where
  com : Com w0 w B k wi LB hb nd f base (base + cs.length) bk cs
  logs : ∀ i, i < k → LogIs w (nd i).recs cs
  comm : ∀ i, i < k → i ≠ wi → (nd i).commit ≤ base + cs.length
  lcom : (nd wi).commit = base + cs.length
  fm : ∀ i, i < k → i ≠ wi → (f i).1 = mx base cs
  bkf : ∀ g, bk.ownBlock = some g → B + 6 + k < g

theorem mx_more (base : Int) (cs : List ByteArray) (c : ByteArray) : mx base (cs ++ [c]) = base + cs.length + 1 := by
  cases cs with
  | nil => simp [mx]
  | cons a r => simp [mx]; omega
theorem wantOf_all (k wi : Nat) (pv : Int) (h : wi < k) : wantOf k wi k pv = pv + 1 := by
  unfold wantOf; rw [votesTo_all wi k h, if_pos (by omega)]
theorem Mid.done {w0 w : World} {B k wi LB hb RB : Nat} {base pv : Int} {bk : Value} {cs : List ByteArray} {c : ByteArray} {nd : Nat → Nd} {f : Nat → Int × Int}
    (h : Mid w0 w B k wi LB hb RB base pv bk cs c k nd f) (hwi : wi < k) (hpv : pv = base + cs.length) (hbk : ∀ g, bk.ownBlock = some g → B + 6 + k < g) : Served w0 w B k wi LB hb base bk (cs ++ [c]) nd f := by
  have e : base + ((cs ++ [c]).length : Int) = pv + 1 := by simp; omega
  refine ⟨by rw [e]; exact h.com, fun i hi => ?_, fun i hi hw => ?_, ?_, fun i hi hw => ?_, hbk⟩
  · have := h.logs i hi; rw [if_pos (Or.inr hi)] at this; exact this
  · have := h.comm i hi hw; rw [if_pos hi] at this; omega
  · rw [h.lcom, wantOf_all k wi pv hwi]; omega
  · have := h.fm i hi hw; rw [if_pos hi] at this; rw [this, mx_more]; omega
theorem LogIs.lt {w : World} {v : Value} {cs : List ByteArray} (h : LogIs w v cs) {g : Nat} (hg : v.ownBlock = some g) : g < w.heap.size := by
  rcases h.2 with ⟨e, _⟩ | ⟨g', cap, cur, e, _, hh, _⟩
  · rw [e] at hg; cases hg
  · rw [e] at hg; simp [Value.ownBlock] at hg; subst hg; exact lt_of_heap hh
theorem HitAt.move {w w' : World} {hb : Nat} {S : List Nat} (h : HitAt w hb) (hC : Chg S w w') (hs : hb ∉ S) : HitAt w' hb := by
  obtain ⟨tc, t1, t2⟩ := h
  exact ⟨tc, hC.at t1 hs, t2⟩
theorem Mid.start {w0 w w' : World} {B k wi LB hb RB : Nat} {base pv : Int} {bk bk' v' : Value} {cs : List ByteArray} {c : ByteArray} {nd : Nat → Nd} {f : Nat → Int × Int}
    (h : Served w0 w B k wi LB hb base bk cs nd f) (hwi : wi < k) (hpv : pv = base + cs.length) (hC : Chg ([B + 6 + wi, LB] ++ bk.ownBlock.toList) w w')
    (hLB : w'.heap[LB]? = some (.cells #[.int .u64 (pv + 1)] 22 (0, 0))) (hN : NodeAt w' (B + 6 + wi) { nd wi with recs := v', commit := wantOf k wi 0 pv }) (hL : LogIs w' v' (cs ++ [c])) (hv : ∃ g, v'.ownBlock = some g ∧ w.heap.size ≤ g)
    (hbk : LogIs w' bk' (cs ++ [c])) (hap : v'.ownBlock ≠ bk'.ownBlock) (hbb : bk'.ownBlock = bk.ownBlock ∨ ∃ g, bk'.ownBlock = some g ∧ w.heap.size ≤ g)
    (hrb : w'.heap[RB]? = some (.cells #[.int .u64 1, .string c] 85 (0, 0))) :
    Mid w0 w' B k wi LB hb RB base pv bk' cs c 0 (fun i => if i = wi then { nd wi with recs := v', commit := wantOf k wi 0 pv } else nd i) f ∧ (∀ g, bk'.ownBlock = some g → B + 6 + k < g) := by
  have hcom := h.com
  have hlbg := hcom.lbg
  have hhit := hcom.hitb
  have hwB := hcom.wB
  have hsz := lt_of_heap hcom.st.lv
  have hS : ∀ x, x ∈ [B + 6 + wi, LB] ++ bk.ownBlock.toList → x = B + 6 + wi ∨ x = LB ∨ bk.ownBlock = some x := fun x hx => by
    simp only [List.mem_append, List.mem_cons, List.not_mem_nil, or_false, Option.mem_toList] at hx
    rcases hx with (h1 | h1) | h1
    · exact Or.inl h1
    · exact Or.inr (Or.inl h1)
    · exact Or.inr (Or.inr h1)
  have hS2 : ∀ x, x ∈ [B + 6 + wi, LB] ++ bk.ownBlock.toList → x = B + 6 + wi ∨ B + 6 + k < x := fun x hx => by
    rcases hS x hx with h1 | h1 | h1
    · exact Or.inl h1
    · exact Or.inr (by omega)
    · exact Or.inr (h.bkf x h1)
  have hnr : ∀ i, i < k → ∀ g cur, (nd i).recs.ownBlock = some g → w.heap[g]? = some (.cells cur 85 (0, 0)) → g ∉ [B + 6 + wi, LB] ++ bk.ownBlock.toList := fun i hi g cur hg hx hm => by
    rcases hS g hm with h1 | h1 | h1
    · subst h1; exact (hcom.nodes wi hwi).noRow cur hx
    · subst h1; rw [hcom.lb] at hx; injection hx with hx; injection hx with h2 h3; exact absurd h3 (by decide)
    · exact hcom.apart i hi g hg h1
  refine ⟨⟨⟨hcom.st.chg hC ?_, hcom.pm.chg hC ?_, ?_, ?_, hLB, hlbg, hbk, ?_, HitAt.move hcom.hit hC ?_, hhit, hwB, ?_⟩, ?_, ?_, ?_, ?_, hrb⟩, ?_⟩
  · intro x hx; have := hS2 x hx; omega
  · intro hx; have := hS2 _ hx; omega
  · intro i hi
    by_cases h1 : i = wi
    · subst h1; rw [if_pos rfl]; exact hN
    · rw [if_neg h1]; exact (hcom.nodes i hi).chg hC (fun hx => by have := hS2 _ hx; omega)
  · intro i hi
    have h0 := hcom.ok i hi
    by_cases h1 : i = wi
    · subst h1; rw [if_pos rfl]; exact ⟨h0.id, h0.size, h0.snap, h0.term, h0.applied, h0.role⟩
    · rw [if_neg h1]; exact h0
  · intro i hi g hg
    by_cases h1 : i = wi
    · subst h1; rw [if_pos rfl] at hg
      have hg' : v'.ownBlock = some g := hg
      rw [← hg']; exact Ne.symm hap
    · rw [if_neg h1] at hg
      rcases hbb with e | ⟨g', e, hge⟩
      · rw [e]; exact hcom.apart i hi g hg
      · intro e2
        have := (h.logs i hi).lt hg
        rw [e] at e2; injection e2 with e2; omega
  · intro hx; have := hS2 _ hx; omega
  · refine ((hcom.chg.mono (S' := hb :: ([B + 6 + wi, LB] ++ bk.ownBlock.toList)) (by simp)).trans (hC.mono (fun x hx => List.mem_cons_of_mem _ hx))).fresh ?_
    intro x hx
    rcases List.mem_cons.1 hx with h1 | h1
    · exact Or.inl (by rw [h1]; simp)
    · have := hS2 x h1; exact Or.inr (by omega)
  · intro i hi
    by_cases h1 : i = wi
    · subst h1; rw [if_pos rfl, if_pos (Or.inl rfl)]; exact hL
    · rw [if_neg h1, if_neg (by omega)]; exact (h.logs i hi).chg hC (hnr i hi)
  · intro i hi hw
    rw [if_neg hw, if_neg (by omega)]; have := h.comm i hi hw; omega
  · rw [if_pos rfl]
  · intro i hi hw
    rw [if_neg (by omega)]; exact h.fm i hi hw
  · intro g hg
    rcases hbb with e | ⟨g', e, hge⟩
    · rw [e] at hg; exact h.bkf g hg
    · rw [e] at hg; injection hg with hg; omega
end Go.Proofs.YgdaogDoor
