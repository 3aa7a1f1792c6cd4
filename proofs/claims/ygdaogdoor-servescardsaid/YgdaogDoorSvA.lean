/-
  THE GROUND OF THE WALKS FOR laws.Serves: a node in memory, 'only these blocks have turned', a log's row.
-/
import Derived.Test.YgdaogDoorRows
import Derived.WalkKit
import Derived.WalkSpells
import Derived.WalkLawsBesides
import Derived.Deep.RegionHeld3
import Derived.Deep.QuietTactic
import Derived.BigQuiet
namespace Go.Proofs.YgdaogDoor
open Go.RowKit

/-- One node, field by field. -/
structure Nd where
  id : ByteArray
  size : Int
  term : Int
  voted : ByteArray
  role : Int
  votes : Value
  commit : Int
  applied : Int
  snap : Int
  recs : Value

/-- The eleven cells of a node (its snapshot's term is 0 throughout). -/
def Nd.cells (n : Nd) : Array Value :=
  #[.string n.id, .int .i64 n.size, .int .u64 n.term, .string n.voted, .int .u8 n.role, n.votes, .int .u64 n.commit, .int .u64 n.applied, .int .u64 n.snap, .int .u64 0, n.recs]

def NodeAt (w : World) (b : Nat) (n : Nd) : Prop := w.heap[b]? = some (.cells n.cells 51 (0, 0))

/-- Of the blocks that were there only those of S have turned. -/
structure Chg (S : List Nat) (w w' : World) : Prop where
  os : w'.os = w.os
  tape : w'.tape = w.tape
  output : w'.output = w.output
  size : w.heap.size ≤ w'.heap.size
  block : ∀ j, j < w.heap.size → j ∉ S → w'.heap[j]? = w.heap[j]?

theorem Chg.refl (S : List Nat) (w : World) : Chg S w w := ⟨rfl, rfl, rfl, Nat.le_refl _, fun _ _ _ => rfl⟩
theorem Chg.trans {S : List Nat} {a b c : World} (h : Chg S a b) (k : Chg S b c) : Chg S a c :=
  ⟨k.os.trans h.os, k.tape.trans h.tape, k.output.trans h.output, Nat.le_trans h.size k.size,
   fun j hj hs => (k.block j (Nat.lt_of_lt_of_le hj h.size) hs).trans (h.block j hj hs)⟩
theorem Chg.mono {S S' : List Nat} {w w' : World} (h : Chg S w w') (hs : ∀ j, j ∈ S → j ∈ S') : Chg S' w w' :=
  ⟨h.os, h.tape, h.output, h.size, fun j hj hn => h.block j hj (fun hm => hn (hs j hm))⟩
/-- Blocks that were not there when it began do not count. -/
theorem Chg.fresh {S S' : List Nat} {w w' : World} (h : Chg S w w') (hs : ∀ j, j ∈ S → j ∈ S' ∨ w.heap.size ≤ j) : Chg S' w w' :=
  ⟨h.os, h.tape, h.output, h.size, fun j hj hn => h.block j hj (fun hm => by rcases hs j hm with h1 | h1; exact hn h1; omega)⟩
theorem Chg.drew {S : List Nat} {a w : World} (h : Chg S a w) : Chg S a w.drew := ⟨h.os, h.tape, h.output, h.size, h.block⟩
theorem Chg.drewN {S : List Nat} {a w : World} (n : Nat) (h : Chg S a w) : Chg S a (w.drewN n) := ⟨h.os, h.tape, h.output, h.size, h.block⟩
theorem Chg.undrewN {S : List Nat} {a w : World} {n : Nat} (h : Chg S (a.drewN n) w) : Chg S a w := ⟨h.os, h.tape, h.output, h.size, h.block⟩
theorem Chg.undrew {S : List Nat} {a w : World} (h : Chg S a.drew w) : Chg S a w := ⟨h.os, h.tape, h.output, h.size, h.block⟩
theorem Chg.alloc {S : List Nat} {a w : World} (h : Chg S a w) (o : Obj) : Chg S a (w.alloc o) :=
  ⟨h.os, h.tape, h.output, by have := h.size; simp; omega, fun j hj hs => by
    have := h.size
    rw [Below.heap_alloc _ _ _ (by omega)]; exact h.block j hj hs⟩
theorem Chg.setCell {S : List Nat} {a w : World} (h : Chg S a w) {p : Addr} (hp : p.block ∈ S ∨ a.heap.size ≤ p.block) (u : Value) : Chg S a (w.setCell p u) :=
  ⟨h.os, h.tape, h.output, by simpa using h.size, fun j hj hs => by
    rw [Below.heap_setCell _ _ _ _ (fun e => by subst e; rcases hp with hp | hp; exact hs hp; omega)]; exact h.block j hj hs⟩
theorem Chg.grown {S : List Nat} {a w w' : World} {row : Option Nat} (h : Chg S a w) (hg : w.grownBy w' row) (hr : ∀ k, row = some k → k ∈ S ∨ a.heap.size ≤ k) : Chg S a w' :=
  ⟨hg.os.trans h.os, hg.tape.trans h.tape, hg.output.trans h.output, Nat.le_trans h.size hg.size, fun j hj hs => by
    have h1 := h.size
    rw [hg.block j (by omega) (fun e => by rcases hr j e.symm with h2 | h2; exact hs h2; omega)]; exact h.block j hj hs⟩
theorem Chg.below {S : List Nat} {B : Nat} {w w' : World} (h : Chg S w w') (hB : B ≤ w.heap.size) (hs : ∀ j, j ∈ S → B ≤ j) : Below B w w' :=
  ⟨h.os, h.tape, h.output, h.size, fun k hk => h.block k (by omega) (fun hm => by have := hs k hm; omega)⟩
theorem Chg.at {S : List Nat} {w w' : World} (h : Chg S w w') {b : Nat} {o : Obj} (hb : w.heap[b]? = some o) (hs : b ∉ S) : w'.heap[b]? = some o := by
  have hlt : b < w.heap.size := by
    rcases Nat.lt_or_ge b w.heap.size with h1 | h1
    · exact h1
    · rw [Array.getElem?_eq_none h1] at hb; cases hb
  rw [h.block b hlt hs]; exact hb
theorem Chg.cell {S : List Nat} {w w' : World} (h : Chg S w w') {p : Addr} (hp : p.block < w.heap.size) (hs : p.block ∉ S) : w'.cell? p = w.cell? p :=
  World.cell?_of_block (w := w) (h.block p.block hp hs)

theorem lt_of_heap {w : World} {b : Nat} {o : Obj} (h : w.heap[b]? = some o) : b < w.heap.size := by
  rcases Nat.lt_or_ge b w.heap.size with h1 | h1
  · exact h1
  · rw [Array.getElem?_eq_none h1] at h; cases h
theorem cell_of_heap {w : World} {b : Nat} {cs : Array Value} {t : TypeId} {fr : Nat × Nat} (h : w.heap[b]? = some (.cells cs t fr)) (i : Nat) : w.cell? ⟨b, i, none⟩ = cs[i]? := by
  simp [World.cell?, h]
theorem frozen_of_heap {w : World} {b : Nat} {cs : Array Value} {t : TypeId} (h : w.heap[b]? = some (.cells cs t (0, 0))) (i : Nat) : w.frozen? ⟨b, i, none⟩ = false := by
  simp [World.frozen?, h]
theorem heap_setCell {w : World} {b i : Nat} {cs : Array Value} {t : TypeId} {fr : Nat × Nat} (v : Value) (h : w.heap[b]? = some (.cells cs t fr)) :
    (w.setCell ⟨b, i, none⟩ v).heap[b]? = some (.cells (cs.setIfInBounds i v) t fr) := by
  simp [World.setCell, Array.getElem?_modify, h]
theorem heap_alloc_at (w : World) (o : Obj) : (w.alloc o).heap[w.heap.size]? = some o := by
  show (w.heap.push o)[w.heap.size]? = _
  simp
theorem heap_alloc_lt {w : World} {b : Nat} {o o' : Obj} (h : w.heap[b]? = some o) : (w.alloc o').heap[b]? = some o := by
  rw [Below.heap_alloc _ _ _ (lt_of_heap h)]; exact h
theorem heap_drew (w : World) (b : Nat) : w.drew.heap[b]? = w.heap[b]? := rfl
theorem heap_drewN (w : World) (n b : Nat) : (w.drewN n).heap[b]? = w.heap[b]? := rfl

section
variable {w : World} {b : Nat} {n : Nd}
theorem NodeAt.lt (h : NodeAt w b n) : b < w.heap.size := lt_of_heap h
theorem NodeAt.fz (h : NodeAt w b n) (o : Nat) : w.frozen? ⟨b, o, none⟩ = false := frozen_of_heap h o
theorem NodeAt.c0 (h : NodeAt w b n) : w.cell? ⟨b, 0, none⟩ = some (.string n.id) := cell_of_heap h 0
theorem NodeAt.c1 (h : NodeAt w b n) : w.cell? ⟨b, 1, none⟩ = some (.int .i64 n.size) := cell_of_heap h 1
theorem NodeAt.c2 (h : NodeAt w b n) : w.cell? ⟨b, 2, none⟩ = some (.int .u64 n.term) := cell_of_heap h 2
theorem NodeAt.c3 (h : NodeAt w b n) : w.cell? ⟨b, 3, none⟩ = some (.string n.voted) := cell_of_heap h 3
theorem NodeAt.c4 (h : NodeAt w b n) : w.cell? ⟨b, 4, none⟩ = some (.int .u8 n.role) := cell_of_heap h 4
theorem NodeAt.c5 (h : NodeAt w b n) : w.cell? ⟨b, 5, none⟩ = some n.votes := cell_of_heap h 5
theorem NodeAt.c6 (h : NodeAt w b n) : w.cell? ⟨b, 6, none⟩ = some (.int .u64 n.commit) := cell_of_heap h 6
theorem NodeAt.c7 (h : NodeAt w b n) : w.cell? ⟨b, 7, none⟩ = some (.int .u64 n.applied) := cell_of_heap h 7
theorem NodeAt.c8 (h : NodeAt w b n) : w.cell? ⟨b, 8, none⟩ = some (.int .u64 n.snap) := cell_of_heap h 8
theorem NodeAt.c9 (h : NodeAt w b n) : w.cell? ⟨b, 9, none⟩ = some (.int .u64 0) := cell_of_heap h 9
theorem NodeAt.c10 (h : NodeAt w b n) : w.cell? ⟨b, 10, none⟩ = some n.recs := cell_of_heap h 10
theorem NodeAt.drew (h : NodeAt w b n) : NodeAt w.drew b n := h
theorem NodeAt.drewN (h : NodeAt w b n) (k : Nat) : NodeAt (w.drewN k) b n := h
theorem NodeAt.alloc (h : NodeAt w b n) (o : Obj) : NodeAt (w.alloc o) b n := heap_alloc_lt h
theorem NodeAt.far (h : NodeAt w b n) {p : Addr} (hp : b ≠ p.block) (u : Value) : NodeAt (w.setCell p u) b n := by
  unfold NodeAt; rw [Below.heap_setCell _ _ _ _ hp]; exact h
theorem NodeAt.chg {w' : World} {S : List Nat} (h : NodeAt w b n) (hc : Chg S w w') (hs : b ∉ S) : NodeAt w' b n := hc.at h hs
theorem NodeAt.term (h : NodeAt w b n) (t : Int) : NodeAt (w.setCell ⟨b, 2, none⟩ (.int .u64 t)) b { n with term := t } := heap_setCell _ h
theorem NodeAt.voted (h : NodeAt w b n) (t : ByteArray) : NodeAt (w.setCell ⟨b, 3, none⟩ (.string t)) b { n with voted := t } := heap_setCell _ h
theorem NodeAt.role (h : NodeAt w b n) (t : Int) : NodeAt (w.setCell ⟨b, 4, none⟩ (.int .u8 t)) b { n with role := t } := heap_setCell _ h
theorem NodeAt.votes (h : NodeAt w b n) (t : Value) : NodeAt (w.setCell ⟨b, 5, none⟩ t) b { n with votes := t } := heap_setCell _ h
theorem NodeAt.commit (h : NodeAt w b n) (t : Int) : NodeAt (w.setCell ⟨b, 6, none⟩ (.int .u64 t)) b { n with commit := t } := heap_setCell _ h
theorem NodeAt.applied (h : NodeAt w b n) (t : Int) : NodeAt (w.setCell ⟨b, 7, none⟩ (.int .u64 t)) b { n with applied := t } := heap_setCell _ h
theorem NodeAt.recs (h : NodeAt w b n) (t : Value) : NodeAt (w.setCell ⟨b, 10, none⟩ t) b { n with recs := t } := heap_setCell _ h
end

/-- What 'Observe' makes of a node. -/
def Nd.observe (n : Nd) (t : Int) : Nd := { n with term := t, voted := ⟨#[]⟩, role := 0 }

set_option maxHeartbeats 400000 in
theorem observe_low (b : Nat) (t T : Int) (w : World) (h2 : w.cell? ⟨b, 2, none⟩ = some (.int .u64 T)) (hle : t ≤ T) :
    Calls Yaod.prog 43 #[.pointer (some ⟨b, 0, none⟩), .int .u64 t] w fun e w' => e = .returned (.bool false) ∧ w' = w := by
  go_enter Yaod.func43, Yaod.ntmps43
  go_wp2
  go_ret
  exact ⟨rfl, rfl⟩

set_option maxHeartbeats 400000 in
theorem observe_high (b : Nat) (n : Nd) (t : Int) (w : World) (hn : NodeAt w b n) (hle : n.term < t) :
    Calls Yaod.prog 43 #[.pointer (some ⟨b, 0, none⟩), .int .u64 t] w fun e w' => e = .returned (.bool true) ∧ NodeAt w' b (n.observe t) ∧ Chg [b] w w' := by
  have h2 := hn.c2
  have h3 := hn.c3
  have h4 := hn.c4
  have hf := hn.fz
  have hlt := hn.lt
  have HN : Hid (NodeAt w b n) := hn
  clear hn
  go_enter Yaod.func43, Yaod.ntmps43
  go_wp2
  go_ret
  exact ⟨rfl, ((HN.out.term t).voted _).role _, (((Chg.refl _ _).setCell (by simp) _).setCell (by simp) _).setCell (by simp) _⟩
end Go.Proofs.YgdaogDoor
