/-
  THE WALKS OF slices.Sort AT uint64, at most five elements (after the kit's own walk of insertionSortOrdered at int, turned to this program); the middle of a sorted two-valued row.
-/
import Derived.Test.YgdaogDoorSvE
import Derived.Sort.LotA
import Derived.Sort.Row
import Derived.BigGuard
import Derived.BigCall
import Derived.CellFam
namespace Go.Proofs.YgdaogDoor
open Go.RowKit Go.Sort

set_option maxHeartbeats 400000 in
theorem isNaN_u64 (x : Int) (w : World) : Calls Yaod.prog 80 #[.int .u64 x] w fun e w' => e = .returned (.bool false) ∧ w' = w := by
  go_enter Yaod.func80, Yaod.ntmps80
  go_wp2
  go_ret
  exact ⟨by simp, rfl⟩
set_option maxHeartbeats 400000 in
theorem less_u64 (x y : Int) (w : World) : Calls Yaod.prog 70 #[.int .u64 x, .int .u64 y] w fun e w' => e = .returned (.bool (Sort.ltInt x y)) ∧ w' = w := by
  go_enter Yaod.func70, Yaod.ntmps70
  go_wp2
  go_ret
  exact ⟨rfl, rfl⟩
/-! ### Outside the walk: what each way of a round does to the plain functions -/
section
variable {α : Type} [Inhabited α] (lt : α → α → Bool)
theorem insInner_go (a j : Nat) (d : Array α) (hj : a < j) (hl : lt d[j]! d[j - 1]! = true) : insInner lt a j d = insInner lt a (j - 1) (swp d j (j - 1)) := by
  obtain ⟨k, rfl⟩ : ∃ k, j = k + 1 := ⟨j - 1, by omega⟩
  rw [insInner]
  simp only [Nat.add_sub_cancel] at hl ⊢
  simp [hj, hl]
theorem insInner_stop (a j : Nat) (d : Array α) (h : j ≤ a ∨ lt d[j]! d[j - 1]! = false) : insInner lt a j d = d := by
  cases j with
  | zero => rw [insInner]
  | succ k =>
    rw [insInner]
    simp only [Nat.add_sub_cancel] at h
    rcases h with h | h
    · simp [show ¬ k + 1 > a by omega]
    · simp [h]
theorem insOuter_go (a b i : Nat) (d : Array α) (h : i < b) : insOuter lt a b i d = insOuter lt a b (i + 1) (insInner lt a i d) := by rw [insOuter, if_pos h]
theorem insOuter_stop (a b i : Nat) (d : Array α) (h : ¬ i < b) : insOuter lt a b i d = d := by rw [insOuter, if_neg h]
end

/-! ### Outside the walk: the world behind draws, behind a swap -/
section
variable {α : Type} [Inhabited α] (enc : α → Value)
theorem putRow_drewN (w : World) (m q blk off : Nat) (d : Array α) : (putRow enc (Sort.ahead w m) blk off d).drewN q = putRow enc (Sort.ahead w (m + q)) blk off d := by
  show Sort.ahead (putRow enc (Sort.ahead w m) blk off d) q = _
  rw [putRow_ahead enc w m, ahead_ahead, ← putRow_ahead]
/-- 'data[j], data[k] = data[k], data[j]', q draws on. -/
theorem swap_worldA (w : World) (m q blk off : Nat) (d : Array α) (j k : Nat) (hj : j < d.size) (hk : k < d.size) :
    (((putRow enc (Sort.ahead w m) blk off d).drewN q).setCell ⟨blk, off + j, none⟩ (enc d[k]!)).setCell ⟨blk, off + k, none⟩ (enc d[j]!) = putRow enc (Sort.ahead w (m + q)) blk off (swp d j k) := by
  rw [putRow_drewN]
  exact putRow_swp enc _ blk off d j k hj hk
end

/-- slices.insertionSortOrdered at uint64 computes 'Sort.insertionSort'; nothing else turns but the count of draws. -/
theorem insertionSort_u64 (blk off cap a b : Nat) (d : Array Int) (w : World) (hH : Holds (Value.int .u64) w blk off d) (hab : a ≤ b) (hb : b ≤ d.size) (hsz : d.size < 4611686018427387904) :
    Calls Yaod.prog 64 #[.slice (some ⟨blk, off, none⟩) d.size cap, .int .i64 a, .int .i64 b] w fun e w' =>
      e = .returned (.tuple #[]) ∧ ∃ n, w' = putRow (Value.int .u64) (Sort.ahead w n) blk off (Sort.insertionSort ltInt d a b) := by
  go_enter Yaod.func64, Yaod.ntmps64
  go_wp2
  go_loopw [6] (fun vi wr => ∃ (i n : Nat) (dk : Array Int), vi = .int .i64 i ∧ a < i ∧ i ≤ b + 1 ∧ dk.size = d.size ∧ wr = putRow (Value.int .u64) (Sort.ahead w n) blk off dk ∧
      insOuter ltInt a b i dk = insOuter ltInt a b (a + 1) d) (fun vi _ => b + 1 - (intOf vi).toNat)
  case atStart => exact ⟨a + 1, 0, d, by go_num, by omega, by omega, rfl, (putRow_self _ _ _ _ _ hH).symm, rfl⟩
  case round =>
    obtain ⟨i, n, dk, rfl, hai, hib, hsk, hwr, hO⟩ := hrel
    have HO : Hid (insOuter ltInt a b i dk = insOuter ltInt a b (a + 1) d) := hO
    clear hO
    go_wp2
    · -- i < b: the inner loop
      go_loopw [7] (fun vj wr2 => ∃ (j m : Nat) (dj : Array Int), vj = .int .i64 j ∧ a ≤ j ∧ j ≤ i ∧ dj.size = d.size ∧ wr2 = putRow (Value.int .u64) (Sort.ahead w m) blk off dj ∧
          insInner ltInt a j dj = insInner ltInt a i dk) (fun vj _ => (intOf vj).toNat)
      case atStart => exact ⟨i, n, dk, rfl, by omega, Nat.le_refl _, hsk, rfl, rfl⟩
      case round =>
        obtain ⟨j, m, dj, rfl, haj, hji, hsj, hw2, hI⟩ := hrel
        have hlt : i < b := by assumption
        obtain ⟨G, hG⟩ : ∃ G : Nat → Int, ∀ t, G t = dj[t]! := ⟨fun t => dj[t]!, fun _ => rfl⟩
        have hcw : ∀ t, t < d.size → wr.cell? ⟨blk, off + t, none⟩ = some (.int .u64 (G t)) := fun t ht => by
          rw [hw2, hG]; exact cell?_putRow _ _ _ _ d dj (holds_ahead _ _ _ _ _ _ hH) hsj t (by omega)
        have hfw : ∀ t, t < d.size → wr.frozen? ⟨blk, off + t, none⟩ = false := fun t ht => by
          rw [hw2, frozen?_putRow]; exact ((holds_ahead _ _ m _ _ _ hH) t ht).2
        have HW : Hid (wr = putRow (Value.int .u64) (Sort.ahead w m) blk off dj) := hw2
        have HG : Hid (∀ t, G t = dj[t]!) := hG
        have HI : Hid (insInner ltInt a j dj = insInner ltInt a i dk) := hI
        clear hw2 hG hI hH
        -- out of the inner loop: dj is what the inner loop makes of dk: the outer round's end
        have out : (j ≤ a ∨ ltInt dj[j]! dj[j - 1]! = false) → ∀ q, ∃ i' n' dk', Value.int .i64 ((i : Int) + 1) = .int .i64 (i' : Nat) ∧ a < i' ∧ i' ≤ b + 1 ∧ dk'.size = d.size ∧
            wr.drewN q = putRow (Value.int .u64) (Sort.ahead w n') blk off dk' ∧ insOuter ltInt a b i' dk' = insOuter ltInt a b (a + 1) d := fun hs q =>
          ⟨i + 1, m + q, dj, by go_num, by omega, by omega, hsj, by rw [HW.out]; exact putRow_drewN _ _ _ _ _ _ _,
            by rw [← HO.out, insOuter_go _ _ _ _ _ hlt, ← HI.out, insInner_stop _ _ _ _ hs]⟩
        have OUT : Hid _ := out
        clear out
        go_wp2
        by_cases hja : a < j
        · go_quiet (first | (go_at_call 70; refine Calls.quiet_of_same (less_u64 _ _ _)))
          go_wp2
          · -- Less: the swap, j--
            have hl : ltInt (G j) (G (j - 1)) = true := by assumption
            go_region
            all_goals go_wp2
            go_roundw
            case rel =>
              refine ⟨j - 1, m + (nq + 1), swp dj j (j - 1), by congr 1; omega, by omega, by omega, by rw [size_swp]; exact hsj, ?_, ?_⟩
              · rw [HW.out, HG.out, HG.out]
                exact swap_worldA _ w m (nq + 1) blk off dj j (j - 1) (by omega) (by omega)
              · rw [← HI.out, insInner_go ltInt a j dj hja (by rw [← HG.out, ← HG.out]; exact hl)]
            case measure => simp [intOf]; omega
          · -- not Less
            have hl : ltInt (G j) (G (j - 1)) = false := by assumption
            go_roundw
            case rel => exact OUT.out (Or.inr (by rw [← HG.out, ← HG.out]; exact hl)) nq
            case measure => simp [intOf]; omega
        · go_quiet (first | (go_at_call 70; refine Calls.quiet_of_same (less_u64 _ _ _)))
          go_wp2
          go_roundw
          case rel => exact OUT.out (Or.inl (by omega)) nq
          case measure => simp [intOf]; omega
    · -- the outer loop is at its end
      have hge : ¬ i < b := by assumption
      go_end0
      exact ⟨rfl, n, by unfold Sort.insertionSort; rw [← HO.out, insOuter_stop _ _ _ _ _ hge]⟩

set_option maxRecDepth 100000 in
set_option maxHeartbeats 1000000 in
theorem len64_small (n : Nat) (h : n ≤ 5) (w : World) : Calls Yaod.prog 74 #[.int .u64 n] w fun e w' => (∃ r, e = .returned (.int .i64 r)) ∧ w' = w := by
  match n, h with
  | 0, _ => go_enter Yaod.func74, Yaod.ntmps74; go_wp2; go_ret; exact ⟨⟨_, rfl⟩, rfl⟩
  | 1, _ => go_enter Yaod.func74, Yaod.ntmps74; go_wp2; go_ret; exact ⟨⟨_, rfl⟩, rfl⟩
  | 2, _ => go_enter Yaod.func74, Yaod.ntmps74; go_wp2; go_ret; exact ⟨⟨_, rfl⟩, rfl⟩
  | 3, _ => go_enter Yaod.func74, Yaod.ntmps74; go_wp2; go_ret; exact ⟨⟨_, rfl⟩, rfl⟩
  | 4, _ => go_enter Yaod.func74, Yaod.ntmps74; go_wp2; go_ret; exact ⟨⟨_, rfl⟩, rfl⟩
  | 5, _ => go_enter Yaod.func74, Yaod.ntmps74; go_wp2; go_ret; exact ⟨⟨_, rfl⟩, rfl⟩

set_option maxHeartbeats 1000000 in
theorem len_small (n : Nat) (h : n ≤ 5) (w : World) : Calls Yaod.prog 63 #[.int .u64 n] w fun e w' => (∃ r, e = .returned (.int .i64 r)) ∧ w' = w := by
  go_enter Yaod.func63, Yaod.ntmps63
  go_wp2_with (first | (go_at_call 74; refine (len64_small n h _).mono ?_; rintro e w' ⟨⟨r, rfl⟩, hw⟩; rw [hw]))
  go_ret
  exact ⟨⟨_, rfl⟩, rfl⟩

set_option maxRecDepth 100000 in
set_option maxHeartbeats 1000000 in
theorem pdq_small (blk cap : Nat) (d : Array Int) (w : World) (lim : Int) (hH : Holds (Value.int .u64) w blk 0 d) (hsz : d.size ≤ 5) :
    Calls Yaod.prog 62 #[.slice (some ⟨blk, 0, none⟩) d.size cap, .int .i64 0, .int .i64 d.size, .int .i64 lim] w fun e w' =>
      e = .returned (.tuple #[]) ∧ ∃ n, w' = putRow (Value.int .u64) (Sort.ahead w n) blk 0 (Sort.insertionSort ltInt d 0 d.size) := by
  have c : Calls Yaod.prog 64 #[.slice (some ⟨blk, 0, none⟩) d.size cap, .int .i64 0, .int .i64 d.size] w fun e w' =>
      e = .returned (.tuple #[]) ∧ ∃ n, w' = putRow (Value.int .u64) (Sort.ahead w n) blk 0 (Sort.insertionSort ltInt d 0 d.size) :=
    insertionSort_u64 blk 0 cap 0 d.size d w hH (Nat.zero_le _) (Nat.le_refl _) (by omega)
  clear hH
  generalize Sort.insertionSort ltInt d 0 d.size = d' at *
  generalize d.size = m at *
  have hle : (m : Int) ≤ 12 := by omega
  go_enter Yaod.func62, Yaod.ntmps62
  go_wp2
  refine wp_loop_rounds 1 ?_
  rw [rounds_succ]
  go_wp2_with (first | (go_at_call 64; refine c.mono ?_; rintro e w1 ⟨rfl, q, hw⟩))
  refine bodyPost_ret (results_none rfl _ _ _) rfl ?_
  exact ⟨rfl, q, rfl⟩

set_option maxRecDepth 100000 in
set_option maxHeartbeats 1000000 in
theorem sort_small (blk cap : Nat) (d : Array Int) (w : World) (hH : Holds (Value.int .u64) w blk 0 d) (hsz : d.size ≤ 5) :
    Calls Yaod.prog 60 #[.slice (some ⟨blk, 0, none⟩) d.size cap] w fun e w' =>
      e = .returned (.tuple #[]) ∧ ∃ n, w' = putRow (Value.int .u64) (Sort.ahead w n) blk 0 (Sort.insertionSort ltInt d 0 d.size) := by
  have c := fun lim => pdq_small blk cap d w lim hH hsz
  have cl := len_small d.size hsz w
  clear hH
  generalize Sort.insertionSort ltInt d 0 d.size = d' at *
  generalize d.size = m at *
  go_enter Yaod.func60, Yaod.ntmps60
  go_wp2_with fail
  refine cl.mono ?_
  rintro e w1 ⟨⟨r, rfl⟩, hw⟩
  rw [hw]
  clear hw w1
  go_wp2_with fail
  refine (c r).mono ?_
  rintro e w1 ⟨rfl, q, hw⟩
  go_wp2
  go_end0
  exact ⟨rfl, q, rfl⟩

/-! ### The middle of a sorted two-valued row -/
theorem swo_lt : SWO ltInt where
  irrefl x := by simp [ltInt]
  trans x y z h1 h2 := by simp [ltInt] at *; omega
  ntrans x y z h1 h2 := by simp [ltInt] at *; omega

theorem count_all {l : List Int} {x : Int} (h : ∀ y ∈ l, y = x) : l.count x = l.length := by
  induction l with
  | nil => rfl
  | cons y r ih => rw [h y (by simp)]; simp [ih (fun z hz => h z (by simp [hz]))]
theorem count_two {l : List Int} {x L : Int} (h : ∀ y ∈ l, y = L ∨ y = x) (hx : x ≠ L) : l.count x + l.count L = l.length := by
  induction l with
  | nil => rfl
  | cons y r ih =>
    have := ih (fun z hz => h z (by simp [hz]))
    rcases h y (by simp) with rfl | rfl
    · simp [Ne.symm hx]; omega
    · simp [hx]; omega

theorem median_list (s : List Int) (k a : Nat) (x L : Int) (hs : s.length = k) (hk : 0 < k) (hsort : ∀ i j (hi : i < s.length) (hj : j < s.length), i < j → s[i] ≤ s[j])
    (hall : ∀ y ∈ s, y = L ∨ y = x) (hx : x < L) (hc : s.count L = a) : s[(k - 1) / 2]'(by omega) = if k < 2 * a then L else x := by
  have hm : (k - 1) / 2 < s.length := by omega
  have h2 := count_two hall (by omega)
  have hsplit : s = s.take ((k - 1) / 2) ++ s.drop ((k - 1) / 2) := (List.take_append_drop _ _).symm
  have hsplit1 : s = s.take ((k - 1) / 2 + 1) ++ s.drop ((k - 1) / 2 + 1) := (List.take_append_drop _ _).symm
  rcases hall _ (List.getElem_mem hm) with h | h
  · -- it is L: all from there on are L
    have hd : ∀ y ∈ s.drop ((k - 1) / 2), y = L := by
      intro y hy
      obtain ⟨i, hi, rfl⟩ := List.mem_iff_getElem.1 hy
      rw [List.getElem_drop]
      simp at hi
      rcases Nat.eq_zero_or_pos i with rfl | hp
      · simpa using h
      · have := hsort ((k - 1) / 2) ((k - 1) / 2 + i) hm (by omega) (by omega)
        rcases hall _ (List.getElem_mem (show (k - 1) / 2 + i < s.length by omega)) with h3 | h3
        · exact h3
        · omega
    have hcd := count_all hd
    have : s.count L = (s.take ((k - 1) / 2)).count L + (s.drop ((k - 1) / 2)).count L := by
      conv => lhs; rw [hsplit]
      rw [List.count_append]
    simp at hcd
    rw [h, if_pos (by omega)]
  · have hd : ∀ y ∈ s.take ((k - 1) / 2 + 1), y = x := by
      intro y hy
      obtain ⟨i, hi, rfl⟩ := List.mem_iff_getElem.1 hy
      rw [List.getElem_take]
      simp at hi
      rcases Nat.lt_or_ge i ((k - 1) / 2) with hp | hp
      · have := hsort i ((k - 1) / 2) (by omega) hm hp
        rcases hall _ (List.getElem_mem (show i < s.length by omega)) with h3 | h3
        · omega
        · exact h3
      · have : i = (k - 1) / 2 := by omega
        subst this; exact h
    have hcd := count_all hd
    have : s.count x = (s.take ((k - 1) / 2 + 1)).count x + (s.drop ((k - 1) / 2 + 1)).count x := by
      conv => lhs; rw [hsplit1]
      rw [List.count_append]
    simp at hcd
    rw [h, if_neg (by omega)]
end Go.Proofs.YgdaogDoor
