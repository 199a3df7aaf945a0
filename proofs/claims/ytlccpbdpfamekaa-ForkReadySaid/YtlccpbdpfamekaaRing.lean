/- Layer 7, ring: what each method does to a ring, said of lists. -/
import Derived.Test.YtlccpbdpfamekaaBase
import Derived.Deep.QuietTactic
import Derived.BigQuiet
namespace Go.Proofs.Ytlccpbdpfamekaa
set_option linter.unusedVariables false
set_option linter.unusedSimpArgs false
open Go.RowKit

/-- Block g is a ring of capacity size with the values L. -/
def RingAt (w : World) (S : Nat → Prop) (g size : Nat) (L : List Int) : Prop :=
  ∃ (at_ : Nat) (vs : List Int), vs.length = 4 ∧ w.heap[g]? = some (.cells ((Value.int .i64 at_ :: .int .i64 L.length :: .int .i64 size :: ints vs).toArray) 117 (0, 0)) ∧ S g ∧
    L.length ≤ size ∧ size ≤ 4 ∧ at_ ≤ 4 ∧ (0 < size → at_ < size) ∧ ∀ i (h : i < L.length), vs[(at_ + i) % size]? = some L[i]

theorem RingAt.move {w w' : World} {S : Nat → Prop} {g size : Nat} {L : List Int} (h : RingAt w S g size L) (hm : ∀ k, S k → w'.heap[k]? = w.heap[k]?) : RingAt w' S g size L := by
  obtain ⟨at_, vs, h1, h2, h3, r⟩ := h
  exact ⟨at_, vs, h1, (hm g h3).trans h2, h3, r⟩

theorem RingAt.mono {w : World} {S T : Nat → Prop} {g size : Nat} {L : List Int} (h : RingAt w S g size L) (hm : ∀ k, S k → T k) : RingAt w T g size L := by
  obtain ⟨at_, vs, h1, h2, h3, r⟩ := h
  exact ⟨at_, vs, h1, h2, hm g h3, r⟩

theorem RingAt.bound {w : World} {S : Nat → Prop} {g size : Nat} {L : List Int} (h : RingAt w S g size L) : RingAt w (fun k => S k ∧ k < w.heap.size) g size L := by
  obtain ⟨at_, vs, h1, h2, h3, r⟩ := h
  exact ⟨at_, vs, h1, h2, ⟨h3, lt_of_block h2⟩, r⟩

theorem RingAt.move' {w w' : World} {S : Nat → Prop} {g size : Nat} {L : List Int} (h : RingAt w S g size L) (hf : Frm Nil w w') : RingAt w' S g size L :=
  (h.bound.move (fun k hk => hf.block k hk.2 id)).mono (fun _ hk => hk.1)

theorem ring_set (a b c : Value) (vs : List Int) (k : Nat) (v m : Int) (hk : k < vs.length) :
    ((a :: b :: c :: ints vs).toArray.setIfInBounds (3 + k) (.int .i64 v)).setIfInBounds 1 (.int .i64 m) = (a :: .int .i64 m :: c :: ints (vs.set k v)).toArray := by
  rw [Nat.add_comm 3 k]
  simp [ints, List.map_set]

theorem mod_two {x s : Nat} (h : x < 2 * s) : x % s = if x < s then x else x - s := by
  split
  · exact Nat.mod_eq_of_lt (by assumption)
  · rw [Nat.mod_eq_sub_mod (by omega), Nat.mod_eq_of_lt (by omega)]

theorem mod_ne {a i n s : Nat} (ha : a < s) (hn : n < s) (hi : i < n) : (a + n) % s ≠ (a + i) % s := by
  rw [mod_two (show a + n < 2 * s by omega), mod_two (show a + i < 2 * s by omega)]
  split <;> split <;> omega

section
variable {w : World} {S : Nat → Prop} {g size : Nat} {L : List Int}

set_option maxHeartbeats 400000 in
theorem ring_new_ok (n : Nat) (hn : n ≤ 4) (w : World) : Calls Try.prog 40 #[.int .i64 n] w fun e w' => ∃ g, e = .returned (.tuple #[.pointer (some ⟨g, 0, none⟩), .int .i64 0]) ∧ RingAt w' (New Nil w w') g n [] ∧ Frm Nil w w' := by
  go_enter Try.func40, Try.ntmps40
  go_wp2
  go_ret2
  exact ⟨w.heap.size, rfl, ⟨0, [0, 0, 0, 0], rfl, heap_alloc_new w _, .inr ⟨Nat.le_refl _, by simp⟩, Nat.zero_le _, hn, by omega, id, fun i h => absurd h (Nat.not_lt_zero _)⟩, (Frm.refl _ _).alloc _⟩

set_option maxHeartbeats 400000 in
theorem ring_new_bad (n : Int) (hn : n < 0 ∨ 4 < n) (w : World) : Calls Try.prog 40 #[.int .i64 n] w fun e w' => e = .returned (.tuple #[.pointer none, .int .i64 1]) ∧ w = w' := by
  rcases hn with hn | hn
  all_goals
    go_enter Try.func40, Try.ntmps40
    go_wp2
    go_ret2
    exact ⟨rfl, rfl⟩

theorem ring_cells {at_ : Nat} {vs : List Int} (hvs : vs.length = 4) (h2 : w.heap[g]? = some (.cells ((Value.int .i64 at_ :: .int .i64 L.length :: .int .i64 size :: ints vs).toArray) 117 (0, 0))) :
    w.cell? ⟨g, 0, none⟩ = some (.int .i64 at_) ∧ w.cell? ⟨g, 1, none⟩ = some (.int .i64 L.length) ∧ w.cell? ⟨g, 2, none⟩ = some (.int .i64 size) ∧ (∀ i v, vs[i]? = some v → w.cell? ⟨g, 3 + i, none⟩ = some (.int .i64 v)) ∧ ∀ i, w.frozen? ⟨g, i, none⟩ = false := by
  refine ⟨by rw [cell_of_row _ _ _ _ _ _ h2]; rfl, by rw [cell_of_row _ _ _ _ _ _ h2]; rfl, by rw [cell_of_row _ _ _ _ _ _ h2]; rfl, fun i v hv => ?_, fun i => by simp [World.frozen?, h2]⟩
  rw [cell_of_row _ _ _ _ _ _ h2]
  rw [Nat.add_comm 3 i]
  obtain ⟨hi, rfl⟩ := List.getElem?_eq_some_iff.1 hv
  simp [ints, hi]

set_option maxHeartbeats 400000 in
theorem ring_len (h : RingAt w S g size L) : Calls Try.prog 51 #[.pointer (some ⟨g, 0, none⟩)] w fun e w' => e = .returned (.int .i64 L.length) ∧ w = w' := by
  obtain ⟨at_, vs, h1, h2, _⟩ := h
  obtain ⟨c0, c1, c2, c3, cf⟩ := ring_cells h1 h2
  go_enter Try.func51, Try.ntmps51
  go_wp2
  go_ret
  exact ⟨rfl, rfl⟩

set_option maxHeartbeats 400000 in
theorem ring_cap (h : RingAt w S g size L) : Calls Try.prog 52 #[.pointer (some ⟨g, 0, none⟩)] w fun e w' => e = .returned (.int .i64 size) ∧ w = w' := by
  obtain ⟨at_, vs, h1, h2, _⟩ := h
  obtain ⟨c0, c1, c2, c3, cf⟩ := ring_cells h1 h2
  go_enter Try.func52, Try.ntmps52
  go_wp2
  go_ret
  exact ⟨rfl, rfl⟩

set_option maxHeartbeats 400000 in
theorem ring_push_full (h : RingAt w S g size L) (hf : L.length = size) (v : Int) : Calls Try.prog 55 #[.pointer (some ⟨g, 0, none⟩), .int .i64 v] w fun e w' => e = .returned (.int .i64 5) ∧ w = w' := by
  have k1 := ring_len h
  have k2 := ring_cap h
  rw [hf] at k1
  have K1 := Lib.hid k1
  have K2 := Lib.hid k2
  clear k1 k2 hf
  go_enter Try.func55, Try.ntmps55
  go_wp2_with (first | (go_at_call 51; refine K1.out.mono ?_; rintro e w' ⟨rfl, rfl⟩) | (go_at_call 52; refine K2.out.mono ?_; rintro e w' ⟨rfl, rfl⟩))
  go_ret
  exact ⟨rfl, rfl⟩

set_option maxHeartbeats 400000 in
theorem ring_push_ok (h : RingAt w S g size L) (hf : L.length < size) (v : Int) : Calls Try.prog 55 #[.pointer (some ⟨g, 0, none⟩), .int .i64 v] w fun e w' => e = .returned (.int .i64 0) ∧ RingAt w' S g size (L ++ [v]) ∧ Frm S w w' := by
  have K1 := Lib.hid (ring_len h)
  have K2 := Lib.hid (ring_cap h)
  obtain ⟨at_, vs, h1, h2, hS, h3, h4, h5, h6, h7⟩ := h
  obtain ⟨c0, c1, c2, c3, cf⟩ := ring_cells h1 h2
  obtain ⟨n, hn⟩ : ∃ n, L.length = n := ⟨_, rfl⟩
  rw [hn] at K1 c1 hf h3
  have hat := h6 (by omega)
  have hk : (at_ + n) % size < 4 := Nat.lt_of_lt_of_le (Nat.mod_lt _ (by omega)) h4
  obtain ⟨k, hkk⟩ : ∃ k, (at_ + n) % size = k := ⟨_, rfl⟩
  rw [hkk] at hk
  obtain ⟨u, hold⟩ : ∃ u, w.cell? ⟨g, 3 + k, none⟩ = some (.int .i64 u) := ⟨_, c3 k _ (List.getElem?_eq_getElem (by omega))⟩
  have hb : ((n : Int) == (size : Int)) = false := by simp; omega
  have hmod : ((at_ : Int) + (n : Int)) % (size : Int) = (k : Int) := by rw [← hkk]; simp
  have hw1 : IntKind.i64.wrap ((at_ : Int) + (n : Int)) = (at_ : Int) + (n : Int) := IntWalk.i64_in _ (by omega)
  have hmt : Int.tmod ((at_ : Int) + (n : Int)) (size : Int) = (k : Int) := by rw [Int.tmod_eq_emod_of_nonneg (by omega)]; exact hmod
  have hs0 : ((size : Int) == 0) = false := by simp; omega
  have hk4 : (k : Int) < 4 := by omega
  have hk0 : (0 : Int) ≤ (k : Int) := by omega
  have H2 := Lib.hid h2
  have H7 := Lib.hid h7
  have HN := Lib.hid hn
  have HK := Lib.hid hkk
  have H6 := Lib.hid h6
  clear c3 h2 h7 hn hkk h6
  go_enter Try.func55, Try.ntmps55
  go_wp2_with (first | (go_at_call 51; refine K1.out.mono ?_; rintro e w' ⟨rfl, rfl⟩) | (go_at_call 52; refine K2.out.mono ?_; rintro e w' ⟨rfl, rfl⟩))
  go_region
  all_goals
    go_wp2_with fail
    go_ret
    refine ⟨rfl, ?_, ((((Frm.refl S w).setCell (p := ⟨g, 3 + k, none⟩) (fun _ => hS) (.int .i64 v)).setCell (p := ⟨g, 1, none⟩) (fun _ => hS) (.int .i64 ((n : Int) + 1))).drew)⟩
    have hn := HN.out
    have hkk := HK.out
    refine ⟨at_, vs.set k v, by rw [List.length_set]; exact h1, ?_, hS, by rw [List.length_append, List.length_singleton]; omega, h4, h5, H6.out, fun i hi => ?_⟩
    · have e1 := blk_set (blk_set H2.out (3 + k) (.int .i64 v)) 1 (.int .i64 ((n : Int) + 1))
      rw [ring_set _ _ _ _ k v _ (by rw [h1]; exact hk)] at e1
      rw [List.length_append, List.length_singleton, hn]
      exact e1
    · rw [List.length_append, List.length_singleton] at hi
      by_cases hin : i < L.length
      · rw [List.getElem_append_left hin, List.getElem?_set_ne (by rw [← hkk]; exact mod_ne hat hf (by omega))]
        exact H7.out i hin
      · have : i = n := by omega
        subst this
        rw [hkk, List.getElem?_set_self (by rw [h1]; exact hk)]
        simp [← hn]

set_option maxHeartbeats 400000 in
theorem ring_at_none (h : RingAt w S g size []) : Calls Try.prog 71 #[.pointer (some ⟨g, 0, none⟩), .int .i64 0] w fun e w' => e = .returned (.tuple #[.int .i64 0, .int .i64 6]) ∧ w = w' := by
  have K1 := Lib.hid (ring_len h)
  go_enter Try.func71, Try.ntmps71
  go_wp2_with (go_at_call 51; refine K1.out.mono ?_; rintro e w' ⟨rfl, rfl⟩)
  go_ret2
  exact ⟨rfl, rfl⟩

set_option maxHeartbeats 400000 in
theorem ring_at_zero {x : Int} (h : RingAt w S g size (x :: L)) : Calls Try.prog 71 #[.pointer (some ⟨g, 0, none⟩), .int .i64 0] w fun e w' => e = .returned (.tuple #[.int .i64 x, .int .i64 0]) ∧ ∃ n, w' = w.drewN n := by
  have K1 := Lib.hid (ring_len h)
  obtain ⟨at_, vs, h1, h2, hS, h3, h4, h5, h6, h7⟩ := h
  obtain ⟨c0, c1, c2, c3, cf⟩ := ring_cells h1 h2
  have hl : 0 < (x :: L).length := by simp
  have hat := h6 (by omega)
  have hx := h7 0 hl
  rw [Nat.add_zero, Nat.mod_eq_of_lt hat] at hx
  have hc := c3 at_ _ hx
  dsimp only [List.getElem_cons_zero] at hc
  obtain ⟨n, hn⟩ : ∃ n, (x :: L).length = n := ⟨_, rfl⟩
  rw [hn] at K1 c1 hl h3
  have ha4 : (at_ : Int) < 4 := by omega
  have hmt : Int.tmod (at_ : Int) (size : Int) = (at_ : Int) := by rw [Int.tmod_eq_emod_of_nonneg (by omega)]; exact Int.emod_eq_of_lt (by omega) (by omega)
  have hmt2 : (at_ : Int) % (size : Int) = (at_ : Int) := Int.emod_eq_of_lt (by omega) (by omega)
  have hw1 : IntKind.i64.wrap ((at_ : Int) + 0) = (at_ : Int) := by rw [Int.add_zero]; exact IntWalk.i64_in _ (by omega)
  have hs0 : ((size : Int) == 0) = false := by simp; omega
  have hs1 : 0 < (size : Int) := by omega
  have hg : decide ((n : Int) ≤ 0) = false := by simp; omega
  clear c3 h2 h7 hn h6 hx
  go_enter Try.func71, Try.ntmps71
  go_wp2_with (go_at_call 51; refine K1.out.mono ?_; rintro e w' ⟨rfl, rfl⟩)
  go_quiet (fail)
  go_wp2_with fail
  go_ret2
  exact ⟨rfl, _, rfl⟩

set_option maxHeartbeats 400000 in
theorem ring_pop_none (h : RingAt w S g size []) : Calls Try.prog 58 #[.pointer (some ⟨g, 0, none⟩)] w fun e w' => e = .returned (.tuple #[.int .i64 0, .int .i64 6]) ∧ w = w' := by
  have K1 := Lib.hid (ring_at_none h)
  go_enter Try.func58, Try.ntmps58
  go_wp2_with (go_at_call 71; refine K1.out.mono ?_; rintro e w' ⟨rfl, rfl⟩)
  go_ret2
  exact ⟨rfl, rfl⟩

set_option maxHeartbeats 400000 in
theorem ring_pop {x : Int} (h : RingAt w S g size (x :: L)) : Calls Try.prog 58 #[.pointer (some ⟨g, 0, none⟩)] w fun e w' => e = .returned (.tuple #[.int .i64 x, .int .i64 0]) ∧ RingAt w' S g size L ∧ Frm S w w' := by
  have K1 := Lib.hid (ring_at_zero h)
  obtain ⟨at_, vs, h1, h2, hS, h3, h4, h5, h6, h7⟩ := h
  obtain ⟨c0, c1, c2, c3, cf⟩ := ring_cells h1 h2
  have hl : 0 < (x :: L).length := by simp
  have hat := h6 (by omega)
  obtain ⟨n, hn⟩ : ∃ n, L.length = n := ⟨_, rfl⟩
  have hn1 : (x :: L).length = n + 1 := by simp [hn]
  rw [hn1] at c1 h3
  obtain ⟨k, hkk⟩ : ∃ k, (at_ + 1) % size = k := ⟨_, rfl⟩
  have hks : k < size := by rw [← hkk]; exact Nat.mod_lt _ (by omega)
  have hmod : ((at_ : Int) + 1) % (size : Int) = (k : Int) := by rw [← hkk]; simp
  have hmt : Int.tmod ((at_ : Int) + 1) (size : Int) = (k : Int) := by rw [Int.tmod_eq_emod_of_nonneg (by omega)]; exact hmod
  have hs0 : ((size : Int) == 0) = false := by simp; omega
  have hs1 : 0 < (size : Int) := by omega
  have H2 := Lib.hid h2
  have H7 := Lib.hid h7
  have HN := Lib.hid hn
  have HK := Lib.hid hkk
  clear c3 h2 h7 hn hn1 h6 hkk
  go_enter Try.func58, Try.ntmps58
  go_wp2_with (go_at_call 71; refine K1.out.mono ?_; rintro e w' ⟨rfl, nq, rfl⟩)
  try go_region
  all_goals
    go_wp2_with fail
    go_ret2
    have hn := HN.out
    have hkk := HK.out
    have e1 := blk_set (blk_set H2.out 0 (.int .i64 k)) 1 (.int .i64 n)
    have f1 := ((Frm.refl S w).setCell (p := ⟨g, 0, none⟩) (fun _ => hS) (.int .i64 k)).setCell (p := ⟨g, 1, none⟩) (fun _ => hS) (.int .i64 n)
    refine ⟨rfl, ⟨k, vs, h1, ?_, hS, by omega, h4, by omega, fun _ => hks, fun i hi => ?_⟩, ⟨f1.os, f1.tape, f1.output, f1.size, f1.block⟩⟩
    · rw [hn]
      simp only [List.setIfInBounds_toArray, List.set_cons_zero, List.set_cons_succ] at e1
      exact e1
    · have := H7.out (i + 1) (by simp; omega)
      rw [List.getElem_cons_succ] at this
      rw [← this, ← hkk]
      congr 1
      rw [Nat.mod_add_mod]
      congr 1
      omega

end

end Go.Proofs.Ytlccpbdpfamekaa
