/- Two goroutines, one of which waits: the small case that each statement of layer 11 asks. -/
import Derived.Test.YtlfboploganglaaCrewB
import Derived.Deep.DeepMust
namespace Go.Proofs.Ytlfboploganglaa
set_option linter.unusedVariables false
set_option linter.unusedSimpArgs false
open Go.RowKit

/-- A call that answers true, and leaves alone all that was there. -/
def Yes (w : World) : Ending → World → Prop := fun e w' => e = .returned (.bool true) ∧ Frm Nil w w'

theorem small_of {L : List One} {N : Int} (h : L.all (fun x => decide (0 ≤ x.place) && decide (x.place ≤ N)) = true) : Small L N := by
  intro x hx
  have := List.all_eq_true.1 h x hx
  simpa using this

theorem OnesAt.from_ {tc te : Nat} {w w' : World} {B c : Nat} {L : List One} (h : OnesAt tc te w' (New (From B) w w') c L) (hB : B ≤ w.heap.size) : OnesAt tc te w' (From B) c L := h.mono (new_from hB)

set_option maxHeartbeats 400000 in
theorem two_any (w : World) : Calls Try.prog 9 #[] w (Yes w) := by
  go_enter Try.func9, Try.ntmps9
  go_wp2_with fail
  refine (crew_new w).mono ?_
  rintro e w1 ⟨c, rfl, h1', f1⟩
  have h1 := h1'.mono nil_from
  clear h1'
  go_wp2_with fail
  refine (spawn_eq h1 (by decide) 0 0 0 [⟨0, 0, 0⟩] rfl).mono ?_
  rintro e w2 ⟨rfl, h2', g2⟩
  have h2 := h2'.from_ f1.size
  have f2 := f1.step g2
  clear h2' g2
  go_wp2_with fail
  refine (spawn_eq h2 (by decide) 1 1 0 [⟨0, 0, 0⟩, ⟨1, 0, 0⟩] rfl).mono ?_
  rintro e w3 ⟨rfl, h3', g3⟩
  have h3 := h3'.from_ f2.size
  have f3 := f2.step g3
  clear h3' g3
  go_wp2_with fail
  refine (park_eq h3 (small_of (by decide)) 0 0 [⟨0, 0, 1⟩, ⟨1, 0, 0⟩] rfl).mono ?_
  rintro e w4 ⟨rfl, h4', g4⟩
  have h4 := h4'.from_ f3.size
  have f4 := f3.step g4
  clear h4' g4
  go_wp2_with fail
  refine (exit_eq h4 (small_of (by decide)) 1 0 [⟨0, 0, 1⟩, ⟨1, 0, 2⟩] rfl).mono ?_
  rintro e w5 ⟨rfl, h5', g5⟩
  have h5 := h5'.from_ f4.size
  have f5 := f4.step g5
  clear h5' g5
  go_wp2_with fail
  refine (able_eq h5 (by decide) [] rfl).mono ?_
  rintro e w6 ⟨a, cap, n, rfl, h6, f6⟩
  have e1 := h6.int
  obtain rfl : n = 0 := e1.symm
  clear e1
  have h6' : CrewAt w6 _ c _ := h5.bound.move' f6
  go_wp2_with fail
  refine (over_eq h6' (by decide) 2 rfl).mono ?_
  rintro e w7 ⟨rfl, f7⟩
  go_wp2_with fail
  go_ret
  exact ⟨rfl, (f5.then f6).then f7⟩

/-! ## CrewFull -/
theorem able_all (L : List One) : ∀ k, k ≤ L.length → (∀ x ∈ L, x.state = 0) → (inF L 0 k).length = k
  | 0, _, _ => rfl
  | k + 1, hk, h => by
    have hget : L[k]? = some L[k] := List.getElem?_eq_getElem (by omega)
    rw [inF, List.length_append, able_all L k (by omega) h, hget]
    simp [h L[k] (List.getElem_mem (by omega))]

def fulls (k : Nat) : List One := (List.range k).map fun (i : Nat) => ⟨(i : Int) % 8, 0, 0⟩
theorem fulls_length (k : Nat) : (fulls k).length = k := by simp [fulls]
theorem fulls_succ (k : Nat) : fulls (k + 1) = fulls k ++ [⟨(k : Int) % 8, 0, 0⟩] := by simp [fulls, List.range_succ]
theorem fulls_state (k : Nat) : ∀ x ∈ fulls k, x.state = 0 := by
  intro x hx
  simp only [fulls, List.mem_map] at hx
  obtain ⟨i, _, rfl⟩ := hx
  rfl

set_option maxHeartbeats 400000 in
theorem full_out (m : Int) (h : m < 0 ∨ 20 < m) (w : World) : Calls Try.prog 3 #[.int .i64 m] w (Yes w) := by
  rcases h with h | h
  all_goals
    go_enter Try.func3, Try.ntmps3
    go_wp2_with fail
    refine (crew_new w).mono ?_
    rintro e w1 ⟨c, rfl, h1', f1⟩
    go_wp2_with fail
    refine (two_any w1).mono ?_
    rintro e w2 ⟨rfl, f2⟩
    go_wp2_with fail
    go_ret
    exact ⟨rfl, f1.then f2⟩

set_option maxRecDepth 100000 in
set_option maxHeartbeats 400000 in
theorem full_in (m : Int) (h0 : 0 ≤ m) (h1 : m ≤ 20) (w : World) : Calls Try.prog 3 #[.int .i64 m] w (Yes w) := by
  go_enter Try.func3, Try.ntmps3
  go_wp2_with fail
  refine (crew_new w).mono ?_
  rintro e w1 ⟨c, rfl, h1', f1⟩
  have h2 := h1'.mono nil_from
  clear h1'
  go_wp2_with fail
  go_loopw [4] (fun i wr => ∃ k : Nat, k ≤ 512 ∧ i = .int .i64 k ∧ Frm Nil w wr ∧ CrewAt wr (From w.heap.size) c (fulls k)) (fun i _ => 512 - (intOf i).toNat)
  case atStart => exact ⟨0, Nat.zero_le _, rfl, f1, h2⟩
  case round =>
    obtain ⟨k, hk, rfl, hfr, hc⟩ := hrel
    have hfl := fulls_length k
    by_cases hlt : k < 512
    · have hF : spawnF (fulls k) ((k : Int) % 8) = (((k : Int), 0), fulls (k + 1)) := by
        unfold spawnF
        rw [if_neg (by omega), if_neg (by omega), fulls_succ, hfl]
      have HF := Lib.hid hF
      have HL := Lib.hid hfl
      clear hF hfl
      go_wp2_with (go_at_call 10; go_must (refine (spawn_eq hc (by rw [HL.out]; omega) ((k : Int) % 8) k 0 (fulls (k + 1)) HF.out).mono ?_); rintro e w2 ⟨rfl, h3, f3⟩)
      go_roundw
      case rel => exact ⟨k + 1, by omega, by go_num, hfr.step f3, h3.from_ hfr.size⟩
      case measure => simp [intOf]; omega
    · have hk2 : k = 512 := by omega
      rw [hk2] at hc
      clear hk2 hfl
      have hfl : (fulls 512).length = 512 := fulls_length 512
      have HL := Lib.hid hfl
      clear hfl
      go_wp2
      go_loopw [7] (fun i wr2 => ∃ k : Nat, (k : Int) ≤ m ∧ i = .int .i64 k ∧ Frm Nil w wr2 ∧ CrewAt wr2 (From w.heap.size) c (fulls 512)) (fun i _ => (m - intOf i).toNat)
      case atStart => exact ⟨0, h0, rfl, hfr, hc⟩
      case round =>
        obtain ⟨k, hk, rfl, hfr2, hc2⟩ := hrel
        by_cases hlt : (k : Int) < m
        · have hF : spawnF (fulls 512) 0 = ((0, 5), fulls 512) := by
            unfold spawnF
            rw [if_neg (by omega), if_pos HL.out]
          have HF := Lib.hid hF
          clear hF
          go_wp2_with (go_at_call 10; go_must (refine (spawn_eq hc2 (by rw [HL.out]; omega) 0 0 5 (fulls 512) HF.out).mono ?_); rintro e w2 ⟨rfl, h3, f3⟩)
          go_roundw
          case rel => exact ⟨k + 1, by omega, by go_num, hfr2.step f3, h3.from_ hfr2.size⟩
          case measure => simp [intOf]; omega
        · go_wp2_with fail
          refine (crew_len hc2).mono ?_
          rintro e w2 ⟨rfl, rfl⟩
          have e1 : (ableF (fulls 512)).length = 512 := by
            unfold ableF
            rw [HL.out]
            exact able_all _ 512 (by rw [HL.out]; exact Nat.le_refl _) (fulls_state 512)
          have E1 := Lib.hid e1
          clear e1
          rw [HL.out]
          go_wp2_with fail
          refine (crew_able hc2 (by rw [HL.out]; omega)).mono ?_
          rintro e w3 ⟨a, cap, n, rfl, h6, f6⟩
          obtain rfl : n = 512 := by rw [← h6.int]; exact E1.out
          go_wp2_with fail
          refine (two_any w3).mono ?_
          rintro e w4 ⟨rfl, f7⟩
          go_wp2_with fail
          go_ret
          exact ⟨rfl, (hfr2.then f6).then f7⟩

theorem full_walk (m : Int) (_ : (Lit.int .i64 m).wf = true) (w : World) : Calls Try.prog 3 #[.int .i64 m] w (Yes w) := by
  by_cases h : 0 ≤ m ∧ m ≤ 20
  · exact full_in m h.1 h.2 w
  · exact full_out m (by omega) w

end Go.Proofs.Ytlfboploganglaa
