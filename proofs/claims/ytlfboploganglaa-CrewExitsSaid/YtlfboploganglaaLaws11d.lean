/- CrewExits: who exited stays so; a place never falls. -/
import Derived.Test.YtlfboploganglaaLaws11c
namespace Go.Proofs.Ytlfboploganglaa
set_option linter.unusedVariables false
set_option linter.unusedSimpArgs false
open Go.RowKit

def Ranged (M : List One) : Prop := ∀ x ∈ M, 0 ≤ x.state ∧ x.state ≤ 2

theorem stateF_at {M : List One} {k : Nat} (h : k < M.length) : stateF M k = (M[k].state, true) := by
  unfold stateF
  rw [if_pos (by omega), Int.toNat_natCast, List.getElem?_eq_getElem h]

/-- What a step may do to a goroutine: it is there still; if it had exited it has; its place doesn't fall. -/
def Onward (M M' : List One) : Prop := ∀ k (h : k < M.length), ∃ h' : k < M'.length, M[k].place ≤ M'[k].place ∧ (M[k].state = 2 → M'[k].state = 2)

theorem Onward.refl (M : List One) : Onward M M := fun k h => ⟨h, Int.le_refl _, id⟩

theorem spawn_onward (M : List One) (p : Int) : Onward M (spawnF M p).2 := by
  unfold spawnF
  split
  · exact Onward.refl M
  · split
    · exact Onward.refl M
    · intro k h
      refine ⟨by simp; omega, ?_⟩
      rw [List.getElem_append_left h]
      exact ⟨Int.le_refl _, id⟩

theorem turn_onward (M : List One) (g fr to d : Int) (hd : 0 ≤ d) (hf : fr ≠ 2) : Onward M (turnF M g fr to d).2 := by
  unfold turnF
  split
  · split
    · exact Onward.refl M
    · rename_i _ x hx
      split
      · rename_i hs
        obtain ⟨hj, rfl⟩ := List.getElem?_eq_some_iff.1 hx
        intro k h
        refine ⟨by simp; exact h, ?_⟩
        by_cases hk : g.toNat = k
        · subst hk
          simp only [List.getElem_set_self]
          exact ⟨by omega, fun h2 => absurd (hs.symm.trans h2) hf⟩
        · simp only [ne_eq, hk, not_false_eq_true, List.getElem_set_ne]
          exact ⟨Int.le_refl _, id⟩
      · exact Onward.refl M
  · exact Onward.refl M

theorem step_onward (M : List One) (s : Step) : Onward M (stepF M s).2 := by
  unfold stepF
  split
  · exact spawn_onward M s.g
  · repeat' split
    all_goals first | exact turn_onward M _ _ _ _ (by omega) (by omega) | exact Onward.refl M

theorem spawn_ranged {M : List One} (h : Ranged M) (p : Int) : Ranged (spawnF M p).2 := by
  unfold spawnF
  split
  · exact h
  · split
    · exact h
    · intro x hx
      rcases List.mem_append.1 hx with hx | hx
      · exact h x hx
      · rw [List.mem_singleton] at hx
        subst hx
        exact ⟨by dsimp only; omega, by dsimp only; omega⟩

theorem turn_ranged {M : List One} (h : Ranged M) (g fr to d : Int) (h0 : 0 ≤ to) (h2 : to ≤ 2) : Ranged (turnF M g fr to d).2 := by
  unfold turnF
  split
  · split
    · exact h
    · split
      · intro y hy
        rcases List.mem_or_eq_of_mem_set hy with hy | hy
        · exact h y hy
        · subst hy
          exact ⟨h0, h2⟩
      · exact h
  · exact h

theorem step_ranged {M : List One} (h : Ranged M) (s : Step) : Ranged (stepF M s).2 := by
  unfold stepF
  split
  · exact spawn_ranged h s.g
  · repeat' split
    all_goals first | exact turn_ranged h _ _ _ _ (by omega) (by omega) | exact h

/-- What State and At tell behind a step, held against what was told ahead of it. -/
theorem looks (M M' : List One) (g : Int) (ho : Onward M M') (hr : Ranged M') (hp : ∀ x ∈ M', 0 ≤ x.place) :
    (atF M g).2.1 ≤ (atF M' g).2.1 ∧ 0 ≤ (stateF M' g).1 ∧ (stateF M' g).1 ≤ 2 ∧ (stateF M g = (2, true) → stateF M' g = (2, true)) := by
  by_cases hg : 0 ≤ g ∧ g < M.length
  · obtain ⟨k, rfl⟩ := Int.eq_ofNat_of_zero_le hg.1
    have hk : k < M.length := by omega
    obtain ⟨hk', h1, h2⟩ := ho k hk
    rw [atF_some hk, atF_some hk', stateF_at hk, stateF_at hk']
    have := hr M'[k] (List.getElem_mem hk')
    refine ⟨h1, this.1, this.2, fun h => ?_⟩
    injection h with h _
    rw [h2 h]
  · rw [atF_none hg, stateF_none hg]
    by_cases hg' : 0 ≤ g ∧ g < M'.length
    · obtain ⟨k, rfl⟩ := Int.eq_ofNat_of_zero_le hg'.1
      have hk' : k < M'.length := by omega
      rw [atF_some hk', stateF_at hk']
      have := hr M'[k] (List.getElem_mem hk')
      exact ⟨hp M'[k] (List.getElem_mem hk'), this.1, this.2, fun h => by simp at h⟩
    · rw [atF_none hg', stateF_none hg']
      exact ⟨Int.le_refl _, Int.le_refl _, by decide, fun h => by simp at h⟩

theorem state_eq {w : World} {S : Nat → Prop} {c : Nat} {L : List One} (h : CrewAt w S c L) (g st : Int) (t : Bool) (hF : stateF L g = (st, t)) :
    Calls Try.prog 19 #[.pointer (some ⟨c, 0, none⟩), .int .i64 g] w fun e w' => e = .returned (.tuple #[.int .i64 st, .bool t]) ∧ w = w' := by
  have := crew_state h g
  rw [hF] at this
  exact this

set_option maxHeartbeats 400000 in
theorem crewExits_out {a : Option Addr} {cap n : Nat} (hl : 300 < n) (hm : n ≤ 9223372036854775807) (g : Int) (w : World) :
    Calls Try.prog 6 #[.slice a n cap, .int .i64 g] w (Yes w) := by
  go_enter Try.func6, Try.ntmps6
  go_wp2_with fail
  refine (crew_new w).mono ?_
  rintro e w1 ⟨c, rfl, h1', f1⟩
  go_wp2_with fail
  refine (two_any w1).mono ?_
  rintro e w2 ⟨rfl, f2⟩
  go_wp2_with fail
  go_ret
  exact ⟨rfl, f1.then f2⟩

set_option maxRecDepth 100000 in
set_option maxHeartbeats 1000000 in
theorem crewExits_in {a : Option Addr} {cap : Nat} {L : List Step} {w : World} (hl : L.length ≤ 300) (hrd : Rd w 2 a L.length (L.flatMap Step.cells)) (g : Int) :
    Calls Try.prog 6 #[.slice a L.length cap, .int .i64 g] w (Yes w) := by
  go_enter Try.func6, Try.ntmps6
  go_wp2_with fail
  refine (crew_new w).mono ?_
  rintro e w1 ⟨c, rfl, h1', f1⟩
  go_wp2_with fail
  have z1 := Zone.first f1
  have hstart : Both w.heap.size (w1.alloc (.cells #[.slice none 0 0] 42)) (New Nil w w1) (fun k => k = w1.heap.size) c w1.heap.size [] :=
    ⟨h1'.alloc _, ⟨_, heap_alloc_new w1 _, World.ownsRow_nil _ _ _ _, rfl, fun k hk => by cases hk⟩, z1.alloc _, ⟨fun k hk => by subst hk; exact f1.size, fun k hk => by subst hk; simp⟩, fun k hk ht => by subst ht; exact Nat.lt_irrefl _ (z1.hi _ hk)⟩
  have fstart := f1.alloc (.cells #[.slice none 0 0] 42)
  obtain ⟨d, hd⟩ : ∃ d, w1.heap.size = d := ⟨_, rfl⟩
  rw [hd] at hstart ⊢
  clear hd
  go_loopw [7, 8, 33] (fun v7 v8 i wr => ∃ (k : Nat) (ex : Bool) (la : Int) (M : List One) (S T : Nat → Prop), k ≤ L.length ∧ i = .int .i64 k ∧ v7 = .bool ex ∧ v8 = .int .i64 la ∧ Frm Nil w wr ∧ Both w.heap.size wr S T c d M ∧ M.length ≤ k ∧ Small M k ∧ Ranged M ∧ Hid (la = (atF M g).2.1) ∧ Hid (ex = true → stateF M g = (2, true))) (fun _ _ i _ => L.length - (intOf i).toNat)
  case atStart => exact ⟨0, false, 0, [], _, _, Nat.zero_le _, rfl, rfl, rfl, fstart, hstart, Nat.le_refl _, fun x hx => (by cases hx), fun x hx => (by cases hx), (by rw [atF_none (by simp)]; rfl), fun h => (by cases h)⟩
  case round =>
    obtain ⟨k, ex, la, M, S, T, hk, rfl, rfl, rfl, hfr, hb, hMl, hMs, hMr, hla, hex⟩ := hrel
    by_cases hlt : k < L.length
    · obtain ⟨b, off, rfl, hbl, hcells⟩ := step_at hrd (by omega)
      obtain ⟨c1, c2⟩ := hcells k hlt
      rw [← hfr.cell (p := ⟨b, off + k * 2, none⟩) hbl id] at c1
      rw [← hfr.cell (p := ⟨b, off + k * 2 + 1, none⟩) hbl id] at c2
      obtain ⟨s, hs⟩ : ∃ s, L[k] = s := ⟨_, rfl⟩
      rw [hs] at c1 c2
      have hon := step_onward M s
      have hran := step_ranged hMr s
      have hl' := stepF_length M s
      have hs' := stepF_small hMs (by omega) s
      have hdo := fun (w' : World) (S T : Nat → Prop) (h : Both w.heap.size w' S T c d M) (hB : w.heap.size ≤ w'.heap.size) => does_any h hB (by omega) (fun x hx => ⟨(hMs x hx).1, by have := (hMs x hx).2; omega⟩) s
      obtain ⟨M', hM'⟩ : ∃ M', (stepF M s).2 = M' := ⟨_, rfl⟩
      rw [hM'] at hon hran hl' hs' hdo
      obtain ⟨what, sg⟩ := s
      obtain ⟨q1, q2, q3, q4⟩ := looks M M' g hon hran (fun x hx => (hs' x hx).1)
      rw [← hla.out] at q1
      obtain ⟨st, t, hst⟩ : ∃ st t, stateF M' g = (st, t) := ⟨_, _, rfl⟩
      obtain ⟨pr, pl, t', hat⟩ : ∃ pr pl t', atF M' g = (pr, pl, t') := ⟨_, _, _, rfl⟩
      rw [hat] at q1
      rw [hst] at q2 q3
      dsimp only at q1 q2 q3
      have hq4 : ex = true → (st, t) = (2, true) := fun h => by rw [← hst]; exact q4 (hex.out h)
      have HD := Lib.hid hdo
      have HST := Lib.hid hst
      have HAT := Lib.hid hat
      clear hcells hs hon hdo hM' q4 hst hat hex hla
      go_wp2_with fail
      refine (HD.out _ S T (hb.later ((Frm.refl _ _).alloc _)) (Nat.le_trans hfr.size (by simp))).mono ?_
      rintro e w2 ⟨rfl, S', T', hb2, f2⟩
      have f2' : Frm Nil w w2 := (hfr.alloc _).trans f2 (fun x hx hh => hh.elim (fun h => by have := hb.zs.lo x h; omega) (fun h => by have := hb.zt.lo x h; omega))
      clear f2
      go_wp2_with fail
      refine (state_eq hb2.cr g st t HST.out).mono ?_
      rintro e w3 ⟨rfl, rfl⟩
      go_wp2_with fail
      refine (at_eq hb2.cr g pr pl t' HAT.out).mono ?_
      rintro e w3 ⟨rfl, _, f3⟩
      have hb3 := hb2.later f3
      have f3' := f2'.then f3
      have hrel3 : ∀ ex', (ex' = true → stateF M' g = (2, true)) → ∃ (k' : Nat) (ex2 : Bool) (la2 : Int) (M2 : List One) (S T : Nat → Prop), k' ≤ L.length ∧ Value.int .i64 ((k : Int) + 1) = .int .i64 k' ∧ Value.bool ex' = .bool ex2 ∧ Value.int .i64 pl = .int .i64 la2 ∧ Frm Nil w w3 ∧ Both w.heap.size w3 S T c d M2 ∧ M2.length ≤ k' ∧ Small M2 k' ∧ Ranged M2 ∧ Hid (la2 = (atF M2 g).2.1) ∧ Hid (ex2 = true → stateF M2 g = (2, true)) :=
        fun ex' h => ⟨k + 1, ex', pl, M', S', T', by omega, by go_num, rfl, rfl, f3', hb3, by omega, hs', hran, (by rw [HAT.out]; rfl), h⟩
      have HR := Lib.hid hrel3
      clear hrel3 hb3 f3' f3 hb2 f2' hs' hl' hran hMs hMr hMl hfr
      cases ex with
      | true =>
        obtain ⟨rfl, rfl⟩ : st = 2 ∧ t = true := by have := hq4 rfl; injection this; exact ⟨‹_›, ‹_›⟩
        clear hq4
        go_wp2_with fail
        go_roundw
        case rel => exact HR.out true (fun _ => HST.out)
        case measure => simp [intOf]; omega
      | false =>
        clear hq4
        cases t with
        | false =>
          go_wp2_with fail
          go_roundw
          case rel => exact HR.out false (fun h => by cases h)
          case measure => simp [intOf]; omega
        | true =>
          by_cases h2 : st = 2
          · subst h2
            go_wp2_with fail
            go_roundw
            case rel => exact HR.out true (fun _ => HST.out)
            case measure => simp [intOf]; omega
          · have hb2 : (st == 2) = false := by simpa using h2
            clear h2
            go_wp2_with fail
            go_roundw
            case rel => exact HR.out false (fun h => by cases h)
            case measure => simp [intOf]; omega
    · go_wp2_with fail
      refine (two_any wr).mono ?_
      rintro e w2 ⟨rfl, f2⟩
      go_wp2_with fail
      go_ret
      exact ⟨rfl, hfr.then f2⟩

theorem crewExits_walk {v : Value} {L : List Step} {w : World} (hv : ArgSteps w v L) (g : Int) (_ : (Lit.int .i64 g).wf = true) :
    Calls Try.prog 6 #[v, .int .i64 g] w (Yes w) := by
  obtain ⟨a, cap, rfl, hrd⟩ := hv
  have hm := hrd.2.1
  unfold maxLen at hm
  by_cases hl : 300 < L.length
  · exact crewExits_out hl (by omega) g w
  · exact crewExits_in (by omega) hrd g

end Go.Proofs.Ytlfboploganglaa
