/- Events: within, in, odd. -/
import Derived.Test.YtoejhelhgfipkaaDoorEntryP
namespace Go.Proofs.YtoejhelhgfipkaaDoor
set_option linter.unusedVariables false
set_option linter.unusedSimpArgs false
open Go.RowKit

theorem r_within (n a b : Int) (w : World) : Calls Tryd.prog 42 #[.int .i64 n, .int .i64 a, .int .i64 b] w fun e w' => e = .returned (.bool (inn a b n)) ∧ w' = w := by
  unfold inn
  by_cases h1 : a ≤ n <;> by_cases h2 : n ≤ b <;> simp only [h1, h2, decide_true, decide_false, Bool.and_true, Bool.and_false]
  all_goals
    go_enter Tryd.func42, Tryd.ntmps42
    go_wp2_with fail
    go_ret
    exact ⟨rfl, rfl⟩

theorem e_in (n a b : Int) (w : World) : Calls Tryd.prog 55 #[.agg #[.int .i64 a, .int .i64 b], .int .i64 n] w fun e w' => e = .returned (.bool (inn a b n)) ∧ Frm Nil w w' := by
  unfold inn
  by_cases h1 : a ≤ n <;> by_cases h2 : n ≤ b <;> simp only [h1, h2, decide_true, decide_false, Bool.and_true, Bool.and_false]
  all_goals
    go_enter Tryd.func55, Tryd.ntmps55
    go_wp2_with fail
    go_ret
    exact ⟨rfl, (Frm.refl _ _).alloc _⟩

set_option maxHeartbeats 2000000 in
theorem e_odd (e : Ev) (w : World) : Calls Tryd.prog 56 #[e.agg] w fun o w' => o = .returned (.bool (oddF e)) ∧ Frm Nil w w' := by
  obtain ⟨kind, g, chan, case_, value, mate, send, ok⟩ := e
  have hb : ∀ x y : Int, (x == y) = decide (x = y) := fun _ _ => rfl
  unfold oddF Ev.agg
  dsimp only
  by_cases h3 : kind = 3
  · subst h3
    rw [if_pos rfl]
    go_enter Tryd.func56, Tryd.ntmps56
    go_wp2_with fail
    go_ret
    exact ⟨rfl, (Frm.refl _ _).alloc _⟩
  · rw [if_neg h3]
    have e3 : (kind == 3) = false := beq_eq_false_iff_ne.2 h3
    by_cases h4 : kind = 4
    · subst h4
      rw [if_pos rfl]
      cases ok
      · by_cases hv : value = 0
        · subst hv
          by_cases hm : mate = -1
          · subst hm
            go_enter Tryd.func56, Tryd.ntmps56
            go_wp2_with fail
            go_ret
            exact ⟨rfl, (Frm.refl _ _).alloc _⟩
          · have em : (mate == -1) = false := beq_eq_false_iff_ne.2 hm
            have em2 : (mate != -1) = true := by simp [hm]
            go_enter Tryd.func56, Tryd.ntmps56
            go_wp2_with fail
            go_ret
            exact ⟨by rw [em2]; rfl, (Frm.refl _ _).alloc _⟩
        · have em : (value == 0) = false := beq_eq_false_iff_ne.2 hv
          have em2 : (value != 0) = true := by simp [hv]
          go_enter Tryd.func56, Tryd.ntmps56
          go_wp2_with fail
          go_ret
          exact ⟨by rw [em2]; rfl, (Frm.refl _ _).alloc _⟩
      · go_enter Tryd.func56, Tryd.ntmps56
        go_wp2_with fail
        go_ret
        exact ⟨rfl, (Frm.refl _ _).alloc _⟩
    · rw [if_neg h4]
      have e4 : (kind == 4) = false := beq_eq_false_iff_ne.2 h4
      by_cases h6 : kind = 6
      · subst h6
        rw [if_pos rfl]
        rcases Decidable.em (value = 0) with hv | hv <;> rcases Decidable.em (0 ≤ case_) with hc | hc <;> rcases Decidable.em (0 ≤ chan) with hh | hh
        all_goals
          have ev : (value == 0) = decide (value = 0) := rfl
          have ev2 : (value != 0) = !decide (value = 0) := rfl
          simp only [hv, hc, hh, decide_true, decide_false, Bool.not_true, Bool.not_false] at ev ev2 ⊢
          cases send
          all_goals
            go_enter Tryd.func56, Tryd.ntmps56
            go_wp2_with fail
            go_ret
            exact ⟨by first | rfl | simp [ev2, hc, hh, hv], (Frm.refl _ _).alloc _⟩
      · rw [if_neg h6]
        have e6 : (kind == 6) = false := beq_eq_false_iff_ne.2 h6
        by_cases h7 : kind = 7
        · subst h7
          rw [if_pos rfl]
          rcases Decidable.em (value = 0) with hv | hv
          all_goals
            have ev : (value == 0) = decide (value = 0) := rfl
            have ev2 : (value != 0) = !decide (value = 0) := rfl
            simp only [hv, decide_true, decide_false, Bool.not_true, Bool.not_false] at ev ev2 ⊢
            cases send <;> cases ok
            all_goals
              go_enter Tryd.func56, Tryd.ntmps56
              go_wp2_with fail
              go_ret
              exact ⟨by first | rfl | simp [ev2, hv], (Frm.refl _ _).alloc _⟩
        · rw [if_neg h7]
          have e7 : (kind == 7) = false := beq_eq_false_iff_ne.2 h7
          go_enter Tryd.func56, Tryd.ntmps56
          go_wp2_with fail
          go_ret
          exact ⟨by first | rfl | simp [hb], (Frm.refl _ _).alloc _⟩

end Go.Proofs.YtoejhelhgfipkaaDoor
