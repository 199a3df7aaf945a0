/- Texts of the proof, several in one file: Loom13. -/
import Derived.Test.YtcgajljbahbhdaaGreatR18
namespace Go.Proofs.YtcgajljbahbhdaaGreat
set_option linter.unusedVariables false
set_option linter.unusedSimpArgs false
open Go.RowKit
set_option maxRecDepth 100000
theorem checkE_draws {s : ScrM} (h : checkE s = 0) : ∀ z ∈ s.draws, 0 ≤ z ∧ z ≤ 1000 := by
 unfold checkE at h
 split at h
 ·cases h
 ·split at h
  ·cases h
  ·split at h
   ·cases h
   ·split at h
    ·cases h
    ·split at h
     ·cases h
     ·split at h
      ·cases h
      ·split at h
       ·cases h
       ·rename_i h7
        simp only [Bool.not_eq_false] at h7
        intro z hz
        have := List.all_eq_true.1 h7 z hz
        simpa [drawOk] using this
theorem draw_d (s : ScrM) (x : LmM) (n : Nat) : (drawL s x n).2.d ≤ max x.d s.draws.length := by
 unfold drawL
 split
 ·exact Nat.le_max_left _ _
 ·rename_i h
  have := Nat.le_max_right x.d s.draws.length
  dsimp only
  omega
theorem wakes_d (x : LmM) (g ch : Int) (ws : List Wtr) : (wakesL x g ch ws).d = x.d := by
 induction ws generalizing x with
 | nil => rfl
 | cons z a ih =>
  unfold wakesL
  rw [ih]
  split <;> rfl
theorem senders_d (x : LmM) (ws : List Wtr) : (sendersL x ws).d = x.d := by
 induction ws generalizing x with
 | nil => rfl
 | cons z a ih =>
  unfold sendersL
  split
  ·rfl
  ·exact ih _
theorem talk_d (x : LmM) (g : Int) (c : CaseM) (a : Int) : (talkL x g c a).d = x.d := by
 unfold talkL
 dsimp only
 split
 ·rfl
 ·split <;> rfl
theorem alone_d (x : LmM) (g : Int) (c : CaseM) : (aloneL x g c).d = x.d := by
 unfold aloneL
 split
 ·exact talk_d ..
 ·dsimp only
  split <;> rfl
theorem shut_d (x : LmM) (g c : Int) : (shutL x g c).d = x.d := by
 unfold shutL
 dsimp only
 split
 ·rfl
 ·split
  ·rfl
  ·rw [senders_d, wakes_d]
   rfl
theorem choose_d (s : ScrM) (x : LmM) (g : Int) (o : OpM) : (chooseL s x g o).d ≤ max x.d s.draws.length := by
 unfold chooseL
 dsimp only
 split
 ·rw [talk_d]
  exact draw_d ..
 ·split
  ·exact Nat.le_max_left _ _
  ·exact Nat.le_max_left _ _
theorem other_d (x : LmM) (g : Int) (o : OpM) : (otherL x g o).d = x.d := by
 unfold otherL
 split
 ·rfl
 ·split
  ·rfl
  ·split
   ·rfl
   ·split <;> rfl
theorem does_d (s : ScrM) (x : LmM) (g : Int) (o : OpM) : (doesL s x g o).d ≤ max x.d s.draws.length := by
 unfold doesL
 split
 ·rw [alone_d]; exact Nat.le_max_left _ _
 ·split
  ·rw [alone_d]; exact Nat.le_max_left _ _
  ·split
   ·rw [shut_d]; exact Nat.le_max_left _ _
   ·split
    ·exact choose_d ..
    ·rw [other_d]; exact Nat.le_max_left _ _
theorem step_d (s : ScrM) (x : LmM) : (stepL s x).d ≤ max x.d s.draws.length := by
 unfold stepL
 split
 ·exact Nat.le_max_left _ _
 ·split
  ·exact Nat.le_max_left _ _
  ·exact does_d s { x with p := x.p + 1 } _ _
theorem run_d (s : ScrM) : ∀ n, (runL s n).d ≤ s.draws.length
 | 0 => Nat.zero_le _
 | n + 1 => by
  have := step_d s (runL s n)
  have := run_d s n
  unfold runL
  omega
end Go.Proofs.YtcgajljbahbhdaaGreat
